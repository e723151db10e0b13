/- The reference of layer 24: Draw where it draws nothing. -/
import Derived.Test.YthkgjhjfgoglhaaDoorDr
set_option linter.unusedSimpArgs false
set_option linter.unusedVariables false
namespace Go.Proofs.YthkgjhjfgoglhaaDoor
open Go.RowKit

theorem res_rd {W : World} {b b' : Nat} {x0 x1 y0 y1 y2 v : Value} {tm : Array Value} (h : Has W b 36 #[x0, x1]) (h' : Has W b' 39 #[y0, y1, y2]) (h4 : tm.getD 4 undef = .pointer (some ⟨b, 0, none⟩)) (h5 : tm.getD 5 undef = .pointer (some ⟨b', 0, none⟩)) (h6 : tm.getD 6 undef = v) :
    (results Tryd.f7 tm).run Tryd.prog W = .ok (.tuple #[.agg #[x0, x1], .agg #[y0, y1, y2], v]) W := by
  obtain ⟨c0, c1, _⟩ := h.facts2
  obtain ⟨d0, d1, d2⟩ := part_facts h'
  simp only [Array.getD_eq_getD_getElem?] at h4 h5 h6
  simp [results, Tryd.results7, go_sem, h4, h5, h6, c0, c1, d0, d1, d2]
theorem has_new3' (w : World) (o o2 : Obj) (t : TypeId) (cs : Array Value) : Has (((w.alloc o).alloc o2).alloc (.cells cs t)) (w.heap.size + 2) t cs := has_new3 w o o2 t cs
/-- Both result blocks are written. -/
theorem rd_end {w W : World} {b1 b2 : Nat} {x0 x1 y0 y1 y2 : Value} {cs1 cs2 : Array Value} (h1 : Has W b1 36 cs1) (h2 : Has W b2 39 cs2) (n1 : cs1.size = 2) (n2 : cs2.size = 3) (hne : b1 ≠ b2) (hb1 : w.heap.size ≤ b1) (hb2 : w.heap.size ≤ b2) (o : Only (fun _ => False) w W) :
    Has (((((W.setCell ⟨b1, 0, none⟩ x0).setCell ⟨b1, 1, none⟩ x1).setCell ⟨b2, 0, none⟩ y0).setCell ⟨b2, 1, none⟩ y1).setCell ⟨b2, 2, none⟩ y2) b1 36 #[x0, x1]
    ∧ Has (((((W.setCell ⟨b1, 0, none⟩ x0).setCell ⟨b1, 1, none⟩ x1).setCell ⟨b2, 0, none⟩ y0).setCell ⟨b2, 1, none⟩ y1).setCell ⟨b2, 2, none⟩ y2) b2 39 #[y0, y1, y2]
    ∧ Only (fun _ => False) w (((((W.setCell ⟨b1, 0, none⟩ x0).setCell ⟨b1, 1, none⟩ x1).setCell ⟨b2, 0, none⟩ y0).setCell ⟨b2, 1, none⟩ y1).setCell ⟨b2, 2, none⟩ y2) := by
  have k1 := Has.put2 h1 n1 x0 x1
  have k2 := Has.off2 h2 (Ne.symm hne) x0 x1
  exact ⟨Has.off3 k1 hne y0 y1 y2, Has.put3 k2 n2 y0 y1 y2, (o.then_ (Only.put2 W b1 x0 x1) (fun i hi e => absurd hi (by have : i = b1 := e; omega))).then_ (Only.put3 _ b2 y0 y1 y2) (fun i hi e => absurd hi (by have : i = b2 := e; omega))⟩
set_option maxRecDepth 100000 in
set_option maxHeartbeats 2000000 in
theorem rdraw_bad2 (w : World) (n : Int) (A : Option Addr) (k c : Nat) (h : n < 1 ∨ n > 4096) : Calls Tryd.prog 7 #[.int .i64 n, .agg #[.slice A k c, .int .i64 0]] w fun x w' => x = .returned (.tuple #[.agg #[.slice A k c, .int .i64 0], .agg #[.slice none 0 0, .slice none 0 0, .slice none 0 0], .int .i64 2]) ∧ Only (fun _ => False) w w' := by
  have HC := Lib.hid (fun W => gd_bad W n h)
  generalize hW : (((w.alloc (.cells #[.slice A k c, .int .i64 0] 36)).alloc (.cells #[.slice none 0 0, .int .i64 0] 36)).alloc (.cells #[.slice none 0 0, .slice none 0 0, .slice none 0 0] 39)) = W3
  have B3 : Has W3 w.heap.size 36 #[.slice A k c, .int .i64 0] := by rw [← hW]; exact ((Has.new _ _ _).alloc _).alloc _
  have R3 : Has W3 (w.heap.size + 1) 36 #[.slice none 0 0, .int .i64 0] := by rw [← hW]; exact (has_new2 _ _ _ _).alloc _
  have S3 : Has W3 (w.heap.size + 2) 39 #[.slice none 0 0, .slice none 0 0, .slice none 0 0] := by rw [← hW]; exact has_new3 _ _ _ _ _
  have O3 : Only (fun _ => False) w W3 := by rw [← hW]; exact (((Only.refl _ _).alloc _).alloc _).alloc _
  have HW := Lib.hid hW
  clear hW h
  go_enter Tryd.func7, Tryd.ntmps7
  go_upto_region 1 with fail
  rw [HW.out]
  obtain ⟨b0, b1, bf⟩ := B3.facts2
  obtain ⟨r0, r1, rf⟩ := R3.facts2
  obtain ⟨s0, s1, s2, sf⟩ := S3.facts3
  go_wp2_with fail
  refine (HC.out _).mono ?_; rintro e w4 ⟨rfl, rfl⟩
  go_wp2_with fail
  obtain ⟨z1, z2, z3⟩ := rd_end (x0 := .slice A k c) (x1 := .int .i64 0) (y0 := .slice none 0 0) (y1 := .slice none 0 0) (y2 := .slice none 0 0) R3 S3 rfl rfl (by omega) (by omega) (by omega) O3
  exact bodyPost_ret (v := .tuple #[.agg #[.slice A k c, .int .i64 0], .agg #[.slice none 0 0, .slice none 0 0, .slice none 0 0], .int .i64 2]) (res_rd z1 z2 rfl rfl rfl) rfl ⟨rfl, z3⟩
end Go.Proofs.YthkgjhjfgoglhaaDoor
