/- The reference of layer 34: Start. -/
import Derived.Test.YtebamcmcmojneaaDoorRef34b
import Derived.Test.YtebamcmcmojneaaDoorPut
set_option linter.unusedSimpArgs false
set_option linter.unusedVariables false
namespace Go.Proofs.YtebamcmcmojneaaDoor
open Go.RowKit Go.Lib

abbrev rst (a b old : ByteArray) (last : Int) : Value := .agg #[.string a, .string b, .int .i64 last, .string old]

theorem res_rst {W : World} {b : Nat} {x0 x1 x2 x3 n m : Value} {tm : Array Value} (h : Has W b 43 #[x0, x1, x2, x3]) (h8 : tm.getD 2 undef = .pointer (some ⟨b, 0, none⟩)) (h9 : tm.getD 3 undef = n) (h10 : tm.getD 4 undef = m) :
    (results Tryd.f13 tm).run Tryd.prog W = .ok (.tuple #[.agg #[x0, x1, x2, x3], n, m]) W := by
  obtain ⟨c0, c1, c2, c3, _⟩ : W.cell? ⟨b, 0, none⟩ = some x0 ∧ W.cell? ⟨b, 1, none⟩ = some x1 ∧ W.cell? ⟨b, 2, none⟩ = some x2 ∧ W.cell? ⟨b, 3, none⟩ = some x3 ∧ True := ⟨h.cell 0, h.cell 1, h.cell 2, h.cell 3, trivial⟩
  simp only [Array.getD_eq_getD_getElem?] at h8 h9 h10
  simp [results, Tryd.results13, go_sem, h8, h9, h10, c0, c1, c2, c3]

set_option maxRecDepth 100000 in
set_option maxHeartbeats 1000000 in
theorem rstart_over (w : World) (a b old : ByteArray) (last : Int) (ha : a.size ≤ 9223372036854775807) (hb : b.size ≤ 9223372036854775807) (hm : 1048575 ≤ max (decV a) (decV b)) : Calls Tryd.prog 13 #[rst a b old last] w fun e w' => e = .returned (.tuple #[rst a b old last, .int .u32 0, .int .i64 20]) ∧ Only (fun _ => False) w w' := by
  have CR := Lib.hid (fun W => count_ref W a b old last ha hb)
  obtain ⟨c, hc⟩ : ∃ c, max (decV a) (decV b) = c := ⟨_, rfl⟩
  rw [hc] at hm CR
  clear hc
  go_enter Tryd.func13, Tryd.ntmps13
  go_wp2_with fail
  refine (CR.out _).mono ?_
  rintro e w1 ⟨rfl, o1⟩
  have hx : RAtS w1 w.heap.size a b old last := o1.has ((Has.new w _ _).alloc _) (fun f => f)
  have hr : RAtS w1 (w.heap.size + 1) ⟨#[]⟩ ⟨#[]⟩ ⟨#[]⟩ 0 := o1.has (by
    have := Has.new (w.alloc (.cells #[.string a, .string b, .int .i64 last, .string old] 43)) 43 #[.string ⟨#[]⟩, .string ⟨#[]⟩, .int .i64 0, .string ⟨#[]⟩]
    simpa using this) (fun f => f)
  obtain ⟨x0, x1, x2, x3, xf⟩ : w1.cell? ⟨w.heap.size, 0, none⟩ = some (.string a) ∧ w1.cell? ⟨w.heap.size, 1, none⟩ = some (.string b) ∧ w1.cell? ⟨w.heap.size, 2, none⟩ = some (.int .i64 last) ∧ w1.cell? ⟨w.heap.size, 3, none⟩ = some (.string old) ∧ (∀ i, w1.frozen? ⟨w.heap.size, i, none⟩ = false) := ⟨hx.cell 0, hx.cell 1, hx.cell 2, hx.cell 3, hx.free⟩
  obtain ⟨r0, r1, r2, r3, rf⟩ : w1.cell? ⟨w.heap.size + 1, 0, none⟩ = some (.string ⟨#[]⟩) ∧ w1.cell? ⟨w.heap.size + 1, 1, none⟩ = some (.string ⟨#[]⟩) ∧ w1.cell? ⟨w.heap.size + 1, 2, none⟩ = some (.int .i64 0) ∧ w1.cell? ⟨w.heap.size + 1, 3, none⟩ = some (.string ⟨#[]⟩) ∧ (∀ i, w1.frozen? ⟨w.heap.size + 1, i, none⟩ = false) := ⟨hr.cell 0, hr.cell 1, hr.cell 2, hr.cell 3, hr.free⟩
  go_wp2_with fail
  refine bodyPost_ret (v := .tuple #[rst a b old last, .int .u32 0, .int .i64 20]) ?hr rfl ?hp
  case hr =>
    refine res_rst (b := w.heap.size + 1) ?_ rfl rfl rfl
    exact hr.put4 rfl _ _ _ _
  case hp =>
    exact ⟨rfl, (((Only.refl (fun _ => False) w).alloc _).alloc _ |>.trans o1).then_ (Only.put4 w1 (w.heap.size + 1) (.string a) (.string b) (.int .i64 last) (.string old)) (fun i hi e => absurd hi (by have : i = w.heap.size + 1 := e; omega))⟩
end Go.Proofs.YtebamcmcmojneaaDoor
