/- Layer 24: the chapter's example (awake). -/
import Derived.Test.YthkgjhjfgoglhaaDoorBq
set_option linter.unusedSimpArgs false
set_option linter.unusedVariables false
namespace Go.Proofs.YthkgjhjfgoglhaaDoor
open Go.RowKit

theorem wrong_some {p q : Pt} {l : List Bool} {B : Nat} {e : Ending} {W : World} (h : WrongPost (wrongM p q) B e W) (hl : wrongM p q = some l) : ∃ A k c, e = .returned (.tuple #[.agg #[.int .i64 l.length, .slice A k c], .int .i64 0]) ∧ VL W B (.agg #[.int .i64 l.length, .slice A k c]) l := by
  rw [hl] at h
  obtain ⟨v, rfl, hv⟩ := h
  obtain ⟨A, k, c, rfl⟩ := hv.shape
  exact ⟨A, k, c, rfl, hv⟩
theorem PartV.lit {w : World} {base : Nat} {v : Value} {p : Pt} (h : PartV w base v p) : ∃ A1 m1 c1 A2 m2 c2 A3 m3 c3, v = .agg #[.int .i64 p.a.length, .slice A1 m1 c1, .int .i64 p.b.length, .slice A2 m2 c2, .int .i64 p.c.length, .slice A3 m3 c3] := by
  obtain ⟨A1, m1, c1, A2, m2, c2, A3, m3, c3, e, _⟩ := h
  exact ⟨A1, m1, c1, A2, m2, c2, A3, m3, c3, e⟩
theorem reads_one {w : World} {g : Nat} {b : Bool} (h : Has w g 4 #[.bool b]) : Reads w (.slice (some ⟨g, 0, none⟩) 1 1) (bcellsB [b]) := by
  refine ⟨_, 1, rfl, .inr ⟨⟨g, 0, none⟩, rfl, fun k x hx => ?_⟩⟩
  match k, hx with
  | 0, hx => cases hx; exact h.cell 0
set_option maxRecDepth 100000 in
set_option maxHeartbeats 4000000 in
theorem awake_any (w : World) : Calls Tryd.prog 4 #[] w fun x w' => x = .returned (.bool true) ∧ Only (fun _ => False) w w' := by
  generalize hW : ((w.alloc (.cells #[.bool true] 4)).alloc (.cells #[.bool false] 4)) = W3
  have P3 : Has W3 w.heap.size 4 #[.bool true] := by rw [← hW]; exact (Has.new _ _ _).alloc _
  have Q3 : Has W3 (w.heap.size + 1) 4 #[.bool false] := by rw [← hW]; exact has_new2 _ _ _ _
  have O3 : Only (fun _ => False) w W3 := by rw [← hW]; exact ((Only.refl _ _).alloc _).alloc _
  have HW := Lib.hid hW
  clear hW
  go_enter Tryd.func4, Tryd.ntmps4
  go_upto_region 2 with fail
  rw [HW.out]
  go_wp2_with fail
  have RY := reads_one P3
  have RN := reads_one Q3
  refine (of_any _ _ ⟨[true], [true], [false]⟩ ⟨_, _, _, rfl, RY, RY, RN⟩ (by decide) (by decide) (by decide)).mono ?_; rintro e w4 ⟨⟨v4, rfl, hv4⟩, o4⟩
  obtain ⟨A1, m1, c1, A2, m2, c2, A3, m3, c3, rfl⟩ := hv4.lit
  have O4 := O3.trans o4
  have V4 := Lib.hid hv4
  have RY4 := Lib.hid (RY.inner o4)
  have RN4 := Lib.hid (RN.inner o4)
  have S4 := Lib.hid o4.size
  clear hv4 RY RN o4
  go_wp2_with fail
  refine (of_any _ _ ⟨[false], [false], [true]⟩ ⟨_, _, _, rfl, RN4.out, RN4.out, RY4.out⟩ (by decide) (by decide) (by decide)).mono ?_; rintro e w5 ⟨⟨v5, rfl, hv5⟩, o5⟩
  obtain ⟨A4, m4, c4, A5, m5, c5, A6, m6, c6, rfl⟩ := hv5.lit
  have O5 := O4.trans o5
  have V5 := Lib.hid (hv5.mono S4.out)
  have V45 := Lib.hid (V4.out.inner o5)
  clear hv5 o5 V4
  go_wp2_with fail
  refine (wrong_any _ _ _ _ _ _ V45.out V5.out (by decide) (by decide) (by decide)).mono ?_; rintro e w6 ⟨hp, o6⟩
  obtain ⟨B, k, c, rfl, hv6⟩ := wrong_some hp (l := [false]) rfl
  have O6 := O5.trans o6
  have V6 := Lib.hid hv6
  clear hp hv6 o6
  go_wp2_with fail
  have C6 : Has (w6.alloc (.cells #[.int .i64 1, .slice B k c] 30)) w6.heap.size 30 #[.int .i64 1, .slice B k c] := Has.new _ _ _
  have OO6 := O6.alloc (.cells #[.int .i64 1, .slice B k c] 30)
  have VV6 := Lib.hid (V6.out.inner ((Only.refl _ _).alloc (.cells #[.int .i64 1, .slice B k c] 30)))
  refine (blen_any _ _ _ [false] VV6.out).mono ?_; rintro e w7 ⟨rfl, o7⟩
  have C7 := o7.has C6 (fun f => f)
  have VV7 := Lib.hid (VV6.out.inner o7)
  have O7 := OO6.trans o7
  obtain ⟨c0, c1, _⟩ := C7.facts2
  clear o7
  go_wp2_with fail
  refine (bcount_zero _ _ _ [false] VV7.out (by decide) (by intro i; rcases i with _ | i <;> rfl)).mono ?_; rintro e w8 ⟨rfl, o8⟩
  have O8 := O7.trans o8
  go_wp2_with fail
  go_ret
  exact ⟨rfl, O8⟩
end Go.Proofs.YthkgjhjfgoglhaaDoor
