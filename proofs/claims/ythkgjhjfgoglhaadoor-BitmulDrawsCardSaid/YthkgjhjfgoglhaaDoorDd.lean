/- tape: Bits, At. -/
import Derived.Test.YthkgjhjfgoglhaaDoorDc
import Derived.Test.YthkgjhjfgoglhaaDoorTc
set_option linter.unusedSimpArgs false
set_option linter.unusedVariables false
namespace Go.Proofs.YthkgjhjfgoglhaaDoor
open Go.RowKit

def bitI (x : Int) : Bool := decide (x % 2 = 1)
def bitsI (l : List Int) : List Bool := l.map bitI
theorem and_bit (x : Int) (h0 : 0 ≤ x) (h1 : x < 2 ^ 64) : bits .and .u64 x 1 = if bitI x = true then 1 else 0 := by
  rw [u64_and1 x h0 h1]
  unfold bitI
  by_cases h : x % 2 = 1
  · simp [h]
  · have : x % 2 = 0 := by omega
    simp [this]
theorem lf_bits (l : List Int) {i : Nat} (h : i < l.length) : lf (bitsI l) i = bitI (l.getD i 0) := by
  rw [lf_at (by simp [bitsI]; exact h)]
  simp [bitsI, List.getD_eq_getElem?_getD, List.getElem?_eq_getElem h]
set_option maxRecDepth 100000 in
set_option maxHeartbeats 2000000 in
theorem bits_ok (w : World) (T m : Nat) (A : Option Addr) (c : Nat) (l : List Int) (h : TapeAt w T A c l 0) (hl : l.length ≤ 1000000) (hm : m ≤ l.length) (h1 : 1 ≤ m) (hx : ∀ x ∈ l, 0 ≤ x ∧ x < 2 ^ 64) : Calls Tryd.prog 18 #[.pointer (some ⟨T, 0, none⟩), .int .i64 m] w fun x w' => (∃ g, x = .returned (.tuple #[.slice (some ⟨g, 0, none⟩) m m, .nilIface]) ∧ Reads w' (.slice (some ⟨g, 0, none⟩) m m) (bcellsB (bitsI (l.take m)))) ∧ Has w' T 54 #[.slice A l.length c, .int .i64 m, .bool true] ∧ Only (· = T) w w' := by
  have hmk := run_make_row' (P := Tryd.prog) 37 4 (.bool false) 1 Tryd.underlying37 Tryd.info_b rfl .i64 .i64 m (by omega) (by omega)
  have HTK := Lib.hid (take_ok w T m A c l h hl hm h1)
  have hlen : (l.take m).length = m := by simp; omega
  have HLEN := Lib.hid hlen
  have HX := Lib.hid (fun x (hx' : x ∈ l.take m) => hx x (List.mem_of_mem_take hx'))
  have hm6 : m ≤ 1000000 := by omega
  clear hlen h hl hm hx
  generalize l.take m = lm at *
  generalize l.length = n at *
  go_enter Tryd.func18, Tryd.ntmps18
  go_wp2_with fail
  refine (HTK.out).mono ?_; rintro e w1 ⟨⟨B, c2, rfl, hown⟩, hT, o1⟩
  have HR := Lib.hid (Reads.ofOwn hown (by rw [ucells_length]; exact HLEN.out))
  have HT := Lib.hid hT
  have HO1 := Lib.hid o1
  have hr := World.rowIs_made w1 (.bool false) m 4
  have HRW := Lib.hid hr
  have ho : Only (fun _ => False) w1 (w1.alloc (.cells (madeCells #[.bool false] m) 4)) := (Only.refl _ _).alloc _
  have HOO := Lib.hid ho
  clear hown hT o1 HTK hr ho
  go_wp2_with fail
  go_loopw [9, 10, 25] (fun _ _ i W => ∃ k : Nat, k ≤ m ∧ i = .int .i64 k ∧ W.rowIs w1.heap.size 4 m (fun j => .bool (decide (j < k) && bitI (lm.getD j 0))) ∧ Only (fun _ => False) w1 W) (fun _ _ i _ => m - (intOf i).toNat)
  case atStart => exact ⟨0, by omega, rfl, HRW.out.congr (fun i hi => by simp), HOO.out⟩
  case round =>
    obtain ⟨k, hk, rfl, hrow, hO⟩ := hrel
    have hk' : k < m ∨ k = m := by omega
    rcases hk' with hkm | rfl
    · have hki : (k : Int) < (m : Int) := by omega
      have hxk : (ucells lm)[k]? = some (.int .u64 (lm.getD k 0)) := by
        have : k < lm.length := by rw [HLEN.out]; exact hkm
        simp [ucells, List.getD_eq_getElem?_getD, List.getElem?_eq_getElem this]
      have hmem : lm.getD k 0 ∈ lm := by
        have : k < lm.length := by rw [HLEN.out]; exact hkm
        rw [List.getD_eq_getElem?_getD, List.getElem?_eq_getElem this]
        exact List.getElem_mem _
      have hbit := and_bit _ (HX.out _ hmem).1 (HX.out _ hmem).2
      obtain ⟨B', c', e, hcell⟩ := HR.out.shape
      obtain ⟨g, rfl, hc⟩ := hcell k _ hxk
      injection e with e1 e2 e3
      subst e1
      have hcw := hO.cell hc (fun f => f)
      have d0 := hrow.cell hkm
      have df := hrow.frozen k
      have HRO := Lib.hid hrow
      have HOK := Lib.hid hO
      clear hrow hO hc hcell hmem hxk e2 e3
      obtain ⟨x, hxe⟩ : ∃ x, x = lm.getD k 0 := ⟨_, rfl⟩
      rw [← hxe] at hbit hcw
      have HXE := Lib.hid hxe
      clear hxe
      cases hb : bitI x
      all_goals
        rw [hb] at hbit
        simp only [Bool.false_eq_true, ↓reduceIte, if_true, if_false] at hbit
        have HB := Lib.hid hb
        clear hb
        go_wp2_with fail
        go_roundw
        case rel =>
          refine ⟨k + 1, by omega, by go_num, (HRO.out.set k _).congr (fun j hj => ?_), HOK.out.setCell ⟨w1.heap.size, k, none⟩ _ (fun q => absurd q (by show ¬ w1.heap.size < w1.heap.size; omega))⟩
          by_cases hjk : j = k
          · subst hjk
            rw [if_pos rfl, ← HXE.out, HB.out]
            simp
          · rw [if_neg hjk]
            have : (j < k + 1) = (j < k) := by apply propext; omega
            simp [this]
        case measure => simp only [intOf]; omega
    · have hki : ¬ (k : Int) < (k : Int) := by omega
      have HRO := Lib.hid hrow
      have HOK := Lib.hid hO
      clear hrow hO
      go_wp2_with fail
      go_ret2
      refine ⟨⟨w1.heap.size, rfl, ?_⟩, HOK.out.has HT.out (fun f => f), HO1.out.trans (HOK.out.mono (fun _ _ f => f.elim))⟩
      have hrr := Reads.ofRow (n := k) (c := k) HRO.out
      have he : (List.range k).map (fun j => Value.bool (decide (j < k) && bitI (lm.getD j 0))) = bcellsB (bitsI lm) := by
        have hl2 : (bitsI lm).length = k := by simp [bitsI]; exact HLEN.out
        rw [← range_lf2, hl2]
        apply List.map_congr_left
        intro j hj
        have hj' : j < k := List.mem_range.1 hj
        rw [lf_bits lm (by rw [HLEN.out]; exact hj')]
        simp [hj']
      rw [he] at hrr
      exact hrr
set_option maxRecDepth 100000 in
set_option maxHeartbeats 1000000 in
theorem bits_bad (w : World) (T m : Nat) (A : Option Addr) (c : Nat) (l : List Int) (h : TapeAt w T A c l 0) (hl : l.length ≤ 1000000) (hm : l.length < m) (hm2 : m ≤ 1000000) : Calls Tryd.prog 18 #[.pointer (some ⟨T, 0, none⟩), .int .i64 m] w fun x w' => (∃ b, x = .returned (.tuple #[.slice none 0 0, .iface 70 (.pointer (some ⟨b, 0, none⟩))]) ∧ Er w' b 10) ∧ Only (fun _ => False) w w' := by
  have HR := Lib.hid (take_bad w T m A c l h hl hm hm2)
  clear h hm hl hm2
  go_enter Tryd.func18, Tryd.ntmps18
  go_wp2_with fail
  refine (HR.out).mono ?_; rintro e w1 ⟨⟨b, rfl, hb⟩, o1⟩
  have HB := Lib.hid hb
  have HO := Lib.hid o1
  clear hb o1 HR
  go_wp2_with fail
  refine (fwrap_any _ _ _ _).mono ?_; rintro e w2 ⟨rfl, rfl⟩
  go_wp2_with fail
  go_ret2
  exact ⟨⟨_, rfl, HB.out.wrap _⟩, HO.out.alloc _⟩
theorem at_any (w : World) (T : Nat) (v : Value) (n : Int) (b : Value) (h : Has w T 54 #[v, .int .i64 n, b]) : Calls Tryd.prog 10 #[.pointer (some ⟨T, 0, none⟩)] w fun x w' => x = .returned (.int .i64 n) ∧ w = w' := by
  obtain ⟨t0, t1, t2, tf⟩ := Has.facts3 h
  clear h
  go_enter Tryd.func10, Tryd.ntmps10
  go_wp2_with fail
  go_ret
  exact ⟨rfl, rfl⟩
end Go.Proofs.YthkgjhjfgoglhaaDoor
