/- shape.number. -/
import Derived.Test.YtigcfgmblnbleaaDoorProg
import Derived.Test.YtigcfgmblnbleaaDoorMem
import Derived.WalkKit
import Derived.WalkSpells
import Derived.WideLaws
import Derived.Outline
import Derived.Lib.Hide
import Derived.LoopTactic
set_option linter.unusedSimpArgs false
set_option linter.unusedVariables false
namespace Go.Proofs.YtigcfgmblnbleaaDoor
open Go.RowKit

def digB (b : UInt8) : Bool := decide (48 ≤ b.toNat ∧ b.toNat ≤ 57)
def valD (l : List UInt8) : Int := l.foldl (fun n b => 10 * n + ((b.toNat : Int) - 48)) 0
/-- What number reads. -/
def numR (s : ByteArray) : Int × Bool := if s.size = 0 ∨ 3 < s.size ∨ s.data.toList.head? = some 48 then (0, false) else if s.data.toList.all digB then (valD s.data.toList, true) else (0, false)
theorem valD_snoc (l : List UInt8) (b : UInt8) : valD (l ++ [b]) = 10 * valD l + ((b.toNat : Int) - 48) := by simp [valD]
theorem pow3 : ∀ k : Nat, k ≤ 3 → (10 : Int) ^ k ≤ 1000
  | 0, _ => by decide
  | 1, _ => by decide
  | 2, _ => by decide
  | 3, _ => by decide
  | _ + 4, h => by omega
theorem take_byte (s : ByteArray) (k : Nat) (h : k < s.size) : s.data.toList.take (k + 1) = s.data.toList.take k ++ [s[k]] := by
  rw [List.take_succ_eq_append_getElem (by simpa using h)]; rfl

theorem head_byte (s : ByteArray) (h : 0 < s.size) : s.data.toList.head? = some s[0] := by
  have hl1 : 0 < s.data.toList.length := by rw [Array.length_toList]; exact h
  rw [List.head?_eq_getElem?, List.getElem?_eq_getElem hl1]
  rfl
theorem snum_ret {a b : Int} {x y : Bool} (h1 : a = b) (h2 : x = y) : Ending.returned (.tuple #[.int .i64 a, .bool x]) = .returned (.tuple #[.int .i64 b, .bool y]) := by rw [h1, h2]

set_option maxRecDepth 100000 in
set_option maxHeartbeats 2000000 in
theorem snum_any (w : World) (s : ByteArray) (hs : s.size ≤ 140737488351232) : Calls Tryd.prog 40 #[.string s] w fun e w' => e = .returned (.tuple #[.int .i64 (numR s).1, .bool (numR s).2]) ∧ w = w' := by
  by_cases h0 : s.size = 0
  · have hr : numR s = (0, false) := by unfold numR; rw [if_pos (.inl h0)]
    rw [hr]
    have he : s = ⟨#[]⟩ := by
      apply ByteArray.ext
      exact Array.eq_empty_of_size_eq_zero h0
    subst he
    clear hr h0
    go_enter Tryd.func40, Tryd.ntmps40
    go_wp2
    go_ret2
    exact ⟨rfl, rfl⟩
  have hne : s.toList.isEmpty = false := by
    rw [ByteArray.toList_eq]
    cases hl : s.data.toList with
    | nil => exact absurd (by rw [show s.size = s.data.toList.length by rw [Array.length_toList]; rfl, hl]; rfl) h0
    | cons a l => rfl
  by_cases h3 : 3 < s.size
  · have hr : numR s = (0, false) := by unfold numR; rw [if_pos (.inr (.inl h3))]
    rw [hr]
    have h3' : (3 : Int) < (s.size : Int) := by omega
    clear hr h0 h3
    go_enter Tryd.func40, Tryd.ntmps40
    go_wp2
    go_ret2
    exact ⟨rfl, rfl⟩
  have h3' : ¬ (3 : Int) < (s.size : Int) := by omega
  have hpos : 0 < s.size := by omega
  have hpos' : (0 : Int) < (s.size : Int) := by omega
  have hh := head_byte s hpos
  by_cases h48 : (s[0].toNat : Int) = 48
  · have hr : numR s = (0, false) := by
      unfold numR
      have he : s[0] = 48 := UInt8.toNat_inj.1 (show s[0].toNat = 48 by omega)
      rw [if_pos (.inr (.inr (by rw [hh, he])))]
    rw [hr]
    have h48' : ((s[0].toNat : Int) == 48) = true := by simpa using h48
    clear hr h0 h3 hh h48
    go_enter Tryd.func40, Tryd.ntmps40
    go_wp2
    go_ret2
    exact ⟨rfl, rfl⟩
  have h48' : ((s[0].toNat : Int) == 48) = false := by simpa using h48
  have hnz : ¬ s.data.toList.head? = some 48 := by
    rw [hh]
    intro e
    apply h48
    rw [Option.some.inj e]
    rfl
  have hr : numR s = if s.data.toList.all digB then (valD s.data.toList, true) else (0, false) := by
    unfold numR
    rw [if_neg]
    rintro (h | h | h)
    · exact h0 h
    · exact h3 h
    · exact hnz h
  have HR := Lib.hid hr
  have hsz3 : s.size ≤ 3 := by omega
  have hlen : s.data.toList.length = s.size := by rw [Array.length_toList]; rfl
  have HLEN := Lib.hid hlen
  clear hr h0 h3 hh h48 hnz hlen
  go_enter Tryd.func40, Tryd.ntmps40
  go_wp2_with fail
  go_loopw [4, 20] (fun n i W => ∃ (k : Nat) (v : Int), k ≤ s.size ∧ i = .int .i64 k ∧ n = .int .i64 v ∧ v = valD (s.data.toList.take k) ∧ (s.data.toList.take k).all digB = true ∧ 0 ≤ v ∧ v < 10 ^ k ∧ W = w) (fun _ i _ => s.size - (intOf i).toNat)
  case atStart => exact ⟨0, 0, by omega, rfl, rfl, rfl, rfl, by decide, by decide, rfl⟩
  case round =>
    obtain ⟨k, v, hk, rfl, rfl, hv, hall, hv0, hv1, rfl⟩ := hrel
    have HV := Lib.hid hv
    have HA := Lib.hid hall
    have hp := pow3 k (by omega)
    have hlt' : k < s.size ∨ k = s.size := by omega
    clear hv hall
    rcases hlt' with hlt | rfl
    · have hk1 : (k : Int) < (s.size : Int) := by omega
      have hb255 : (s[k].toNat : Int) ≤ 255 := by have := s[k].toNat_lt; omega
      have hb0 : 0 ≤ (s[k].toNat : Int) := by omega
      have HT := Lib.hid (take_byte s k hlt)
      by_cases hd : 48 ≤ s[k].toNat ∧ s[k].toNat ≤ 57
      · have hd1 : (48 : Int) ≤ (s[k].toNat : Int) := by omega
        have hd2 : (s[k].toNat : Int) ≤ 57 := by omega
        have HD := Lib.hid hd
        have HP := Lib.hid hv1
        have hv2 : v ≤ 999 := by omega
        clear hd hv1
        go_wp2_with fail
        go_roundw
        case rel =>
          refine ⟨k + 1, 10 * v + ((s[k].toNat : Int) - 48), by omega, by go_num, rfl, ?_, ?_, by omega, ?_, trivial⟩
          · rw [HT.out, valD_snoc, ← HV.out]
          · rw [HT.out, List.all_append, HA.out]
            simpa [digB] using HD.out
          · have := HP.out
            rw [Int.pow_succ]
            omega
        case measure => simp only [intOf]; omega
      · have hc : (s[k].toNat : Int) < 48 ∨ ¬ (s[k].toNat : Int) < 48 ∧ (57 : Int) < (s[k].toNat : Int) := by omega
        have hf : s.data.toList.all digB = false := by
          rw [List.all_eq_false]
          refine ⟨s[k], ?_, ?_⟩
          · have : k < s.data.toList.length := by rw [HLEN.out]; exact hlt
            exact List.getElem_mem this
          · simp only [digB]
            simpa using hd
        have HF := Lib.hid hf
        clear hd hf
        rcases hc with h1 | ⟨h1, h2⟩
        · go_wp2_with fail
          go_ret2
          refine ⟨?_, rfl⟩
          rw [HR.out, if_neg (by rw [HF.out]; decide)]
          rfl
        · go_wp2_with fail
          go_ret2
          refine ⟨?_, rfl⟩
          rw [HR.out, if_neg (by rw [HF.out]; decide)]
          rfl
    · go_wp2_with fail
      go_ret2
      refine ⟨?_, rfl⟩
      have h1 : s.data.toList.take s.size = s.data.toList := List.take_of_length_le (by rw [HLEN.out]; exact Nat.le_refl _)
      have h2 := HA.out
      have h3 := HV.out
      rw [h1] at h2 h3
      rw [HR.out, if_pos h2, ← h3]
      rfl
end Go.Proofs.YtigcfgmblnbleaaDoor
