/- Chapter 34: awake. -/
import Derived.Test.YtebamcmcmojneaaDoorBoP
import Derived.Test.YtebamcmcmojneaaDoorArg
import Derived.Deep.LoopGhost
import Derived.LoopTactic
set_option linter.unusedSimpArgs false
set_option linter.unusedVariables false
namespace Go.Proofs.YtebamcmcmojneaaDoor
open Go.RowKit Go.Lib

def nexts : Nat → Sto
  | 0 => s0
  | n + 1 => (nexts n).next
theorem nexts_inv : ∀ n : Nat, n ≤ 100 → Inv (nexts n) n
  | 0, _ => inv0
  | n + 1, h => by
    have := (next_inv (nexts_inv n (by omega)) (by omega)).1
    rw [show ((n + 1 : Nat) : Int) = (n : Int) + 1 by omega]
    exact this

set_option maxRecDepth 100000 in
set_option maxHeartbeats 1000000 in
theorem awake_any (w : World) : Calls Tryd.prog 10 #[] w fun e w' => e = .returned (.bool true) ∧ Only (fun _ => False) w w' := by
  go_enter Tryd.func10, Tryd.ntmps10
  go_wp2_with fail
  refine (snew_any _).mono ?_; rintro e w1 ⟨rfl, a1, o1⟩
  go_wp2_with fail
  go_loopw [2] (fun i W => ∃ (k : Nat), k ≤ 3 ∧ i = .int .u32 ((k : Int) + 1) ∧ SAt W w.heap.size (nexts k) ∧ Only (fun _ => False) w W) (fun i _ => 4 - (intOf i).toNat)
  case atStart => exact ⟨0, by omega, rfl, a1, o1⟩
  case round =>
    obtain ⟨k, hk, rfl, hat, ho⟩ := hrel
    have hlt' : k < 3 ∨ k = 3 := by omega
    rcases hlt' with hlt | rfl
    · have hi := nexts_inv k (by omega)
      have hst := start_any wr w.heap.size (nexts k) hi.short hat (by rw [hi.count]; omega)
      rw [hi.count] at hst
      have HST := Lib.hid hst
      clear hst
      go_wp2_with fail
      refine (HST.out).mono ?_
      rintro e w2 ⟨rfl, a2, o2⟩
      go_wp2_with fail
      go_roundw
      case rel => exact ⟨k + 1, by omega, by go_num, a2, ho.then_ o2 (fun i hi e => absurd hi (by omega))⟩
      case measure => simp only [intOf]; omega
    · have h3 : nexts 3 = s0.next.next.next := rfl
      have hi := nexts_inv 3 (by omega)
      have hl : (nexts 3).last = 0 := by rw [h3, three]
      have hz : (nexts 3).a.size = 12 := by rw [h3, three]; exact rec_size 3
      have ht := tear_some wr w.heap.size (nexts 3) 5 hi.short hat (by rw [hl, if_neg (by decide), hz]; decide)
      rw [show (nexts 3).torn ((5 : Int).toNat) = s3 from three_torn] at ht
      have HT := Lib.hid ht
      have HC := Lib.hid (fun W hW => count_any W w.heap.size s3 s3_short hW)
      rw [s3_count] at HC
      have HS := Lib.hid (fun W hW => start_any W w.heap.size s3 s3_short hW (by rw [s3_count]; decide))
      rw [s3_count] at HS
      clear ht hi hl hz h3
      go_wp2_with fail
      refine (HT.out).mono ?_
      rintro e w2 ⟨rfl, a2, o2⟩
      go_wp2_with fail
      refine (HC.out _ a2).mono ?_
      rintro e w3 ⟨rfl, o3⟩
      have a3 := o3.has a2 (fun f => f)
      go_wp2_with fail
      refine (HS.out _ a3).mono ?_
      rintro e w4 ⟨rfl, a4, o4⟩
      go_wp2_with fail
      go_ret
      exact ⟨rfl, ((ho.then_ o2 (fun i hi e => absurd hi (by omega))).then_ o3 (fun _ _ f => f)).then_ o4 (fun i hi e => absurd hi (by omega))⟩
end Go.Proofs.YtebamcmcmojneaaDoor
