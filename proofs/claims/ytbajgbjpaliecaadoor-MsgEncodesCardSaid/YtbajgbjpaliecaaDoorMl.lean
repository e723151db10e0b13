/- Layer 10: the example; the law MsgChecks walked. -/
import Derived.Test.YtbajgbjpaliecaaDoorMp6
import Derived.Test.YtbajgbjpaliecaaDoorMn
set_option linter.unusedSimpArgs false
set_option linter.unusedVariables false
namespace Go.Proofs.YtbajgbjpaliecaaDoor
open Go.RowKit

def ackM : Mg := ⟨12, 0, 0, 0, ⟨0, 0, 0, 0, 0⟩, 0, 0, 0, 7, 0, ⟨#[]⟩, 0, [], List.replicate 32 0, List.replicate 32 0, []⟩
theorem ack_at (w : World) : MgAt w ackM (.slice none 0 0) (.slice none 0 0) :=
  ⟨⟨by decide, by decide, by decide, by decide, by decide, by decide, by decide, by decide, by decide, by decide, (fun x h => by cases h), by decide, rfl, rfl, by decide, by decide⟩, ⟨none, 0, rfl, fun i h => absurd h (Nat.not_lt_zero i)⟩, ⟨none, 0, rfl, fun i h => absurd h (Nat.not_lt_zero i)⟩⟩
theorem ack_built : Tryd.prog.built 39 [(0, .int .i64 12), (8, .int .u32 7)] = some (ackM.cells (.slice none 0 0) (.slice none 0 0)).toArray := by kernel_rfl
theorem ack_bytes : strOfNums (ackM.kind :: ackM.body) = ⟨#[12, 0, 0, 0, 7]⟩ := by decide +kernel
theorem ack_check : ackM.check = 0 := by decide +kernel
theorem short_of {w : World} {m : Mg} {vs : Value} (h : SlSh w vs m.shares) : m.Short := by
  intro s hs
  obtain ⟨i, hi, rfl⟩ := List.getElem_of_mem hs
  obtain ⟨A, c, _, hc⟩ := h
  obtain ⟨ad, va, vb, vc, _, _, _, _, hu⟩ := hc i hi
  exact ⟨hu.la, hu.lb, hu.lc⟩
set_option maxRecDepth 100000 in
set_option maxHeartbeats 2000000 in
theorem awake10_any (w : World) : Calls Tryd.prog 5 #[] w fun e w' => e = .returned (.bool true) ∧ Only (fun _ => False) w w' := by
  have HE := Lib.hid (encode_ok w ackM _ _ (ack_at w) (short_of (ack_at w).shares) ack_check)
  rw [ack_bytes] at HE
  have HN := Lib.hid (fun W => name_any W 10)
  rw [show nmOf 10 = ⟨#[103, 114, 97, 110, 116]⟩ by decide +kernel] at HN
  have HB := Lib.hid ack_built
  generalize (ackM.cells (.slice none 0 0) (.slice none 0 0)).toArray = cs at *
  go_enter Tryd.func5, Tryd.ntmps5
  go_upto_region 1 with fail
  refine wp_region_lit ?_
  refine wpList_build rfl 39 _ rfl cs HB.out ?_
  go_wp2_with fail
  refine (HE.out).mono ?_; rintro e w1 ⟨rfl, o1⟩
  go_wp2_with fail
  refine (HN.out _).mono ?_; rintro e w2 ⟨rfl, o2⟩
  go_wp2_with fail
  go_ret
  exact ⟨rfl, o1.trans o2⟩
end Go.Proofs.YtbajgbjpaliecaaDoor
