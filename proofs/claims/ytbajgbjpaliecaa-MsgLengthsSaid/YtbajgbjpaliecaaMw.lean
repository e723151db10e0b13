/- wire.Writer: Words, of a slice that came in. -/
import Derived.Test.YtbajgbjpaliecaaWw
import Derived.Test.YtbajgbjpaliecaaSf
set_option linter.unusedSimpArgs false
set_option linter.unusedVariables false
namespace Go.Proofs.Ytbajgbjpaliecaa
open Go.RowKit

set_option maxRecDepth 100000 in
set_option maxHeartbeats 2000000 in
theorem pwords_any (w0 w : World) (p base : Nat) (v : Value) (bs : List Int) (vl : Value) (l : List Int) (size : Nat) (width : Int) (h : WAt w p base v bs) (hv : SlU w0 vl l) (o : Only (fun _ => False) w0 w) (hp0 : w0.heap.size ≤ p) (hb0 : w0.heap.size ≤ base) (hx : ∀ x ∈ l, 0 ≤ x ∧ x ≤ 18446744073709551615)
    (hw : (width + 7) / 8 = (size : Int)) (hw0 : 0 ≤ width) (hw1 : width ≤ 64) (hl : l.length ≤ 1000000) (hb : bs.length ≤ 1000000000) :
    Calls Try.prog 48 #[.pointer (some ⟨p, 0, none⟩), .int .i64 width, vl] w fun e w' => e = .returned (.tuple #[]) ∧ ∃ v', WAt w' p base v' (bs ++ (beB l.length 4 ++ wordsB l size)) ∧ WStep p v.ownBlock w w' v'.ownBlock := by
  have hsz : size ≤ 8 := by omega
  have w1 : IntKind.u32.wrap (l.length : Int) = (l.length : Int) := by rw [IntKind.wrap_u32]; omega
  have HW := Lib.hid hw
  have HH := Lib.hid h
  obtain ⟨A, cap, rfl, hA⟩ := hv
  have HA := Lib.hid hA
  clear hw hA
  go_enter Try.func48, Try.ntmps48
  go_wp2_with fail
  refine (u32_any _ _ _ _ _ (l.length : Int) h (by omega) (by omega) (by omega)).mono ?_
  rintro e w2 ⟨rfl, v2, W2, S2⟩
  go_wp2_with fail
  go_loopw [15] (fun i W => ∃ (k : Nat) (u : Value), k ≤ l.length ∧ i = .int .i64 k ∧ WAt W p base u (bs ++ beB l.length 4 ++ wordsB (l.take k) size) ∧ WStep p v.ownBlock w W u.ownBlock) (fun i _ => l.length - (intOf i).toNat)
  case atStart => exact ⟨0, v2, by omega, rfl, by simpa [wordsB] using W2, S2⟩
  case round =>
    obtain ⟨k, u, hk, rfl, hW, hS⟩ := hrel
    have hlt' : k < l.length ∨ k = l.length := by omega
    rcases hlt' with hlt | rfl
    · obtain ⟨ad, rfl, c0⟩ := HA.out k hlt
      have c0 := (hS.inner HH.out o hp0 hb0).cell c0 (fun f => f)
      have hr := hx l[k] (List.getElem_mem hlt)
      have hlen : (bs ++ beB l.length 4 ++ wordsB (l.take k) size).length ≤ 100000000000 := by
        rw [List.length_append, List.length_append, beB_length, wordsB_length, List.length_take]
        have : min k l.length * size ≤ 1000000 * 8 := Nat.mul_le_mul (by omega) hsz
        omega
      have HSN := Lib.hid (wordsB_snoc l k size hlt)
      have hk1 : (k : Int) < (l.length : Int) := by omega
      have hq : (width + 7) / 8 = (size : Int) := HW.out
      generalize l[k] = x at *
      go_wp2_with fail
      refine (fixed_any _ _ _ _ _ x size hW hr.1 hr.2 hsz hlen).mono ?_
      rintro e w3 ⟨rfl, v3, W3, S3⟩
      clear hq
      go_wp2_with fail
      go_roundw
      case rel =>
        refine ⟨k + 1, v3, by omega, by go_num, ?_, hS.trans S3⟩
        rw [HSN.out, ← List.append_assoc]
        exact W3
      case measure => simp only [intOf]; omega
    · go_wp2_with fail
      go_end0
      rw [List.take_length] at hW
      refine ⟨rfl, u, ?_, hS⟩
      rw [← List.append_assoc]
      exact hW
end Go.Proofs.Ytbajgbjpaliecaa
