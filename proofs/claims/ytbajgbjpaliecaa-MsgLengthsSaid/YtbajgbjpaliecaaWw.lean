/- wire.Writer: Words. -/
import Derived.Test.YtbajgbjpaliecaaWr
set_option linter.unusedSimpArgs false
set_option linter.unusedVariables false
namespace Go.Proofs.Ytbajgbjpaliecaa
open Go.RowKit Go.Lib

/-- Words one behind the other. -/
def wordsB (l : List Int) (size : Nat) : List Int := l.flatMap fun x => beB x size
theorem wordsB_length (l : List Int) (size : Nat) : (wordsB l size).length = l.length * size := by
  induction l with
  | nil => simp [wordsB]
  | cons a l ih =>
    have : wordsB (a :: l) size = beB a size ++ wordsB l size := rfl
    rw [this, List.length_append, ih, beB_length, List.length_cons, Nat.add_mul]
    omega
theorem wordsB_snoc (l : List Int) (k size : Nat) (h : k < l.length) : wordsB (l.take (k + 1)) size = wordsB (l.take k) size ++ beB l[k] size := by
  unfold wordsB
  rw [List.take_succ_eq_append_getElem h, List.flatMap_append]
  simp

def u64s (l : List Int) : Array Value := ⟨l.map fun x => .int .u64 x⟩
theorem u64s_get (l : List Int) (k : Nat) (h : k < l.length) : (u64s l)[k]? = some (.int .u64 l[k]) := by
  simp [u64s, h]

set_option maxRecDepth 100000 in
set_option maxHeartbeats 2000000 in
theorem words_any (w : World) (p base : Nat) (v : Value) (bs : List Int) (l : List Int) (g cap size : Nat) (width : Int) (h : WAt w p base v bs) (hg : Has w g 23 (u64s l)) (hx : ∀ x ∈ l, 0 ≤ x ∧ x ≤ 18446744073709551615)
    (hw : (width + 7) / 8 = (size : Int)) (hw0 : 0 ≤ width) (hw1 : width ≤ 64) (hl : l.length ≤ 1000000) (hb : bs.length ≤ 1000000000) :
    Calls Try.prog 48 #[.pointer (some ⟨p, 0, none⟩), .int .i64 width, .slice (some ⟨g, 0, none⟩) l.length cap] w fun e w' => e = .returned (.tuple #[]) ∧ ∃ v', WAt w' p base v' (bs ++ beB l.length 4 ++ wordsB l size) ∧ WStep p v.ownBlock w w' v'.ownBlock := by
  have hsz : size ≤ 8 := by omega
  have w1 : IntKind.u32.wrap (l.length : Int) = (l.length : Int) := by rw [IntKind.wrap_u32]; omega
  have HW := Lib.hid hw
  clear hw
  go_enter Try.func48, Try.ntmps48
  go_wp2_with fail
  refine (u32_any _ _ _ _ _ (l.length : Int) h (by omega) (by omega) (by omega)).mono ?_
  rintro e w2 ⟨rfl, v2, W2, S2⟩
  have g2 := h.keeps S2 hg (by decide) (by decide)
  go_wp2_with fail
  go_loopw [15] (fun i W => ∃ (k : Nat) (u : Value), k ≤ l.length ∧ i = .int .i64 k ∧ WAt W p base u (bs ++ beB l.length 4 ++ wordsB (l.take k) size) ∧ WStep p v.ownBlock w W u.ownBlock ∧ Has W g 23 (u64s l)) (fun i _ => l.length - (intOf i).toNat)
  case atStart => exact ⟨0, v2, by omega, rfl, by simpa [wordsB] using W2, S2, g2⟩
  case round =>
    obtain ⟨k, u, hk, rfl, hW, hS, hG⟩ := hrel
    have hlt' : k < l.length ∨ k = l.length := by omega
    rcases hlt' with hlt | rfl
    · have c0 : wr.cell? ⟨g, k, none⟩ = some (.int .u64 l[k]) := by rw [hG.cell k, u64s_get l k hlt]
      have hr := hx l[k] (List.getElem_mem hlt)
      have hlen : (bs ++ beB l.length 4 ++ wordsB (l.take k) size).length ≤ 100000000000 := by
        rw [List.length_append, List.length_append, beB_length, wordsB_length, List.length_take]
        have : min k l.length * size ≤ 1000000 * 8 := Nat.mul_le_mul (by omega) hsz
        omega
      have HSN := Lib.hid (wordsB_snoc l k size hlt)
      have hk1 : (k : Int) < (l.length : Int) := by omega
      have hq : (width + 7) / 8 = (size : Int) := HW.out
      generalize l[k] = x at *
      go_wp2_with fail
      refine (fixed_any _ _ _ _ _ x size hW hr.1 hr.2 hsz hlen).mono ?_
      rintro e w3 ⟨rfl, v3, W3, S3⟩
      have g3 := hW.keeps S3 hG (by decide) (by decide)
      clear hq
      go_wp2_with fail
      go_roundw
      case rel =>
        refine ⟨k + 1, v3, by omega, by go_num, ?_, hS.trans S3, g3⟩
        rw [HSN.out, ← List.append_assoc]
        exact W3
      case measure => simp only [intOf]; omega
    · go_wp2_with fail
      go_end0
      rw [List.take_length] at hW
      exact ⟨rfl, u, hW, hS⟩
end Go.Proofs.Ytbajgbjpaliecaa
