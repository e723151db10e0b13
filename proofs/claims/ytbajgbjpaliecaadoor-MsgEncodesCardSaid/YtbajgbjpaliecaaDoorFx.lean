/- The reference of layer 8: Fixed and Value, at numbers of at most eight bytes. -/
import Derived.Test.YtbajgbjpaliecaaDoorWr
import Derived.Test.YtbajgbjpaliecaaDoorPut
import Derived.Outline
import Derived.Lib.Hide
import Derived.LoopTactic
import Derived.Deep.RegionHeld3
import Derived.RegionTactic
import Derived.Deep.RegionWith
import Derived.WalkLawsBesides
import Derived.Laws.Concat
set_option linter.unusedSimpArgs false
set_option linter.unusedVariables false
namespace Go.Proofs.YtbajgbjpaliecaaDoor
open Go.RowKit Go.Lib

/-- Bytes, the highest first. -/
def fx (x : Int) : Nat → List Int
  | 0 => []
  | n + 1 => fx (x / 256) n ++ [x % 256]
theorem fx_length (x : Int) : ∀ n, (fx x n).length = n
  | 0 => rfl
  | n + 1 => by simp [fx, fx_length (x / 256) n]
theorem beB_snoc : ∀ (n : Nat) (x : Int), beB (x / 256) n ++ [x % 256] = beB x (n + 1)
  | 0, x => by simp [beB]
  | n + 1, x => by
    have ih := beB_snoc n x
    have e : x / 256 / 2 ^ (8 * n) = x / 2 ^ (8 * (n + 1)) := by
      rw [Int.ediv_ediv_of_nonneg (by decide)]
      congr 1
      rw [show 8 * (n + 1) = 8 + 8 * n by omega, Int.pow_add]
      rfl
    rw [show beB x (n + 1 + 1) = (x / 2 ^ (8 * (n + 1)) % 256) :: beB x (n + 1) from rfl, ← ih, show beB (x / 256) (n + 1) = (x / 256 / 2 ^ (8 * n) % 256) :: beB (x / 256) n from rfl, e]
    rfl
theorem fx_beB : ∀ (n : Nat) (x : Int), fx x n = beB x n
  | 0, _ => rfl
  | n + 1, x => by rw [fx, fx_beB n, beB_snoc]
theorem nums_app (a b : List Int) : strOfNums (a ++ b) = strOfNums a ++ strOfNums b := by
  apply ByteArray.ext
  simp [strOfNums, ByteArray.data_append]
theorem nums_size (l : List Int) : (strOfNums l).size = l.length := by simp [strOfNums, ByteArray.size]

theorem conv_one (W : World) (g : Nat) (b : Int) (hc : W.cell? ⟨g, 0, none⟩ = some (.int .u8 b)) : (convert 52 9 (.slice (some ⟨g, 0, none⟩) 1 1)).run Tryd.prog W = .ok (.string (strOfNums [b])) W := by
  refine run_convert_bytes_arg W 52 5 Tryd.underlying52 Tryd.underlying5 g 0 1 1 [b] rfl (fun i hi => ?_) 9 Tryd.underlying9
  have hi0 : i = 0 := by omega
  subst hi0
  exact hc

set_option maxRecDepth 100000 in
set_option maxHeartbeats 1000000 in
theorem fixed_ref : ∀ (n : Nat) (w : World) (x : Int), 0 ≤ x → x ≤ 18446744073709551615 → n ≤ 8 → Calls Tryd.prog 21 #[.int .u64 x, .int .i64 n] w fun e w' => e = .returned (.string (strOfNums (fx x n))) ∧ Only (fun _ => False) w w'
  | 0, w, x, h0, h1, _ => by
    go_enter Tryd.func21, Tryd.ntmps21
    go_wp2_with fail
    go_ret
    exact ⟨rfl, Only.refl _ _⟩
  | n + 1, w, x, h0, h1, hn => by
    have ih := Lib.hid (fun W => fixed_ref n W (x / 256) (by omega) (by omega) (by omega))
    have hcat := fun W => run_string_add_sum (P := Tryd.prog) (w := W) (strOfNums (fx (x / 256) n)) (strOfNums [x % 256]) (by simp [strOfNums, ByteArray.size, fx_length]; omega)
    have hp : ¬ (((n + 1 : Nat) : Int) ≤ 0) := by omega
    have w1 : IntKind.u64.wrap (x.tdiv 256) = x / 256 := by rw [Int.tdiv_eq_ediv_of_nonneg h0, IntKind.wrap_u64]; omega
    have w2 : IntKind.i64.wrap (n : Int) = n := by rw [IntKind.wrap_i64]; omega
    have w3 : IntKind.u8.wrap (x.tmod 256) = x % 256 := by rw [Int.tmod_eq_emod_of_nonneg h0, IntKind.wrap_u8]; omega
    have hconv : ∀ (W : World) (g : Nat), W.cell? ⟨g, 0, none⟩ = some (.int .u8 (x % 256)) → (convert 52 9 (.slice (some ⟨g, 0, none⟩) 1 1)).run Tryd.prog W = .ok (.string (strOfNums [x % 256])) W := fun W g hc => conv_one W g (x % 256) hc
    have hk : ((n + 1 : Nat) : Int) - 1 = (n : Int) := by omega
    go_enter Tryd.func21, Tryd.ntmps21
    go_wp2_with fail
    go_region_with (go_at_call 21; (with_reducible refine (ih.out _).mono ?_); rintro e w4 ⟨rfl, o3⟩; first | (have q1 : w4.cell? ⟨w.heap.size, 0, none⟩ = some (.int .u8 (x % 256)) := (Only.has o3 (Has.new w.drew 5 #[.int .u8 (x % 256)]) (fun f => f)).cell 0) | skip)
    go_wp2_with fail
    all_goals
      go_ret
      refine ⟨?_, ?_⟩
      · rw [fx, nums_app]
        rfl
      · first
          | with_reducible exact (((Only.refl (fun _ => False) w).drew.trans o3).alloc _)
          | with_reducible exact (((Only.refl (fun _ => False) w).drew.trans o3).alloc _).drew
          | with_reducible exact (((Only.refl (fun _ => False) w).alloc _).drew.trans o3)
          | with_reducible exact (((Only.refl (fun _ => False) w).drew.alloc _).trans o3)
          | with_reducible exact (((Only.refl (fun _ => False) w).drew.alloc _).trans o3).drew
theorem fixedB (w : World) (x : Int) (n : Nat) (h0 : 0 ≤ x) (h1 : x ≤ 18446744073709551615) (hn : n ≤ 8) : Calls Tryd.prog 21 #[.int .u64 x, .int .i64 n] w fun e w' => e = .returned (.string (strOfNums (beB x n))) ∧ Only (fun _ => False) w w' := by
  have h := fixed_ref n w x h0 h1 hn
  rw [fx_beB] at h
  exact h
theorem fixed4B (w : World) (x : Int) (h0 : 0 ≤ x) (h1 : x ≤ 4294967295) : Calls Tryd.prog 21 #[.int .u64 x, .int .i64 4] w fun e w' => e = .returned (.string (strOfNums (beB x 4))) ∧ Only (fun _ => False) w w' := fixedB w x 4 h0 (by omega) (by omega)

end Go.Proofs.YtbajgbjpaliecaaDoor
