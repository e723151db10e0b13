/- The reference of layer 8: Fixed and Value, at numbers of at most eight bytes. -/
import Derived.Test.YtkafnkkipflbbaaDoorRn
import Derived.Deep.RegionHeld3
import Derived.RegionTactic
import Derived.Deep.RegionWith
import Derived.WalkLawsBesides
import Derived.Laws.Concat
set_option linter.unusedSimpArgs false
set_option linter.unusedVariables false
namespace Go.Proofs.YtkafnkkipflbbaaDoor
open Go.RowKit Go.Lib

/-- Bytes, the highest first. -/
def fx (x : Int) : Nat → List Int
  | 0 => []
  | n + 1 => fx (x / 256) n ++ [x % 256]
theorem fx_length (x : Int) : ∀ n, (fx x n).length = n
  | 0 => rfl
  | n + 1 => by simp [fx, fx_length (x / 256) n]
theorem beB_snoc : ∀ (n : Nat) (x : Int), beB (x / 256) n ++ [x % 256] = beB x (n + 1)
  | 0, x => by simp [beB]
  | n + 1, x => by
    have ih := beB_snoc n x
    have e : x / 256 / 2 ^ (8 * n) = x / 2 ^ (8 * (n + 1)) := by
      rw [Int.ediv_ediv_of_nonneg (by decide)]
      congr 1
      rw [show 8 * (n + 1) = 8 + 8 * n by omega, Int.pow_add]
      rfl
    rw [show beB x (n + 1 + 1) = (x / 2 ^ (8 * (n + 1)) % 256) :: beB x (n + 1) from rfl, ← ih, show beB (x / 256) (n + 1) = (x / 256 / 2 ^ (8 * n) % 256) :: beB (x / 256) n from rfl, e]
    rfl
theorem fx_beB : ∀ (n : Nat) (x : Int), fx x n = beB x n
  | 0, _ => rfl
  | n + 1, x => by rw [fx, fx_beB n, beB_snoc]
theorem nums_app (a b : List Int) : strOfNums (a ++ b) = strOfNums a ++ strOfNums b := by
  apply ByteArray.ext
  simp [strOfNums, ByteArray.data_append]
theorem nums_size (l : List Int) : (strOfNums l).size = l.length := by simp [strOfNums, ByteArray.size]

theorem conv_one (W : World) (g : Nat) (b : Int) (hc : W.cell? ⟨g, 0, none⟩ = some (.int .u8 b)) : (convert 83 9 (.slice (some ⟨g, 0, none⟩) 1 1)).run Tryd.prog W = .ok (.string (strOfNums [b])) W := by
  refine run_convert_bytes_arg W 83 5 Tryd.underlying83 Tryd.underlying5 g 0 1 1 [b] rfl (fun i hi => ?_) 9 Tryd.underlying9
  have hi0 : i = 0 := by omega
  subst hi0
  exact hc


theorem beV_take (s : ByteArray) (k : Nat) (hk : k < s.size) : beV ((ofStr s).take (k + 1)) = beV ((ofStr s).take k) * 256 + (s[k].toNat : Int) := by
  have hl : k < (ofStr s).length := by rw [ofStr_length]; exact hk
  rw [List.take_succ_eq_append_getElem hl, beV_snoc]
  congr 1
  simp [ofStr]
  rfl
theorem beV_take_bound (s : ByteArray) (k : Nat) (hk : k ≤ s.size) : 0 ≤ beV ((ofStr s).take k) ∧ beV ((ofStr s).take k) < 256 ^ k := by
  have hb := beV_bound ((ofStr s).take k) (fun x hx => ofStr_range s x (List.mem_of_mem_take hx))
  rwa [List.length_take, ofStr_length, Nat.min_eq_left hk] at hb
theorem pow8 (k : Nat) (h : k ≤ 8) : (256 : Int) ^ k ≤ 18446744073709551616 := by
  have hk : k = 0 ∨ k = 1 ∨ k = 2 ∨ k = 3 ∨ k = 4 ∨ k = 5 ∨ k = 6 ∨ k = 7 ∨ k = 8 := by omega
  rcases hk with rfl | rfl | rfl | rfl | rfl | rfl | rfl | rfl | rfl <;> decide
set_option maxRecDepth 100000 in
set_option maxHeartbeats 1000000 in
theorem value_ref (w : World) (s : ByteArray) (hs : s.size ≤ 8) : Calls Tryd.prog 9 #[.string s] w fun e w' => e = .returned (.int .u64 (beV (ofStr s))) ∧ w = w' := by
  go_enter Tryd.func9, Tryd.ntmps9
  go_wp2_with fail
  go_loopw [3, 4] (fun x i W => ∃ (k : Nat), k ≤ s.size ∧ i = .int .i64 k ∧ x = .int .u64 (beV ((ofStr s).take k)) ∧ W = w) (fun _ i _ => s.size - (intOf i).toNat)
  case atStart => exact ⟨0, by omega, rfl, rfl, rfl⟩
  case round =>
    obtain ⟨k, hk, rfl, rfl, rfl⟩ := hrel
    have hlt' : k < s.size ∨ k = s.size := by omega
    rcases hlt' with hlt | rfl
    · have hv := beV_take_bound s k hk
      have hv2 := beV_take_bound s (k + 1) hlt
      have hp := pow8 (k + 1) (by omega)
      have ht := Lib.hid (beV_take s k hlt)
      have hb : (s[k].toNat : Int) ≤ 255 := by have := s[k].toNat_lt; omega
      have hb0 : 0 ≤ (s[k].toNat : Int) := by omega
      have hx : beV ((ofStr s).take k) * 256 + (s[k].toNat : Int) ≤ 18446744073709551615 := by have := ht.out; omega
      have w1 : IntKind.u64.wrap (256 * beV ((ofStr s).take k)) = 256 * beV ((ofStr s).take k) := by rw [IntKind.wrap_u64]; omega
      have w2 : IntKind.u64.wrap (s[k].toNat : Int) = (s[k].toNat : Int) := by rw [IntKind.wrap_u64]; omega
      have w3 : IntKind.u64.wrap (256 * beV ((ofStr s).take k) + (s[k].toNat : Int)) = beV ((ofStr s).take (k + 1)) := by rw [IntKind.wrap_u64, ht.out]; omega
      have hi : (k : Int) < (s.size : Int) := by omega
      clear hv hv2 hp hx
      go_wp2_with fail
      go_roundw
      case rel => exact ⟨k + 1, by omega, by go_num, rfl, trivial⟩
      case measure => simp only [intOf]; omega
    · go_wp2_with fail
      go_ret
      refine ⟨?_, rfl⟩
      rw [List.take_of_length_le (by rw [ofStr_length]; exact Nat.le_refl _)]
      rfl
end Go.Proofs.YtkafnkkipflbbaaDoor
