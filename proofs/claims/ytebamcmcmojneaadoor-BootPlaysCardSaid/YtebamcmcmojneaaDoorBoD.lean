/- boot.decode. -/
import Derived.Test.YtebamcmcmojneaaDoorBoE
set_option linter.unusedSimpArgs false
set_option linter.unusedVariables false
namespace Go.Proofs.YtebamcmcmojneaaDoor
open Go.RowKit Go.Lib

set_option maxRecDepth 100000 in
theorem bdecode_len (w : World) (s : ByteArray) (h : s.size ≠ 12) (hs : s.size ≤ 9223372036854775807) : Calls Tryd.prog 16 #[.string s] w fun e w' => e = .returned (.int .u32 0) ∧ w = w' := by
  have hb : ((s.size : Int) != 12) = true := by simp; omega
  go_enter Tryd.func16, Tryd.ntmps16
  go_wp2
  go_ret
  exact ⟨rfl, rfl⟩

/-- The number that the first four bytes are. -/
def by4 (s : ByteArray) (k : Nat) : Int := ((s.data.toList.getD k 0).toNat : Int)
def be4 (s : ByteArray) : Int := by4 s 0 * 16777216 + by4 s 1 * 65536 + by4 s 2 * 256 + by4 s 3
theorem by4_range (s : ByteArray) (k : Nat) : 0 ≤ by4 s k ∧ by4 s k ≤ 255 := by
  have := (s.data.toList.getD k 0).toNat_lt
  unfold by4
  omega
theorem be4_range (s : ByteArray) : 0 ≤ be4 s ∧ be4 s ≤ 4294967295 := by
  have h0 := by4_range s 0
  have h1 := by4_range s 1
  have h2 := by4_range s 2
  have h3 := by4_range s 3
  unfold be4
  omega
theorem by4_at (s : ByteArray) (k : Nat) (h : k < s.size) : ((s[k]'h).toNat : Int) = by4 s k := by
  have h' : k < s.data.toList.length := by rw [Array.length_toList]; exact h
  unfold by4
  rw [List.getD_eq_getElem?_getD, List.getElem?_eq_getElem h', Option.getD_some, Array.getElem_toList]
  rfl
theorem wraps_u32 (n : Int) (h0 : 0 ≤ n) (h1 : n < 2 ^ 32) : IntKind.u32.wrap n = n := by rw [IntKind.wrap_u32]; omega
theorem or_be4 (a b c d : Int) (ha : 0 ≤ a ∧ a ≤ 255) (hb : 0 ≤ b ∧ b ≤ 255) (hc : 0 ≤ c ∧ c ≤ 255) (hd : 0 ≤ d ∧ d ≤ 255) :
    bits .or .u32 (bits .or .u32 (bits .or .u32 (a % 4294967296 * 16777216 % 4294967296) (b % 4294967296 * 65536 % 4294967296)) (c % 4294967296 * 256 % 4294967296)) (d % 4294967296) = a * 16777216 + b * 65536 + c * 256 + d := by
  rw [show a % 4294967296 * 16777216 % 4294967296 = a * 16777216 by omega, show b % 4294967296 * 65536 % 4294967296 = b * 65536 by omega, show c % 4294967296 * 256 % 4294967296 = c * 256 by omega, show d % 4294967296 = d by omega]
  rw [bits_join .u32 32 (by decide) wraps_u32 24 (a * 16777216) (b * 65536) (by omega) (by omega) (by omega) (by omega) (by omega) (by omega)]
  rw [bits_join .u32 32 (by decide) wraps_u32 16 (a * 16777216 + b * 65536) (c * 256) (by omega) (by omega) (by omega) (by omega) (by omega) (by omega)]
  rw [bits_join .u32 32 (by decide) wraps_u32 8 (a * 16777216 + b * 65536 + c * 256) d (by omega) (by omega) (by omega) (by omega) (by omega) (by omega)]

def decV (s : ByteArray) : Int := if s.size = 12 then if recS (be4 s) = s then be4 s else 0 else 0

theorem str_ne (a b : ByteArray) : (a.toList == b.toList) = decide (a = b) := by
  rw [ByteArray.toList_eq, ByteArray.toList_eq]
  by_cases h : a = b
  · subst h; simp
  · have : ¬ a.data = b.data := fun e => h (ByteArray.ext e)
    simp [h, this]

set_option maxRecDepth 100000 in
set_option maxHeartbeats 1000000 in
theorem bdecode_any (w : World) (s : ByteArray) (hs : s.size ≤ 9223372036854775807) : Calls Tryd.prog 16 #[.string s] w fun e w' => e = .returned (.int .u32 (decV s)) ∧ Only (fun _ => False) w w' := by
  by_cases h : s.size = 12
  · have hb : ((s.size : Int) != 12) = false := by simp; omega
    have h0 : 0 < s.size := by omega
    have h1 : 1 < s.size := by omega
    have h2 : 2 < s.size := by omega
    have h3 : 3 < s.size := by omega
    have i1 : (1 : Int) < (s.size : Int) := by omega
    have i2 : (2 : Int) < (s.size : Int) := by omega
    have i3 : (3 : Int) < (s.size : Int) := by omega
    have hor : _ = be4 s := or_be4 (by4 s 0) (by4 s 1) (by4 s 2) (by4 s 3) (by4_range s 0) (by4_range s 1) (by4_range s 2) (by4_range s 3)
    rw [← by4_at s 0 h0, ← by4_at s 1 h1, ← by4_at s 2 h2, ← by4_at s 3 h3] at hor
    have hr := be4_range s
    have hv : decV s = if recS (be4 s) = s then be4 s else 0 := by unfold decV; rw [if_pos h]
    rw [hv]
    clear hv
    generalize be4 s = n at *
    have H := Lib.hid h
    have HO := Lib.hid hor
    clear h hor
    obtain ⟨hr0, hr1⟩ := hr
    go_enter Tryd.func16, Tryd.ntmps16
    go_wp2_with fail
    go_quiet (fail)
    go_wp2_with fail
    rw [HO.out]
    refine (bencode_any _ n hr0 hr1).mono ?_
    rintro e w1 ⟨rfl, o1⟩
    go_wp2_with fail
    all_goals
      go_ret
      refine ⟨?_, ((Only.refl _ _).drewN _).trans o1⟩
      simp_all [str_ne]
  · refine (bdecode_len w s h hs).mono ?_
    rintro e w1 ⟨rfl, rfl⟩
    exact ⟨by unfold decV; rw [if_neg h], Only.refl _ _⟩
end Go.Proofs.YtebamcmcmojneaaDoor
