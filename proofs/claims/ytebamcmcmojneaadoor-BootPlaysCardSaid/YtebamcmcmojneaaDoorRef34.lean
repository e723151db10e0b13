/- The reference of layer 34: Record, Value. -/
import Derived.Test.YtebamcmcmojneaaDoorRef8
import Derived.Test.YtebamcmcmojneaaDoorBoD
set_option linter.unusedSimpArgs false
set_option linter.unusedVariables false
namespace Go.Proofs.YtebamcmcmojneaaDoor
open Go.RowKit Go.Lib

theorem fixed4 (w : World) (n : Int) (h0 : 0 ≤ n) (h1 : n ≤ 4294967295) : Calls Tryd.prog 24 #[.int .u64 n, .int .i64 4] w fun e w' => e = .returned (.string (strOfNums (b4 n))) ∧ Only (fun _ => False) w w' := by
  have h := fixed_ref 4 w n h0 (by omega) (by omega)
  rw [fx4 n h0 h1] at h
  exact h
theorem b4_size (n : Int) : (strOfNums (b4 n)).size = 4 := by simp [strOfNums, ByteArray.size, b4]

set_option maxRecDepth 100000 in
set_option maxHeartbeats 1000000 in
theorem record_ref (w : World) (n : Int) (h0 : 0 ≤ n) (h1 : n ≤ 4294967295) : Calls Tryd.prog 21 #[.int .u32 n] w fun e w' => e = .returned (.string (recS n)) ∧ Only (fun _ => False) w w' := by
  have F1 := Lib.hid (fun W => fixed4 W n h0 h1)
  have F2 := Lib.hid (fun W => fixed4 W (4294967295 - n) (by omega) (by omega))
  have F3 := Lib.hid (fun W => fixed4 W (n * 2654435761 % 4294967296) (by omega) (by omega))
  have hc1 := fun W => run_string_add_sum (P := Tryd.prog) (w := W) (strOfNums (b4 n)) (strOfNums (b4 (4294967295 - n))) (by rw [b4_size, b4_size]; omega)
  have hc2 := fun W => run_string_add_sum (P := Tryd.prog) (w := W) (strOfNums (b4 n) ++ strOfNums (b4 (4294967295 - n))) (strOfNums (b4 (n * 2654435761 % 4294967296))) (by rw [ByteArray.size_append, b4_size, b4_size, b4_size]; omega)
  have w1 : IntKind.u64.wrap n = n := by rw [IntKind.wrap_u64]; omega
  have w2 : IntKind.u32.wrap (4294967295 - n) = 4294967295 - n := by rw [IntKind.wrap_u32]; omega
  have w3 : IntKind.u64.wrap (4294967295 - n) = 4294967295 - n := by rw [IntKind.wrap_u64]; omega
  have w4 : IntKind.u64.wrap (n * 2654435761) = n * 2654435761 := by rw [IntKind.wrap_u64]; omega
  have w5 : (n * 2654435761).tmod 4294967296 = n * 2654435761 % 4294967296 := Int.tmod_eq_emod_of_nonneg (by omega)
  go_enter Tryd.func21, Tryd.ntmps21
  go_wp2_with fail
  refine (F1.out _).mono ?_
  rintro e a1 ⟨rfl, o1⟩
  go_wp2_with fail
  refine (F2.out _).mono ?_
  rintro e a2 ⟨rfl, o2⟩
  go_wp2_with fail
  refine (F3.out _).mono ?_
  rintro e a3 ⟨rfl, o3⟩
  go_wp2_with fail
  go_ret
  refine ⟨?_, (o1.trans o2).trans o3⟩
  rw [recS, rec3, nums_app, nums_app]
  rfl

/-- The number that the first bytes are. -/
def valP (s : ByteArray) : Nat → Int
  | 0 => 0
  | k + 1 => 256 * valP s k + by4 s k
theorem valP_range (s : ByteArray) : ∀ k, 0 ≤ valP s k ∧ valP s k + 1 ≤ 256 ^ k
  | 0 => by simp [valP]
  | k + 1 => by
    have h := valP_range s k
    have b := by4_range s k
    have e : (256 : Int) ^ (k + 1) = 256 * 256 ^ k := by rw [Int.pow_succ]; omega
    rw [e, valP]
    omega
theorem pow_le8 (k : Nat) (h : k ≤ 8) : (256 : Int) ^ k ≤ 18446744073709551616 := by
  have hk : k = 0 ∨ k = 1 ∨ k = 2 ∨ k = 3 ∨ k = 4 ∨ k = 5 ∨ k = 6 ∨ k = 7 ∨ k = 8 := by omega
  rcases hk with rfl | rfl | rfl | rfl | rfl | rfl | rfl | rfl | rfl <;> decide

set_option maxRecDepth 100000 in
set_option maxHeartbeats 1000000 in
theorem value_ref8 (w : World) (s : ByteArray) (hs : s.size ≤ 8) : Calls Tryd.prog 23 #[.string s] w fun e w' => e = .returned (.int .u64 (valP s s.size)) ∧ w = w' := by
  go_enter Tryd.func23, Tryd.ntmps23
  go_wp2_with fail
  go_loopw [3, 4] (fun x i W => ∃ (k : Nat), k ≤ s.size ∧ i = .int .i64 k ∧ x = .int .u64 (valP s k) ∧ W = w) (fun _ i _ => s.size - (intOf i).toNat)
  case atStart => exact ⟨0, by omega, rfl, rfl, rfl⟩
  case round =>
    obtain ⟨k, hk, rfl, rfl, rfl⟩ := hrel
    have hlt' : k < s.size ∨ k = s.size := by omega
    rcases hlt' with hlt | rfl
    · have hv := valP_range s k
      have hb := by4_range s k
      have hp := pow_le8 (k + 1) (by omega)
      have hv2 := valP_range s (k + 1)
      have hat := by4_at s k hlt
      have w1 : IntKind.u64.wrap (256 * valP s k) = 256 * valP s k := by rw [IntKind.wrap_u64]; rw [valP] at hv2; omega
      have w2 : IntKind.u64.wrap (by4 s k) = by4 s k := by rw [IntKind.wrap_u64]; omega
      have w3 : IntKind.u64.wrap (256 * valP s k + by4 s k) = valP s (k + 1) := by rw [IntKind.wrap_u64]; rw [valP] at hv2 ⊢; omega
      have hi : (k : Int) < (s.size : Int) := by omega
      go_wp2_with fail
      go_roundw
      case rel => exact ⟨k + 1, by omega, by go_num, rfl, trivial⟩
      case measure => simp only [intOf]; omega
    · go_wp2_with fail
      go_ret
      exact ⟨rfl, rfl⟩

theorem by4_ext (s : ByteArray) (k : Nat) (hk : k < 4) (h : 4 ≤ s.size) : by4 (s.extract 0 4) k = by4 s k := by
  unfold by4
  rw [ByteArray.data_extract, Array.toList_extract, List.extract_eq_take_drop, List.drop_zero]
  simp only [List.getD_eq_getElem?_getD, Nat.sub_zero]
  rw [List.getElem?_take_of_lt hk]
theorem valP_be4 (s : ByteArray) (h : 4 ≤ s.size) : valP (s.extract 0 4) 4 = be4 s := by
  simp only [valP, be4]
  rw [by4_ext s 0 (by omega) h, by4_ext s 1 (by omega) h, by4_ext s 2 (by omega) h, by4_ext s 3 (by omega) h]
  omega
theorem rec_size12 (n : Int) : (recS n).size = 12 := by simp [recS, rec3, b4, strOfNums, ByteArray.size]

set_option maxRecDepth 100000 in
set_option maxHeartbeats 1000000 in
theorem value_ref34 (w : World) (s : ByteArray) (hs : s.size ≤ 9223372036854775807) : Calls Tryd.prog 20 #[.string s] w fun e w' => e = .returned (.int .u32 (decV s)) ∧ Only (fun _ => False) w w' := by
  by_cases h : 4 ≤ s.size
  · have hb := be4_range s
    have hv := Lib.hid (fun W => value_ref8 W (s.extract 0 4) (by rw [ByteArray.size_extract]; omega))
    have hsz : (s.extract 0 4).size = 4 := by rw [ByteArray.size_extract]; omega
    rw [hsz, valP_be4 s h] at hv
    have hr := Lib.hid (fun W => record_ref W (be4 s) hb.1 hb.2)
    have w1 : IntKind.u32.wrap (be4 s) = be4 s := by rw [IntKind.wrap_u32]; omega
    have h4 : ¬ ((s.size : Int) < 4) := by omega
    have hq := str_ne (recS (be4 s)) s
    have hd : decV s = if recS (be4 s) = s then be4 s else 0 := by
      unfold decV
      by_cases h12 : s.size = 12
      · rw [if_pos h12]
      · rw [if_neg h12, if_neg]
        intro e
        apply h12
        rw [← e, rec_size12]
    rw [hd]
    have HD := Lib.hid hd
    have H4 := Lib.hid h
    clear hd hsz h
    by_cases heq : recS (be4 s) = s
    · rw [if_pos heq]
      rw [decide_eq_true heq] at hq
      have HQ := Lib.hid heq
      clear heq
      go_enter Tryd.func20, Tryd.ntmps20
      go_wp2_with fail
      refine (hv.out _).mono ?_
      rintro e a1 ⟨rfl, rfl⟩
      go_wp2_with fail
      refine (hr.out _).mono ?_
      rintro e a2 ⟨rfl, o2⟩
      go_wp2_with fail
      go_ret
      exact ⟨rfl, o2⟩
    · rw [if_neg heq]
      rw [decide_eq_false heq] at hq
      have HQ := Lib.hid heq
      clear heq
      go_enter Tryd.func20, Tryd.ntmps20
      go_wp2_with fail
      refine (hv.out _).mono ?_
      rintro e a1 ⟨rfl, rfl⟩
      go_wp2_with fail
      refine (hr.out _).mono ?_
      rintro e a2 ⟨rfl, o2⟩
      go_wp2_with fail
      go_ret
      exact ⟨rfl, o2⟩
  · have hd : decV s = 0 := by
      unfold decV
      rw [if_neg (by omega)]
    rw [hd]
    clear hd
    have h4 : (s.size : Int) < 4 := by omega
    go_enter Tryd.func20, Tryd.ntmps20
    go_wp2_with fail
    go_ret
    exact ⟨rfl, Only.refl _ _⟩
end Go.Proofs.YtebamcmcmojneaaDoor
