/- The reference of layer 34: Tear. -/
import Derived.Test.YtebamcmcmojneaaDoorRef34b
import Derived.Test.YtebamcmcmojneaaDoorBoT
set_option linter.unusedSimpArgs false
set_option linter.unusedVariables false
namespace Go.Proofs.YtebamcmcmojneaaDoor
open Go.RowKit Go.Lib

theorem res_rtear {W : World} {b : Nat} {x0 x1 x2 x3 : Value} {tm : Array Value} (h : Has W b 43 #[x0, x1, x2, x3]) (h8 : tm.getD 4 undef = .pointer (some ⟨b, 0, none⟩)) :
    (results Tryd.f12 tm).run Tryd.prog W = .ok (.agg #[x0, x1, x2, x3]) W := by
  obtain ⟨c0, c1, c2, c3, _⟩ : W.cell? ⟨b, 0, none⟩ = some x0 ∧ W.cell? ⟨b, 1, none⟩ = some x1 ∧ W.cell? ⟨b, 2, none⟩ = some x2 ∧ W.cell? ⟨b, 3, none⟩ = some x3 ∧ True := ⟨h.cell 0, h.cell 1, h.cell 2, h.cell 3, trivial⟩
  simp only [Array.getD_eq_getD_getElem?] at h8
  simp [results, Tryd.results12, go_sem, h8, c0, c1, c2, c3]

set_option maxRecDepth 100000 in
set_option maxHeartbeats 1000000 in
theorem rtear_a_lo_y (w : World) (a b old : ByteArray) (K : Int) (hK : K < 0) (ha : a.size ≤ 140737488351232) (hold : old.size ≤ 140737488351232) (ho : old.size = 12) (hk2 : 0 < 12) : Calls Tryd.prog 12 #[.agg #[.string a, .string b, .int .i64 0, .string old], .int .i64 K] w fun e w' => e = .returned (.agg #[.string (old), .string (b), .int .i64 0, .string (old)]) ∧ Only (fun _ => False) w w' := by
  have ho1 : ((old.size : Int) == 12) = true := by have hx : (old.size : Int) = 12 := (by omega); simpa using hx
  have f1 : K < 0 := hK
  have f2 : ¬ ((a.size : Int) < 0) := by omega
  have f4 : 0 < 12 := by omega
  have f5 : 0 ≤ old.size := by omega
  have f6 : old.size ≤ 9223372036854775807 := by omega
  have f7 : a.size ≤ 9223372036854775807 := by omega
  have HO := Lib.hid ho
  have HA := Lib.hid ha
  clear ho ha
  go_enter Tryd.func12, Tryd.ntmps12
  go_wp2_with fail
  refine bodyPost_ret (v := .agg #[.string (old), .string (b), .int .i64 0, .string (old)]) ?_ rfl ⟨rfl, ((Only.refl _ _).alloc _).alloc _⟩
  refine res_rtear (b := w.heap.size + 1) ?_ rfl
  have hn := Has.new (w.alloc (.cells #[.string (old), .string (b), .int .i64 0, .string (old)] 43)) 43 #[.string (old), .string (b), .int .i64 0, .string (old)]
  simpa using hn

set_option maxRecDepth 100000 in
set_option maxHeartbeats 1000000 in
theorem rtear_a_lo_n (w : World) (a b old : ByteArray) (K : Int) (hK : K < 0) (ha : a.size ≤ 140737488351232) (hold : old.size ≤ 140737488351232) (ho : old.size ≠ 12) : Calls Tryd.prog 12 #[.agg #[.string a, .string b, .int .i64 0, .string old], .int .i64 K] w fun e w' => e = .returned (.agg #[.string (ByteArray.empty), .string (b), .int .i64 0, .string (ByteArray.empty)]) ∧ Only (fun _ => False) w w' := by
  have ho1 : ((old.size : Int) == 12) = false := by have hx : (old.size : Int) ≠ 12 := (by omega); simpa using hx
  have f1 : K < 0 := hK
  have f2 : ¬ ((a.size : Int) < 0) := by omega
  have f6 : old.size ≤ 9223372036854775807 := by omega
  have f7 : a.size ≤ 9223372036854775807 := by omega
  have HO := Lib.hid ho
  have HA := Lib.hid ha
  clear ho ha
  go_enter Tryd.func12, Tryd.ntmps12
  go_wp2_with fail
  refine bodyPost_ret (v := .agg #[.string (ByteArray.empty), .string (b), .int .i64 0, .string (ByteArray.empty)]) ?_ rfl ⟨rfl, ((Only.refl _ _).alloc _).alloc _⟩
  refine res_rtear (b := w.heap.size + 1) ?_ rfl
  have hn := Has.new (w.alloc (.cells #[.string (ByteArray.empty), .string (b), .int .i64 0, .string (ByteArray.empty)] 43)) 43 #[.string (ByteArray.empty), .string (b), .int .i64 0, .string (ByteArray.empty)]
  simpa using hn

set_option maxRecDepth 100000 in
set_option maxHeartbeats 1000000 in
theorem rtear_a_mid_y (w : World) (a b old : ByteArray) (k : Nat) (hk : k ≤ a.size) (ha : a.size ≤ 140737488351232) (hold : old.size ≤ 140737488351232) (ho : old.size = 12) (hk2 : k < 12) : Calls Tryd.prog 12 #[.agg #[.string a, .string b, .int .i64 0, .string old], .int .i64 (k : Int)] w fun e w' => e = .returned (.agg #[.string (a.extract 0 k ++ old.extract k old.size), .string (b), .int .i64 0, .string (a.extract 0 k ++ old.extract k old.size)]) ∧ Only (fun _ => False) w w' := by
  have ho1 : ((old.size : Int) == 12) = true := by have hx : (old.size : Int) = 12 := (by omega); simpa using hx
  have hcat := fun W => run_string_add_sum (P := Tryd.prog) (w := W) (a.extract 0 k) (old.extract k old.size) (by simp only [ByteArray.size_extract]; omega)
  have f1 : ¬ ((k : Int) < 0) := by omega
  have f2 : ¬ ((a.size : Int) < (k : Int)) := by omega
  have f4 : (k : Int) < 12 := by omega
  have f5 : k ≤ old.size := by omega
  have f6 : old.size ≤ 9223372036854775807 := by omega
  have f7 : a.size ≤ 9223372036854775807 := by omega
  have HO := Lib.hid ho
  have HA := Lib.hid ha
  clear ho ha
  have HK := Lib.hid hk
  clear hk
  go_enter Tryd.func12, Tryd.ntmps12
  go_wp2_with fail
  refine bodyPost_ret (v := .agg #[.string (a.extract 0 k ++ old.extract k old.size), .string (b), .int .i64 0, .string (a.extract 0 k ++ old.extract k old.size)]) ?_ rfl ⟨rfl, ((Only.refl _ _).alloc _).alloc _⟩
  refine res_rtear (b := w.heap.size + 1) ?_ rfl
  have hn := Has.new (w.alloc (.cells #[.string (a.extract 0 k ++ old.extract k old.size), .string (b), .int .i64 0, .string (a.extract 0 k ++ old.extract k old.size)] 43)) 43 #[.string (a.extract 0 k ++ old.extract k old.size), .string (b), .int .i64 0, .string (a.extract 0 k ++ old.extract k old.size)]
  simpa using hn

set_option maxRecDepth 100000 in
set_option maxHeartbeats 1000000 in
theorem rtear_a_mid_n (w : World) (a b old : ByteArray) (k : Nat) (hk : k ≤ a.size) (ha : a.size ≤ 140737488351232) (hold : old.size ≤ 140737488351232) (ho : old.size ≠ 12) : Calls Tryd.prog 12 #[.agg #[.string a, .string b, .int .i64 0, .string old], .int .i64 (k : Int)] w fun e w' => e = .returned (.agg #[.string (a.extract 0 k), .string (b), .int .i64 0, .string (a.extract 0 k)]) ∧ Only (fun _ => False) w w' := by
  have ho1 : ((old.size : Int) == 12) = false := by have hx : (old.size : Int) ≠ 12 := (by omega); simpa using hx
  have f1 : ¬ ((k : Int) < 0) := by omega
  have f2 : ¬ ((a.size : Int) < (k : Int)) := by omega
  have f6 : old.size ≤ 9223372036854775807 := by omega
  have f7 : a.size ≤ 9223372036854775807 := by omega
  have HO := Lib.hid ho
  have HA := Lib.hid ha
  clear ho ha
  have HK := Lib.hid hk
  clear hk
  go_enter Tryd.func12, Tryd.ntmps12
  go_wp2_with fail
  refine bodyPost_ret (v := .agg #[.string (a.extract 0 k), .string (b), .int .i64 0, .string (a.extract 0 k)]) ?_ rfl ⟨rfl, ((Only.refl _ _).alloc _).alloc _⟩
  refine res_rtear (b := w.heap.size + 1) ?_ rfl
  have hn := Has.new (w.alloc (.cells #[.string (a.extract 0 k), .string (b), .int .i64 0, .string (a.extract 0 k)] 43)) 43 #[.string (a.extract 0 k), .string (b), .int .i64 0, .string (a.extract 0 k)]
  simpa using hn

set_option maxRecDepth 100000 in
set_option maxHeartbeats 1000000 in
theorem rtear_a_mid_m (w : World) (a b old : ByteArray) (k : Nat) (hk : k ≤ a.size) (ha : a.size ≤ 140737488351232) (hold : old.size ≤ 140737488351232) (ho : old.size = 12) (hk2 : 12 ≤ k) : Calls Tryd.prog 12 #[.agg #[.string a, .string b, .int .i64 0, .string old], .int .i64 (k : Int)] w fun e w' => e = .returned (.agg #[.string (a.extract 0 k), .string (b), .int .i64 0, .string (a.extract 0 k)]) ∧ Only (fun _ => False) w w' := by
  have ho1 : ((old.size : Int) == 12) = true := by have hx : (old.size : Int) = 12 := (by omega); simpa using hx
  have f1 : ¬ ((k : Int) < 0) := by omega
  have f2 : ¬ ((a.size : Int) < (k : Int)) := by omega
  have f4 : ¬ ((k : Int) < 12) := by omega
  have f6 : old.size ≤ 9223372036854775807 := by omega
  have f7 : a.size ≤ 9223372036854775807 := by omega
  have HO := Lib.hid ho
  have HA := Lib.hid ha
  clear ho ha
  have HK := Lib.hid hk
  clear hk
  go_enter Tryd.func12, Tryd.ntmps12
  go_wp2_with fail
  refine bodyPost_ret (v := .agg #[.string (a.extract 0 k), .string (b), .int .i64 0, .string (a.extract 0 k)]) ?_ rfl ⟨rfl, ((Only.refl _ _).alloc _).alloc _⟩
  refine res_rtear (b := w.heap.size + 1) ?_ rfl
  have hn := Has.new (w.alloc (.cells #[.string (a.extract 0 k), .string (b), .int .i64 0, .string (a.extract 0 k)] 43)) 43 #[.string (a.extract 0 k), .string (b), .int .i64 0, .string (a.extract 0 k)]
  simpa using hn

set_option maxRecDepth 100000 in
set_option maxHeartbeats 1000000 in
theorem rtear_a_hi_y (w : World) (a b old : ByteArray) (K : Int) (hK : (a.size : Int) < K) (ha : a.size ≤ 140737488351232) (hold : old.size ≤ 140737488351232) (ho : old.size = 12) (hk2 : a.size < 12) : Calls Tryd.prog 12 #[.agg #[.string a, .string b, .int .i64 0, .string old], .int .i64 K] w fun e w' => e = .returned (.agg #[.string (a ++ old.extract a.size old.size), .string (b), .int .i64 0, .string (a ++ old.extract a.size old.size)]) ∧ Only (fun _ => False) w w' := by
  have ho1 : ((old.size : Int) == 12) = true := by have hx : (old.size : Int) = 12 := (by omega); simpa using hx
  have hcat := fun W => run_string_add_sum (P := Tryd.prog) (w := W) (a) (old.extract a.size old.size) (by simp only [ByteArray.size_extract]; omega)
  have f1 : ¬ (K < 0) := by omega
  have f2 : (a.size : Int) < K := hK
  have f4 : (a.size : Int) < 12 := by omega
  have f5 : a.size ≤ old.size := by omega
  have f6 : old.size ≤ 9223372036854775807 := by omega
  have f7 : a.size ≤ 9223372036854775807 := by omega
  have HO := Lib.hid ho
  have HA := Lib.hid ha
  clear ho ha
  go_enter Tryd.func12, Tryd.ntmps12
  go_wp2_with fail
  refine bodyPost_ret (v := .agg #[.string (a ++ old.extract a.size old.size), .string (b), .int .i64 0, .string (a ++ old.extract a.size old.size)]) ?_ rfl ⟨rfl, ((Only.refl _ _).alloc _).alloc _⟩
  refine res_rtear (b := w.heap.size + 1) ?_ rfl
  have hn := Has.new (w.alloc (.cells #[.string (a ++ old.extract a.size old.size), .string (b), .int .i64 0, .string (a ++ old.extract a.size old.size)] 43)) 43 #[.string (a ++ old.extract a.size old.size), .string (b), .int .i64 0, .string (a ++ old.extract a.size old.size)]
  simpa using hn

set_option maxRecDepth 100000 in
set_option maxHeartbeats 1000000 in
theorem rtear_a_hi_n (w : World) (a b old : ByteArray) (K : Int) (hK : (a.size : Int) < K) (ha : a.size ≤ 140737488351232) (hold : old.size ≤ 140737488351232) (ho : old.size ≠ 12) : Calls Tryd.prog 12 #[.agg #[.string a, .string b, .int .i64 0, .string old], .int .i64 K] w fun e w' => e = .returned (.agg #[.string (a), .string (b), .int .i64 0, .string (a)]) ∧ Only (fun _ => False) w w' := by
  have ho1 : ((old.size : Int) == 12) = false := by have hx : (old.size : Int) ≠ 12 := (by omega); simpa using hx
  have f1 : ¬ (K < 0) := by omega
  have f2 : (a.size : Int) < K := hK
  have f6 : old.size ≤ 9223372036854775807 := by omega
  have f7 : a.size ≤ 9223372036854775807 := by omega
  have HO := Lib.hid ho
  have HA := Lib.hid ha
  clear ho ha
  go_enter Tryd.func12, Tryd.ntmps12
  go_wp2_with fail
  refine bodyPost_ret (v := .agg #[.string (a), .string (b), .int .i64 0, .string (a)]) ?_ rfl ⟨rfl, ((Only.refl _ _).alloc _).alloc _⟩
  refine res_rtear (b := w.heap.size + 1) ?_ rfl
  have hn := Has.new (w.alloc (.cells #[.string (a), .string (b), .int .i64 0, .string (a)] 43)) 43 #[.string (a), .string (b), .int .i64 0, .string (a)]
  simpa using hn

set_option maxRecDepth 100000 in
set_option maxHeartbeats 1000000 in
theorem rtear_a_hi_m (w : World) (a b old : ByteArray) (K : Int) (hK : (a.size : Int) < K) (ha : a.size ≤ 140737488351232) (hold : old.size ≤ 140737488351232) (ho : old.size = 12) (hk2 : 12 ≤ a.size) : Calls Tryd.prog 12 #[.agg #[.string a, .string b, .int .i64 0, .string old], .int .i64 K] w fun e w' => e = .returned (.agg #[.string (a), .string (b), .int .i64 0, .string (a)]) ∧ Only (fun _ => False) w w' := by
  have ho1 : ((old.size : Int) == 12) = true := by have hx : (old.size : Int) = 12 := (by omega); simpa using hx
  have f1 : ¬ (K < 0) := by omega
  have f2 : (a.size : Int) < K := hK
  have f4 : ¬ ((a.size : Int) < 12) := by omega
  have f6 : old.size ≤ 9223372036854775807 := by omega
  have f7 : a.size ≤ 9223372036854775807 := by omega
  have HO := Lib.hid ho
  have HA := Lib.hid ha
  clear ho ha
  go_enter Tryd.func12, Tryd.ntmps12
  go_wp2_with fail
  refine bodyPost_ret (v := .agg #[.string (a), .string (b), .int .i64 0, .string (a)]) ?_ rfl ⟨rfl, ((Only.refl _ _).alloc _).alloc _⟩
  refine res_rtear (b := w.heap.size + 1) ?_ rfl
  have hn := Has.new (w.alloc (.cells #[.string (a), .string (b), .int .i64 0, .string (a)] 43)) 43 #[.string (a), .string (b), .int .i64 0, .string (a)]
  simpa using hn

set_option maxRecDepth 100000 in
set_option maxHeartbeats 1000000 in
theorem rtear_b_lo_y (w : World) (a b old : ByteArray) (K : Int) (hK : K < 0) (ha : b.size ≤ 140737488351232) (hold : old.size ≤ 140737488351232) (ho : old.size = 12) (hk2 : 0 < 12) : Calls Tryd.prog 12 #[.agg #[.string a, .string b, .int .i64 1, .string old], .int .i64 K] w fun e w' => e = .returned (.agg #[.string (a), .string (old), .int .i64 1, .string (old)]) ∧ Only (fun _ => False) w w' := by
  have ho1 : ((old.size : Int) == 12) = true := by have hx : (old.size : Int) = 12 := (by omega); simpa using hx
  have f1 : K < 0 := hK
  have f2 : ¬ ((b.size : Int) < 0) := by omega
  have f4 : 0 < 12 := by omega
  have f5 : 0 ≤ old.size := by omega
  have f6 : old.size ≤ 9223372036854775807 := by omega
  have f7 : b.size ≤ 9223372036854775807 := by omega
  have HO := Lib.hid ho
  have HA := Lib.hid ha
  clear ho ha
  go_enter Tryd.func12, Tryd.ntmps12
  go_wp2_with fail
  refine bodyPost_ret (v := .agg #[.string (a), .string (old), .int .i64 1, .string (old)]) ?_ rfl ⟨rfl, ((Only.refl _ _).alloc _).alloc _⟩
  refine res_rtear (b := w.heap.size + 1) ?_ rfl
  have hn := Has.new (w.alloc (.cells #[.string (a), .string (old), .int .i64 1, .string (old)] 43)) 43 #[.string (a), .string (old), .int .i64 1, .string (old)]
  simpa using hn

set_option maxRecDepth 100000 in
set_option maxHeartbeats 1000000 in
theorem rtear_b_lo_n (w : World) (a b old : ByteArray) (K : Int) (hK : K < 0) (ha : b.size ≤ 140737488351232) (hold : old.size ≤ 140737488351232) (ho : old.size ≠ 12) : Calls Tryd.prog 12 #[.agg #[.string a, .string b, .int .i64 1, .string old], .int .i64 K] w fun e w' => e = .returned (.agg #[.string (a), .string (ByteArray.empty), .int .i64 1, .string (ByteArray.empty)]) ∧ Only (fun _ => False) w w' := by
  have ho1 : ((old.size : Int) == 12) = false := by have hx : (old.size : Int) ≠ 12 := (by omega); simpa using hx
  have f1 : K < 0 := hK
  have f2 : ¬ ((b.size : Int) < 0) := by omega
  have f6 : old.size ≤ 9223372036854775807 := by omega
  have f7 : b.size ≤ 9223372036854775807 := by omega
  have HO := Lib.hid ho
  have HA := Lib.hid ha
  clear ho ha
  go_enter Tryd.func12, Tryd.ntmps12
  go_wp2_with fail
  refine bodyPost_ret (v := .agg #[.string (a), .string (ByteArray.empty), .int .i64 1, .string (ByteArray.empty)]) ?_ rfl ⟨rfl, ((Only.refl _ _).alloc _).alloc _⟩
  refine res_rtear (b := w.heap.size + 1) ?_ rfl
  have hn := Has.new (w.alloc (.cells #[.string (a), .string (ByteArray.empty), .int .i64 1, .string (ByteArray.empty)] 43)) 43 #[.string (a), .string (ByteArray.empty), .int .i64 1, .string (ByteArray.empty)]
  simpa using hn

set_option maxRecDepth 100000 in
set_option maxHeartbeats 1000000 in
theorem rtear_b_mid_y (w : World) (a b old : ByteArray) (k : Nat) (hk : k ≤ b.size) (ha : b.size ≤ 140737488351232) (hold : old.size ≤ 140737488351232) (ho : old.size = 12) (hk2 : k < 12) : Calls Tryd.prog 12 #[.agg #[.string a, .string b, .int .i64 1, .string old], .int .i64 (k : Int)] w fun e w' => e = .returned (.agg #[.string (a), .string (b.extract 0 k ++ old.extract k old.size), .int .i64 1, .string (b.extract 0 k ++ old.extract k old.size)]) ∧ Only (fun _ => False) w w' := by
  have ho1 : ((old.size : Int) == 12) = true := by have hx : (old.size : Int) = 12 := (by omega); simpa using hx
  have hcat := fun W => run_string_add_sum (P := Tryd.prog) (w := W) (b.extract 0 k) (old.extract k old.size) (by simp only [ByteArray.size_extract]; omega)
  have f1 : ¬ ((k : Int) < 0) := by omega
  have f2 : ¬ ((b.size : Int) < (k : Int)) := by omega
  have f4 : (k : Int) < 12 := by omega
  have f5 : k ≤ old.size := by omega
  have f6 : old.size ≤ 9223372036854775807 := by omega
  have f7 : b.size ≤ 9223372036854775807 := by omega
  have HO := Lib.hid ho
  have HA := Lib.hid ha
  clear ho ha
  have HK := Lib.hid hk
  clear hk
  go_enter Tryd.func12, Tryd.ntmps12
  go_wp2_with fail
  refine bodyPost_ret (v := .agg #[.string (a), .string (b.extract 0 k ++ old.extract k old.size), .int .i64 1, .string (b.extract 0 k ++ old.extract k old.size)]) ?_ rfl ⟨rfl, ((Only.refl _ _).alloc _).alloc _⟩
  refine res_rtear (b := w.heap.size + 1) ?_ rfl
  have hn := Has.new (w.alloc (.cells #[.string (a), .string (b.extract 0 k ++ old.extract k old.size), .int .i64 1, .string (b.extract 0 k ++ old.extract k old.size)] 43)) 43 #[.string (a), .string (b.extract 0 k ++ old.extract k old.size), .int .i64 1, .string (b.extract 0 k ++ old.extract k old.size)]
  simpa using hn

set_option maxRecDepth 100000 in
set_option maxHeartbeats 1000000 in
theorem rtear_b_mid_n (w : World) (a b old : ByteArray) (k : Nat) (hk : k ≤ b.size) (ha : b.size ≤ 140737488351232) (hold : old.size ≤ 140737488351232) (ho : old.size ≠ 12) : Calls Tryd.prog 12 #[.agg #[.string a, .string b, .int .i64 1, .string old], .int .i64 (k : Int)] w fun e w' => e = .returned (.agg #[.string (a), .string (b.extract 0 k), .int .i64 1, .string (b.extract 0 k)]) ∧ Only (fun _ => False) w w' := by
  have ho1 : ((old.size : Int) == 12) = false := by have hx : (old.size : Int) ≠ 12 := (by omega); simpa using hx
  have f1 : ¬ ((k : Int) < 0) := by omega
  have f2 : ¬ ((b.size : Int) < (k : Int)) := by omega
  have f6 : old.size ≤ 9223372036854775807 := by omega
  have f7 : b.size ≤ 9223372036854775807 := by omega
  have HO := Lib.hid ho
  have HA := Lib.hid ha
  clear ho ha
  have HK := Lib.hid hk
  clear hk
  go_enter Tryd.func12, Tryd.ntmps12
  go_wp2_with fail
  refine bodyPost_ret (v := .agg #[.string (a), .string (b.extract 0 k), .int .i64 1, .string (b.extract 0 k)]) ?_ rfl ⟨rfl, ((Only.refl _ _).alloc _).alloc _⟩
  refine res_rtear (b := w.heap.size + 1) ?_ rfl
  have hn := Has.new (w.alloc (.cells #[.string (a), .string (b.extract 0 k), .int .i64 1, .string (b.extract 0 k)] 43)) 43 #[.string (a), .string (b.extract 0 k), .int .i64 1, .string (b.extract 0 k)]
  simpa using hn

set_option maxRecDepth 100000 in
set_option maxHeartbeats 1000000 in
theorem rtear_b_mid_m (w : World) (a b old : ByteArray) (k : Nat) (hk : k ≤ b.size) (ha : b.size ≤ 140737488351232) (hold : old.size ≤ 140737488351232) (ho : old.size = 12) (hk2 : 12 ≤ k) : Calls Tryd.prog 12 #[.agg #[.string a, .string b, .int .i64 1, .string old], .int .i64 (k : Int)] w fun e w' => e = .returned (.agg #[.string (a), .string (b.extract 0 k), .int .i64 1, .string (b.extract 0 k)]) ∧ Only (fun _ => False) w w' := by
  have ho1 : ((old.size : Int) == 12) = true := by have hx : (old.size : Int) = 12 := (by omega); simpa using hx
  have f1 : ¬ ((k : Int) < 0) := by omega
  have f2 : ¬ ((b.size : Int) < (k : Int)) := by omega
  have f4 : ¬ ((k : Int) < 12) := by omega
  have f6 : old.size ≤ 9223372036854775807 := by omega
  have f7 : b.size ≤ 9223372036854775807 := by omega
  have HO := Lib.hid ho
  have HA := Lib.hid ha
  clear ho ha
  have HK := Lib.hid hk
  clear hk
  go_enter Tryd.func12, Tryd.ntmps12
  go_wp2_with fail
  refine bodyPost_ret (v := .agg #[.string (a), .string (b.extract 0 k), .int .i64 1, .string (b.extract 0 k)]) ?_ rfl ⟨rfl, ((Only.refl _ _).alloc _).alloc _⟩
  refine res_rtear (b := w.heap.size + 1) ?_ rfl
  have hn := Has.new (w.alloc (.cells #[.string (a), .string (b.extract 0 k), .int .i64 1, .string (b.extract 0 k)] 43)) 43 #[.string (a), .string (b.extract 0 k), .int .i64 1, .string (b.extract 0 k)]
  simpa using hn

set_option maxRecDepth 100000 in
set_option maxHeartbeats 1000000 in
theorem rtear_b_hi_y (w : World) (a b old : ByteArray) (K : Int) (hK : (b.size : Int) < K) (ha : b.size ≤ 140737488351232) (hold : old.size ≤ 140737488351232) (ho : old.size = 12) (hk2 : b.size < 12) : Calls Tryd.prog 12 #[.agg #[.string a, .string b, .int .i64 1, .string old], .int .i64 K] w fun e w' => e = .returned (.agg #[.string (a), .string (b ++ old.extract b.size old.size), .int .i64 1, .string (b ++ old.extract b.size old.size)]) ∧ Only (fun _ => False) w w' := by
  have ho1 : ((old.size : Int) == 12) = true := by have hx : (old.size : Int) = 12 := (by omega); simpa using hx
  have hcat := fun W => run_string_add_sum (P := Tryd.prog) (w := W) (b) (old.extract b.size old.size) (by simp only [ByteArray.size_extract]; omega)
  have f1 : ¬ (K < 0) := by omega
  have f2 : (b.size : Int) < K := hK
  have f4 : (b.size : Int) < 12 := by omega
  have f5 : b.size ≤ old.size := by omega
  have f6 : old.size ≤ 9223372036854775807 := by omega
  have f7 : b.size ≤ 9223372036854775807 := by omega
  have HO := Lib.hid ho
  have HA := Lib.hid ha
  clear ho ha
  go_enter Tryd.func12, Tryd.ntmps12
  go_wp2_with fail
  refine bodyPost_ret (v := .agg #[.string (a), .string (b ++ old.extract b.size old.size), .int .i64 1, .string (b ++ old.extract b.size old.size)]) ?_ rfl ⟨rfl, ((Only.refl _ _).alloc _).alloc _⟩
  refine res_rtear (b := w.heap.size + 1) ?_ rfl
  have hn := Has.new (w.alloc (.cells #[.string (a), .string (b ++ old.extract b.size old.size), .int .i64 1, .string (b ++ old.extract b.size old.size)] 43)) 43 #[.string (a), .string (b ++ old.extract b.size old.size), .int .i64 1, .string (b ++ old.extract b.size old.size)]
  simpa using hn

set_option maxRecDepth 100000 in
set_option maxHeartbeats 1000000 in
theorem rtear_b_hi_n (w : World) (a b old : ByteArray) (K : Int) (hK : (b.size : Int) < K) (ha : b.size ≤ 140737488351232) (hold : old.size ≤ 140737488351232) (ho : old.size ≠ 12) : Calls Tryd.prog 12 #[.agg #[.string a, .string b, .int .i64 1, .string old], .int .i64 K] w fun e w' => e = .returned (.agg #[.string (a), .string (b), .int .i64 1, .string (b)]) ∧ Only (fun _ => False) w w' := by
  have ho1 : ((old.size : Int) == 12) = false := by have hx : (old.size : Int) ≠ 12 := (by omega); simpa using hx
  have f1 : ¬ (K < 0) := by omega
  have f2 : (b.size : Int) < K := hK
  have f6 : old.size ≤ 9223372036854775807 := by omega
  have f7 : b.size ≤ 9223372036854775807 := by omega
  have HO := Lib.hid ho
  have HA := Lib.hid ha
  clear ho ha
  go_enter Tryd.func12, Tryd.ntmps12
  go_wp2_with fail
  refine bodyPost_ret (v := .agg #[.string (a), .string (b), .int .i64 1, .string (b)]) ?_ rfl ⟨rfl, ((Only.refl _ _).alloc _).alloc _⟩
  refine res_rtear (b := w.heap.size + 1) ?_ rfl
  have hn := Has.new (w.alloc (.cells #[.string (a), .string (b), .int .i64 1, .string (b)] 43)) 43 #[.string (a), .string (b), .int .i64 1, .string (b)]
  simpa using hn

set_option maxRecDepth 100000 in
set_option maxHeartbeats 1000000 in
theorem rtear_b_hi_m (w : World) (a b old : ByteArray) (K : Int) (hK : (b.size : Int) < K) (ha : b.size ≤ 140737488351232) (hold : old.size ≤ 140737488351232) (ho : old.size = 12) (hk2 : 12 ≤ b.size) : Calls Tryd.prog 12 #[.agg #[.string a, .string b, .int .i64 1, .string old], .int .i64 K] w fun e w' => e = .returned (.agg #[.string (a), .string (b), .int .i64 1, .string (b)]) ∧ Only (fun _ => False) w w' := by
  have ho1 : ((old.size : Int) == 12) = true := by have hx : (old.size : Int) = 12 := (by omega); simpa using hx
  have f1 : ¬ (K < 0) := by omega
  have f2 : (b.size : Int) < K := hK
  have f4 : ¬ ((b.size : Int) < 12) := by omega
  have f6 : old.size ≤ 9223372036854775807 := by omega
  have f7 : b.size ≤ 9223372036854775807 := by omega
  have HO := Lib.hid ho
  have HA := Lib.hid ha
  clear ho ha
  go_enter Tryd.func12, Tryd.ntmps12
  go_wp2_with fail
  refine bodyPost_ret (v := .agg #[.string (a), .string (b), .int .i64 1, .string (b)]) ?_ rfl ⟨rfl, ((Only.refl _ _).alloc _).alloc _⟩
  refine res_rtear (b := w.heap.size + 1) ?_ rfl
  have hn := Has.new (w.alloc (.cells #[.string (a), .string (b), .int .i64 1, .string (b)] 43)) 43 #[.string (a), .string (b), .int .i64 1, .string (b)]
  simpa using hn

end Go.Proofs.YtebamcmcmojneaaDoor
