/- Names of classes: digits, Name and the reference's. -/
import Derived.Test.YtigcfgmblnbleaaDoorSzr
import Derived.Deep.RegionHeld3
import Derived.Laws.BytesArg
import Derived.Laws.Concat
set_option linter.unusedSimpArgs false
set_option linter.unusedVariables false
namespace Go.Proofs.YtigcfgmblnbleaaDoor
open Go.RowKit

theorem cl_facts {w : World} {b : Nat} {kind bits m k n : Int} (h : Has w b 23 #[.int .i64 kind, .int .i64 bits, .int .i64 m, .int .i64 k, .int .i64 n]) : w.cell? ⟨b, 0, none⟩ = some (.int .i64 kind) ∧ w.cell? ⟨b, 1, none⟩ = some (.int .i64 bits) ∧ w.cell? ⟨b, 2, none⟩ = some (.int .i64 m) ∧ w.cell? ⟨b, 3, none⟩ = some (.int .i64 k) ∧ w.cell? ⟨b, 4, none⟩ = some (.int .i64 n) := ⟨h.cell 0, h.cell 1, h.cell 2, h.cell 3, h.cell 4⟩
abbrev CAt (w : World) (b : Nat) (kind bits m k n : Int) : Prop := Has w b 23 #[.int .i64 kind, .int .i64 bits, .int .i64 m, .int .i64 k, .int .i64 n]
theorem conv_one (W : World) (g : Nat) (b : Int) (hc : W.cell? ⟨g, 0, none⟩ = some (.int .u8 b)) : (convert 58 9 (.slice (some ⟨g, 0, none⟩) 1 1)).run Tryd.prog W = .ok (.string (strOfNums [b])) W := by
  refine run_convert_bytes_arg W 58 5 Tryd.underlying58 Tryd.underlying5 g 0 1 1 [b] rfl (fun i hi => ?_) 9 Tryd.underlying9
  have hi0 : i = 0 := by omega
  subst hi0
  exact hc

def dig1 (n : Int) : ByteArray := strOfNums [48 + n]
def dstr (n : Int) : ByteArray := if n < 10 then dig1 n else dig1 (n / 10) ++ dig1 (n % 10)
theorem dig1_size (n : Int) : (dig1 n).size = 1 := rfl
theorem dstr_size (n : Int) : (dstr n).size ≤ 2 := by
  unfold dstr
  split
  · rw [dig1_size]; decide
  · rw [ByteArray.size_append, dig1_size, dig1_size]; decide

set_option maxRecDepth 100000 in
set_option maxHeartbeats 2000000 in
theorem digits_1 (w : World) (n : Int) (h0 : 0 ≤ n) (h1 : n < 10) : Calls Tryd.prog 42 #[.int .i64 n] w fun e w' => e = .returned (.string (dig1 n)) ∧ Only (fun _ => False) w w' := by
  have w2 : IntKind.i64.wrap (48 + n) = 48 + n := by rw [IntKind.wrap_i64]; omega
  have w3 : IntKind.u8.wrap (48 + n) = 48 + n := by rw [IntKind.wrap_u8]; omega
  have hconv : ∀ (W : World) (g : Nat), W.cell? ⟨g, 0, none⟩ = some (.int .u8 (48 + n)) → (convert 58 9 (.slice (some ⟨g, 0, none⟩) 1 1)).run Tryd.prog W = .ok (.string (strOfNums [48 + n])) W := fun W g hc => conv_one W g (48 + n) hc
  have q1 : (w.alloc (.cells #[.int .u8 (48 + n)] 5)).cell? ⟨w.heap.size, 0, none⟩ = some (.int .u8 (48 + n)) := (Has.new w 5 #[.int .u8 (48 + n)]).cell 0
  have hc := hconv _ _ q1
  go_enter Tryd.func42, Tryd.ntmps42
  go_wp2_with fail
  go_ret
  exact ⟨rfl, (Only.refl _ _).alloc _⟩
set_option maxRecDepth 100000 in
set_option maxHeartbeats 2000000 in
theorem digits_any (w : World) (n : Int) (h0 : 0 ≤ n) (h1 : n < 100) : Calls Tryd.prog 42 #[.int .i64 n] w fun e w' => e = .returned (.string (dstr n)) ∧ Only (fun _ => False) w w' := by
  by_cases h : n < 10
  · have := digits_1 w n h0 h
    rwa [show dstr n = dig1 n by unfold dstr; rw [if_pos h]]
  · rw [show dstr n = dig1 (n / 10) ++ dig1 (n % 10) by unfold dstr; rw [if_neg h]]
    have H1 := Lib.hid (fun W => digits_1 W (n / 10) (by omega) (by omega))
    have H2 := Lib.hid (fun W => digits_1 W (n % 10) (by omega) (by omega))
    have w2 : IntKind.i64.wrap (n.tdiv 10) = n / 10 := by rw [Int.tdiv_eq_ediv_of_nonneg h0, IntKind.wrap_i64]; omega
    have w3 : IntKind.i64.wrap (n.tmod 10) = n % 10 := by rw [Int.tmod_eq_emod_of_nonneg h0, IntKind.wrap_i64]; omega
    have w4 : n.tdiv 10 = n / 10 := Int.tdiv_eq_ediv_of_nonneg h0
    have w5 : n.tmod 10 = n % 10 := Int.tmod_eq_emod_of_nonneg h0
    have hcat := fun W => run_string_add_sum (P := Tryd.prog) (w := W) (dig1 (n / 10)) (dig1 (n % 10)) (by rw [dig1_size, dig1_size]; decide)
    generalize dig1 (n / 10) = D0 at *
    generalize dig1 (n % 10) = D1 at *
    go_enter Tryd.func42, Tryd.ntmps42
    go_wp2_with fail
    refine (H1.out _).mono ?_; rintro e w1 ⟨rfl, o1⟩
    go_wp2_with fail
    refine (H2.out _).mono ?_; rintro e w2 ⟨rfl, o2⟩
    go_wp2_with fail
    go_ret
    exact ⟨rfl, o1.trans o2⟩
set_option maxRecDepth 100000 in
set_option maxHeartbeats 2000000 in
theorem rdigits_1 (w : World) (n : Int) (h0 : 0 ≤ n) (h1 : n < 10) : Calls Tryd.prog 43 #[.int .i64 n] w fun e w' => e = .returned (.string (dig1 n)) ∧ Only (fun _ => False) w w' := by
  have w2 : IntKind.i64.wrap (48 + n) = 48 + n := by rw [IntKind.wrap_i64]; omega
  have w3 : IntKind.u8.wrap (48 + n) = 48 + n := by rw [IntKind.wrap_u8]; omega
  have hconv : ∀ (W : World) (g : Nat), W.cell? ⟨g, 0, none⟩ = some (.int .u8 (48 + n)) → (convert 58 9 (.slice (some ⟨g, 0, none⟩) 1 1)).run Tryd.prog W = .ok (.string (strOfNums [48 + n])) W := fun W g hc => conv_one W g (48 + n) hc
  have q1 : (w.alloc (.cells #[.int .u8 (48 + n)] 5)).cell? ⟨w.heap.size, 0, none⟩ = some (.int .u8 (48 + n)) := (Has.new w 5 #[.int .u8 (48 + n)]).cell 0
  have hc := hconv _ _ q1
  go_enter Tryd.func43, Tryd.ntmps43
  go_wp2_with fail
  go_ret
  exact ⟨rfl, (Only.refl _ _).alloc _⟩
set_option maxRecDepth 100000 in
set_option maxHeartbeats 2000000 in
theorem rdigits_any (w : World) (n : Int) (h0 : 0 ≤ n) (h1 : n < 100) : Calls Tryd.prog 43 #[.int .i64 n] w fun e w' => e = .returned (.string (dstr n)) ∧ Only (fun _ => False) w w' := by
  by_cases h : n < 10
  · have := rdigits_1 w n h0 h
    rwa [show dstr n = dig1 n by unfold dstr; rw [if_pos h]]
  · rw [show dstr n = dig1 (n / 10) ++ dig1 (n % 10) by unfold dstr; rw [if_neg h]]
    have H1 := Lib.hid (fun W => rdigits_1 W (n / 10) (by omega) (by omega))
    have H2 := Lib.hid (fun W => rdigits_1 W (n % 10) (by omega) (by omega))
    have hge : 10 ≤ n := by omega
    have w2 : IntKind.i64.wrap (n.tdiv 10) = n / 10 := by rw [Int.tdiv_eq_ediv_of_nonneg h0, IntKind.wrap_i64]; omega
    have w3 : IntKind.i64.wrap (n.tmod 10) = n % 10 := by rw [Int.tmod_eq_emod_of_nonneg h0, IntKind.wrap_i64]; omega
    have w4 : n.tdiv 10 = n / 10 := Int.tdiv_eq_ediv_of_nonneg h0
    have w5 : n.tmod 10 = n % 10 := Int.tmod_eq_emod_of_nonneg h0
    have hcat := fun W => run_string_add_sum (P := Tryd.prog) (w := W) (dig1 (n / 10)) (dig1 (n % 10)) (by rw [dig1_size, dig1_size]; decide)
    generalize dig1 (n / 10) = D0 at *
    generalize dig1 (n % 10) = D1 at *
    go_enter Tryd.func43, Tryd.ntmps43
    go_wp2_with fail
    refine (H1.out _).mono ?_; rintro e w1 ⟨rfl, o1⟩
    go_wp2_with fail
    refine (H2.out _).mono ?_; rintro e w2 ⟨rfl, o2⟩
    go_wp2_with fail
    go_ret
    exact ⟨rfl, o1.trans o2⟩

/-- A class's name. -/
def nameF (c : Cl) : ByteArray :=
  if c.check ≠ 0 then ⟨#[63]⟩
  else if c.kind = 3 then ⟨#[98]⟩
  else if c.kind = 1 then ⟨#[115]⟩ ++ dstr c.bits
  else if c.kind = 4 then ⟨#[100]⟩ ++ dstr c.bits
  else ((((((⟨#[109]⟩ ++ dstr c.bits) ++ ⟨#[58]⟩) ++ dstr c.m) ++ ⟨#[120]⟩) ++ dstr c.k) ++ ⟨#[120]⟩) ++ dstr c.n


set_option maxRecDepth 100000 in
set_option maxHeartbeats 8000000 in
theorem sname_any (w : World) (c : Cl) : Calls Tryd.prog 22 #[.agg c.cells] w fun e w' => e = .returned (.string (nameF c)) ∧ Only (fun _ => False) w w' := by
  have HC := fun W => scheck_any W c
  obtain ⟨kind, bits, m, k, n⟩ := c
  by_cases hc : Cl.check ⟨kind, bits, m, k, n⟩ = 0
  · rw [hc] at HC
    replace HC := Lib.hid HC
    rcases Cl.good hc with ⟨rfl, hm, hk2, hn, hb⟩ | ⟨rfl | rfl, rfl, rfl, rfl, hb⟩ | ⟨rfl, rfl, rfl, rfl, rfl⟩
    · have hv : nameF ⟨2, bits, m, k, n⟩ = ((((((⟨#[109]⟩ ++ dstr bits) ++ ⟨#[58]⟩) ++ dstr m) ++ ⟨#[120]⟩) ++ dstr k) ++ ⟨#[120]⟩) ++ dstr n := by unfold nameF; rw [if_neg (by simp [hc])]; rfl
      rw [hv]
      have HB := Lib.hid (fun W => digits_any W bits (by omega) (by omega))
      have HM := Lib.hid (fun W => digits_any W m (by omega) (by omega))
      have HK := Lib.hid (fun W => digits_any W k (by omega) (by omega))
      have HN := Lib.hid (fun W => digits_any W n (by omega) (by omega))
      have sb := dstr_size bits
      have sm := dstr_size m
      have sk := dstr_size k
      have sn := dstr_size n
      generalize dstr bits = DB at *
      generalize dstr m = DM at *
      generalize dstr k = DK at *
      generalize dstr n = DN at *
      have z1 : (⟨#[109]⟩ : ByteArray).size = 1 := rfl
      have z2 : (⟨#[58]⟩ : ByteArray).size = 1 := rfl
      have z3 : (⟨#[120]⟩ : ByteArray).size = 1 := rfl
      have q1 := fun W => run_string_add_sum (P := Tryd.prog) (w := W) ⟨#[109]⟩ DB (by omega)
      have q2 := fun W => run_string_add_sum (P := Tryd.prog) (w := W) (⟨#[109]⟩ ++ DB) ⟨#[58]⟩ (by simp only [ByteArray.size_append]; omega)
      have q3 := fun W => run_string_add_sum (P := Tryd.prog) (w := W) (⟨#[109]⟩ ++ DB ++ ⟨#[58]⟩) DM (by simp only [ByteArray.size_append]; omega)
      have q4 := fun W => run_string_add_sum (P := Tryd.prog) (w := W) (⟨#[109]⟩ ++ DB ++ ⟨#[58]⟩ ++ DM) ⟨#[120]⟩ (by simp only [ByteArray.size_append]; omega)
      have q5 := fun W => run_string_add_sum (P := Tryd.prog) (w := W) (⟨#[109]⟩ ++ DB ++ ⟨#[58]⟩ ++ DM ++ ⟨#[120]⟩) DK (by simp only [ByteArray.size_append]; omega)
      have q6 := fun W => run_string_add_sum (P := Tryd.prog) (w := W) (⟨#[109]⟩ ++ DB ++ ⟨#[58]⟩ ++ DM ++ ⟨#[120]⟩ ++ DK) ⟨#[120]⟩ (by simp only [ByteArray.size_append]; omega)
      have q7 := fun W => run_string_add_sum (P := Tryd.prog) (w := W) (⟨#[109]⟩ ++ DB ++ ⟨#[58]⟩ ++ DM ++ ⟨#[120]⟩ ++ DK ++ ⟨#[120]⟩) DN (by simp only [ByteArray.size_append]; omega)
      have hz4 : (⟨#[115, 109, 98, 100]⟩ : ByteArray).size = 4 := rfl
      have hex : (⟨#[115, 109, 98, 100]⟩ : ByteArray).extract 1 2 = ⟨#[109]⟩ := rfl
      clear hv hc z1 z2 z3 sb sm sk sn hm hk2 hn hb
      simp only [Cl.cells] at *
      go_enter Tryd.func22, Tryd.ntmps22
      go_wp2_with fail
      refine (HC.out _).mono ?_; rintro e w1 ⟨rfl, o1⟩
      have C1 : CAt w1 w.heap.size 2 bits m k n := o1.has (Has.new w _ _) (fun f => f)
      have O1 : Only (fun _ => False) w w1 := ((Only.refl _ _).alloc _).trans o1
      obtain ⟨f0, f1, f2, f3, f4⟩ := cl_facts C1
      have C1 : CAt w1.drew w.heap.size 2 bits m k n := C1.drew
      have O1 : Only (fun _ => False) w w1.drew := O1.drew
      go_wp2_with fail
      go_region_held3 (fun W => (W.cell? ⟨w.heap.size, 0, none⟩ = some (.int .i64 2) ∧ W.cell? ⟨w.heap.size, 1, none⟩ = some (.int .i64 bits) ∧ W.cell? ⟨w.heap.size, 2, none⟩ = some (.int .i64 m) ∧ W.cell? ⟨w.heap.size, 3, none⟩ = some (.int .i64 k) ∧ W.cell? ⟨w.heap.size, 4, none⟩ = some (.int .i64 n)) ∧ CAt W w.heap.size 2 bits m k n ∧ Only (fun _ => False) w W) (exact ⟨cl_facts (by assumption), by assumption, by assumption⟩) (first
      | (go_at_call_of 42 (Value.int .i64 bits); refine (HB.out _).mono ?_; rintro e w9 ⟨rfl, o9⟩; have C9 : CAt w9 w.heap.size 2 bits m k n := Only.has o9 (by assumption) (fun f => f); have O9 : Only (fun _ => False) w w9 := Only.trans (by assumption) o9)
      | (go_at_call_of 42 (Value.int .i64 m); refine (HM.out _).mono ?_; rintro e w9 ⟨rfl, o9⟩; have C9 : CAt w9 w.heap.size 2 bits m k n := Only.has o9 (by assumption) (fun f => f); have O9 : Only (fun _ => False) w w9 := Only.trans (by assumption) o9)
      | (go_at_call_of 42 (Value.int .i64 k); refine (HK.out _).mono ?_; rintro e w9 ⟨rfl, o9⟩; have C9 : CAt w9 w.heap.size 2 bits m k n := Only.has o9 (by assumption) (fun f => f); have O9 : Only (fun _ => False) w w9 := Only.trans (by assumption) o9)
      | (go_at_call_of 42 (Value.int .i64 n); refine (HN.out _).mono ?_; rintro e w9 ⟨rfl, o9⟩; have C9 : CAt w9 w.heap.size 2 bits m k n := Only.has o9 (by assumption) (fun f => f); have O9 : Only (fun _ => False) w w9 := Only.trans (by assumption) o9))
      rename_i hS
      have O := hS.2.2
      clear hS
      go_wp2_with fail
      go_ret
      exact ⟨rfl, O⟩
    · have hv : nameF ⟨1, bits, 0, 0, 0⟩ = ⟨#[115]⟩ ++ dstr bits := by unfold nameF; rw [if_neg (by simp [hc])]; rfl
      rw [hv]
      have HB := Lib.hid (fun W => digits_any W bits (by omega) (by omega))
      have sb := dstr_size bits
      generalize dstr bits = DB at *
      have q1 := fun W => run_string_add_sum (P := Tryd.prog) (w := W) ⟨#[115]⟩ DB (by rw [show (⟨#[115]⟩ : ByteArray).size = 1 from rfl]; omega)
      have hz4 : (⟨#[115, 109, 98, 100]⟩ : ByteArray).size = 4 := rfl
      have hex : (⟨#[115, 109, 98, 100]⟩ : ByteArray).extract (1 - 1) 1 = ⟨#[115]⟩ := rfl
      simp only [Nat.reduceSub] at hex
      clear hv hc sb hb
      simp only [Cl.cells] at *
      go_enter Tryd.func22, Tryd.ntmps22
      go_wp2_with fail
      refine (HC.out _).mono ?_; rintro e w1 ⟨rfl, o1⟩
      have C1 : CAt w1 w.heap.size 1 bits 0 0 0 := o1.has (Has.new w _ _) (fun f => f)
      have O1 : Only (fun _ => False) w w1 := ((Only.refl _ _).alloc _).trans o1
      obtain ⟨f0, f1, f2, f3, f4⟩ := cl_facts C1
      go_wp2_with fail
      refine (HB.out _).mono ?_; rintro e w2 ⟨rfl, o2⟩
      go_wp2_with fail
      go_ret
      exact ⟨rfl, O1.trans o2⟩
    · have hv : nameF ⟨4, bits, 0, 0, 0⟩ = ⟨#[100]⟩ ++ dstr bits := by unfold nameF; rw [if_neg (by simp [hc])]; rfl
      rw [hv]
      have HB := Lib.hid (fun W => digits_any W bits (by omega) (by omega))
      have sb := dstr_size bits
      generalize dstr bits = DB at *
      have q1 := fun W => run_string_add_sum (P := Tryd.prog) (w := W) ⟨#[100]⟩ DB (by rw [show (⟨#[100]⟩ : ByteArray).size = 1 from rfl]; omega)
      have hz4 : (⟨#[115, 109, 98, 100]⟩ : ByteArray).size = 4 := rfl
      have hex : (⟨#[115, 109, 98, 100]⟩ : ByteArray).extract (4 - 1) 4 = ⟨#[100]⟩ := rfl
      simp only [Nat.reduceSub] at hex
      clear hv hc sb hb
      simp only [Cl.cells] at *
      go_enter Tryd.func22, Tryd.ntmps22
      go_wp2_with fail
      refine (HC.out _).mono ?_; rintro e w1 ⟨rfl, o1⟩
      have C1 : CAt w1 w.heap.size 4 bits 0 0 0 := o1.has (Has.new w _ _) (fun f => f)
      have O1 : Only (fun _ => False) w w1 := ((Only.refl _ _).alloc _).trans o1
      obtain ⟨f0, f1, f2, f3, f4⟩ := cl_facts C1
      go_wp2_with fail
      refine (HB.out _).mono ?_; rintro e w2 ⟨rfl, o2⟩
      go_wp2_with fail
      go_ret
      exact ⟨rfl, O1.trans o2⟩
    · have hv : nameF ⟨3, 1, 0, 0, 0⟩ = ⟨#[98]⟩ := by unfold nameF; rw [if_neg (by simp [hc])]; rfl
      rw [hv]
      clear hv hc
      simp only [Cl.cells] at *
      go_enter Tryd.func22, Tryd.ntmps22
      go_wp2_with fail
      refine (HC.out _).mono ?_; rintro e w1 ⟨rfl, o1⟩
      have C1 : CAt w1 w.heap.size 3 1 0 0 0 := o1.has (Has.new w _ _) (fun f => f)
      have O1 : Only (fun _ => False) w w1 := ((Only.refl _ _).alloc _).trans o1
      obtain ⟨f0, f1, f2, f3, f4⟩ := cl_facts C1
      go_wp2_with fail
      go_ret
      exact ⟨rfl, O1⟩
  · have hv : nameF ⟨kind, bits, m, k, n⟩ = ⟨#[63]⟩ := by unfold nameF; rw [if_pos hc]
    have h1 : (Cl.check ⟨kind, bits, m, k, n⟩ != 0) = true := by simpa using hc
    rw [hv]
    generalize Cl.check ⟨kind, bits, m, k, n⟩ = x at *
    replace HC := Lib.hid HC
    clear hv hc
    simp only [Cl.cells] at *
    go_enter Tryd.func22, Tryd.ntmps22
    go_wp2_with fail
    refine (HC.out _).mono ?_; rintro e w1 ⟨rfl, o1⟩
    go_wp2_with fail
    go_ret
    exact ⟨rfl, ((Only.refl _ _).alloc _).trans o1⟩

set_option maxRecDepth 100000 in
set_option maxHeartbeats 8000000 in
theorem rname_any (w : World) (c : Cl) : Calls Tryd.prog 23 #[.agg c.cells] w fun e w' => e = .returned (.string (nameF c)) ∧ Only (fun _ => False) w w' := by
  have HC := fun W => srcheck_any W c
  obtain ⟨kind, bits, m, k, n⟩ := c
  by_cases hc : Cl.check ⟨kind, bits, m, k, n⟩ = 0
  · rw [hc] at HC
    replace HC := Lib.hid HC
    rcases Cl.good hc with ⟨rfl, hm, hk2, hn, hb⟩ | ⟨rfl | rfl, rfl, rfl, rfl, hb⟩ | ⟨rfl, rfl, rfl, rfl, rfl⟩
    · have hv : nameF ⟨2, bits, m, k, n⟩ = ((((((⟨#[109]⟩ ++ dstr bits) ++ ⟨#[58]⟩) ++ dstr m) ++ ⟨#[120]⟩) ++ dstr k) ++ ⟨#[120]⟩) ++ dstr n := by unfold nameF; rw [if_neg (by simp [hc])]; rfl
      rw [hv]
      have HB := Lib.hid (fun W => rdigits_any W bits (by omega) (by omega))
      have HM := Lib.hid (fun W => rdigits_any W m (by omega) (by omega))
      have HK := Lib.hid (fun W => rdigits_any W k (by omega) (by omega))
      have HN := Lib.hid (fun W => rdigits_any W n (by omega) (by omega))
      have sb := dstr_size bits
      have sm := dstr_size m
      have sk := dstr_size k
      have sn := dstr_size n
      generalize dstr bits = DB at *
      generalize dstr m = DM at *
      generalize dstr k = DK at *
      generalize dstr n = DN at *
      have z1 : (⟨#[109]⟩ : ByteArray).size = 1 := rfl
      have z2 : (⟨#[58]⟩ : ByteArray).size = 1 := rfl
      have z3 : (⟨#[120]⟩ : ByteArray).size = 1 := rfl
      have q1 := fun W => run_string_add_sum (P := Tryd.prog) (w := W) ⟨#[109]⟩ DB (by omega)
      have q2 := fun W => run_string_add_sum (P := Tryd.prog) (w := W) (⟨#[109]⟩ ++ DB) ⟨#[58]⟩ (by simp only [ByteArray.size_append]; omega)
      have q3 := fun W => run_string_add_sum (P := Tryd.prog) (w := W) (⟨#[109]⟩ ++ DB ++ ⟨#[58]⟩) DM (by simp only [ByteArray.size_append]; omega)
      have q4 := fun W => run_string_add_sum (P := Tryd.prog) (w := W) (⟨#[109]⟩ ++ DB ++ ⟨#[58]⟩ ++ DM) ⟨#[120]⟩ (by simp only [ByteArray.size_append]; omega)
      have q5 := fun W => run_string_add_sum (P := Tryd.prog) (w := W) (⟨#[109]⟩ ++ DB ++ ⟨#[58]⟩ ++ DM ++ ⟨#[120]⟩) DK (by simp only [ByteArray.size_append]; omega)
      have q6 := fun W => run_string_add_sum (P := Tryd.prog) (w := W) (⟨#[109]⟩ ++ DB ++ ⟨#[58]⟩ ++ DM ++ ⟨#[120]⟩ ++ DK) ⟨#[120]⟩ (by simp only [ByteArray.size_append]; omega)
      have q7 := fun W => run_string_add_sum (P := Tryd.prog) (w := W) (⟨#[109]⟩ ++ DB ++ ⟨#[58]⟩ ++ DM ++ ⟨#[120]⟩ ++ DK ++ ⟨#[120]⟩) DN (by simp only [ByteArray.size_append]; omega)
      have hz4 : (⟨#[115, 109, 98, 100]⟩ : ByteArray).size = 4 := rfl
      have hex : (⟨#[115, 109, 98, 100]⟩ : ByteArray).extract 1 2 = ⟨#[109]⟩ := rfl
      clear hv hc z1 z2 z3 sb sm sk sn hm hk2 hn hb
      simp only [Cl.cells] at *
      go_enter Tryd.func23, Tryd.ntmps23
      go_wp2_with fail
      refine (HC.out _).mono ?_; rintro e w1 ⟨rfl, o1⟩
      have C1 : CAt w1 w.heap.size 2 bits m k n := o1.has (Has.new w _ _) (fun f => f)
      have O1 : Only (fun _ => False) w w1 := ((Only.refl _ _).alloc _).trans o1
      obtain ⟨f0, f1, f2, f3, f4⟩ := cl_facts C1
      have C1 : CAt w1.drew w.heap.size 2 bits m k n := C1.drew
      have O1 : Only (fun _ => False) w w1.drew := O1.drew
      go_wp2_with fail
      go_region_with (go_at_call 43; (with_reducible refine (HB.out _).mono ?_); rintro e w9 ⟨rfl, o9⟩; have C9 : CAt w9 w.heap.size 2 bits m k n := o9.has C1 (fun f => f); obtain ⟨y0, y1, y2, y3, y4⟩ := cl_facts C9)
      all_goals
       have O2 : Only (fun _ => False) w w9 := O1.trans o9
       have C2 : CAt w9.drew w.heap.size 2 bits m k n := C9.drew
       have O2 : Only (fun _ => False) w w9.drew := O2.drew
       go_wp2_with fail
       go_region_held3 (fun W => (W.cell? ⟨w.heap.size, 0, none⟩ = some (.int .i64 2) ∧ W.cell? ⟨w.heap.size, 1, none⟩ = some (.int .i64 bits) ∧ W.cell? ⟨w.heap.size, 2, none⟩ = some (.int .i64 m) ∧ W.cell? ⟨w.heap.size, 3, none⟩ = some (.int .i64 k) ∧ W.cell? ⟨w.heap.size, 4, none⟩ = some (.int .i64 n)) ∧ CAt W w.heap.size 2 bits m k n ∧ Only (fun _ => False) w W) (exact ⟨cl_facts (by assumption), by assumption, by assumption⟩) (first
       | (go_at_call_of 43 (Value.int .i64 m); refine (HM.out _).mono ?_; rintro e w9 ⟨rfl, o9⟩; have C9 : CAt w9 w.heap.size 2 bits m k n := Only.has o9 (by assumption) (fun f => f); have O9 : Only (fun _ => False) w w9 := Only.trans (by assumption) o9)
       | (go_at_call_of 43 (Value.int .i64 k); refine (HK.out _).mono ?_; rintro e w9 ⟨rfl, o9⟩; have C9 : CAt w9 w.heap.size 2 bits m k n := Only.has o9 (by assumption) (fun f => f); have O9 : Only (fun _ => False) w w9 := Only.trans (by assumption) o9)
       | (go_at_call_of 43 (Value.int .i64 n); refine (HN.out _).mono ?_; rintro e w9 ⟨rfl, o9⟩; have C9 : CAt w9 w.heap.size 2 bits m k n := Only.has o9 (by assumption) (fun f => f); have O9 : Only (fun _ => False) w w9 := Only.trans (by assumption) o9))
       rename_i hS
       have O := hS.2.2
       clear hS
       go_wp2_with fail
       go_ret
       exact ⟨rfl, O⟩
    · have hv : nameF ⟨1, bits, 0, 0, 0⟩ = ⟨#[115]⟩ ++ dstr bits := by unfold nameF; rw [if_neg (by simp [hc])]; rfl
      rw [hv]
      have HB := Lib.hid (fun W => rdigits_any W bits (by omega) (by omega))
      have sb := dstr_size bits
      generalize dstr bits = DB at *
      have q1 := fun W => run_string_add_sum (P := Tryd.prog) (w := W) ⟨#[115]⟩ DB (by rw [show (⟨#[115]⟩ : ByteArray).size = 1 from rfl]; omega)
      have hz4 : (⟨#[115, 109, 98, 100]⟩ : ByteArray).size = 4 := rfl
      have hex : (⟨#[115, 109, 98, 100]⟩ : ByteArray).extract (1 - 1) 1 = ⟨#[115]⟩ := rfl
      simp only [Nat.reduceSub] at hex
      clear hv hc sb hb
      simp only [Cl.cells] at *
      go_enter Tryd.func23, Tryd.ntmps23
      go_wp2_with fail
      refine (HC.out _).mono ?_; rintro e w1 ⟨rfl, o1⟩
      have C1 : CAt w1 w.heap.size 1 bits 0 0 0 := o1.has (Has.new w _ _) (fun f => f)
      have O1 : Only (fun _ => False) w w1 := ((Only.refl _ _).alloc _).trans o1
      obtain ⟨f0, f1, f2, f3, f4⟩ := cl_facts C1
      have C1 : CAt w1.drew w.heap.size 1 bits 0 0 0 := C1.drew
      have O1 : Only (fun _ => False) w w1.drew := O1.drew
      go_wp2_with fail
      go_region_with (go_at_call 43; (with_reducible refine (HB.out _).mono ?_); rintro e w9 ⟨rfl, o9⟩; have C9 : CAt w9 w.heap.size 1 bits 0 0 0 := o9.has C1 (fun f => f); obtain ⟨y0, y1, y2, y3, y4⟩ := cl_facts C9)
      all_goals
       have O2 : Only (fun _ => False) w w9 := O1.trans o9
       go_wp2_with fail
       go_ret
       exact ⟨rfl, O2⟩
    · have hv : nameF ⟨4, bits, 0, 0, 0⟩ = ⟨#[100]⟩ ++ dstr bits := by unfold nameF; rw [if_neg (by simp [hc])]; rfl
      rw [hv]
      have HB := Lib.hid (fun W => rdigits_any W bits (by omega) (by omega))
      have sb := dstr_size bits
      generalize dstr bits = DB at *
      have q1 := fun W => run_string_add_sum (P := Tryd.prog) (w := W) ⟨#[100]⟩ DB (by rw [show (⟨#[100]⟩ : ByteArray).size = 1 from rfl]; omega)
      have hz4 : (⟨#[115, 109, 98, 100]⟩ : ByteArray).size = 4 := rfl
      have hex : (⟨#[115, 109, 98, 100]⟩ : ByteArray).extract (4 - 1) 4 = ⟨#[100]⟩ := rfl
      simp only [Nat.reduceSub] at hex
      clear hv hc sb hb
      simp only [Cl.cells] at *
      go_enter Tryd.func23, Tryd.ntmps23
      go_wp2_with fail
      refine (HC.out _).mono ?_; rintro e w1 ⟨rfl, o1⟩
      have C1 : CAt w1 w.heap.size 4 bits 0 0 0 := o1.has (Has.new w _ _) (fun f => f)
      have O1 : Only (fun _ => False) w w1 := ((Only.refl _ _).alloc _).trans o1
      obtain ⟨f0, f1, f2, f3, f4⟩ := cl_facts C1
      have C1 : CAt w1.drew w.heap.size 4 bits 0 0 0 := C1.drew
      have O1 : Only (fun _ => False) w w1.drew := O1.drew
      go_wp2_with fail
      go_region_with (go_at_call 43; (with_reducible refine (HB.out _).mono ?_); rintro e w9 ⟨rfl, o9⟩; have C9 : CAt w9 w.heap.size 4 bits 0 0 0 := o9.has C1 (fun f => f); obtain ⟨y0, y1, y2, y3, y4⟩ := cl_facts C9)
      all_goals
       have O2 : Only (fun _ => False) w w9 := O1.trans o9
       go_wp2_with fail
       go_ret
       exact ⟨rfl, O2⟩
    · have hv : nameF ⟨3, 1, 0, 0, 0⟩ = ⟨#[98]⟩ := by unfold nameF; rw [if_neg (by simp [hc])]; rfl
      rw [hv]
      clear hv hc
      simp only [Cl.cells] at *
      go_enter Tryd.func23, Tryd.ntmps23
      go_wp2_with fail
      refine (HC.out _).mono ?_; rintro e w1 ⟨rfl, o1⟩
      have C1 : CAt w1 w.heap.size 3 1 0 0 0 := o1.has (Has.new w _ _) (fun f => f)
      have O1 : Only (fun _ => False) w w1 := ((Only.refl _ _).alloc _).trans o1
      obtain ⟨f0, f1, f2, f3, f4⟩ := cl_facts C1
      go_wp2_with fail
      go_ret
      exact ⟨rfl, O1⟩
  · have hv : nameF ⟨kind, bits, m, k, n⟩ = ⟨#[63]⟩ := by unfold nameF; rw [if_pos hc]
    have h1 : (Cl.check ⟨kind, bits, m, k, n⟩ != 0) = true := by simpa using hc
    rw [hv]
    generalize Cl.check ⟨kind, bits, m, k, n⟩ = x at *
    replace HC := Lib.hid HC
    clear hv hc
    simp only [Cl.cells] at *
    go_enter Tryd.func23, Tryd.ntmps23
    go_wp2_with fail
    refine (HC.out _).mono ?_; rintro e w1 ⟨rfl, o1⟩
    go_wp2_with fail
    go_ret
    exact ⟨rfl, ((Only.refl _ _).alloc _).trans o1⟩
end Go.Proofs.YtigcfgmblnbleaaDoor
