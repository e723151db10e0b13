/- boot.Store: Tear. -/
import Derived.Test.YtebamcmcmojneaaDoorBoS
import Derived.Lib.Strings
import Derived.Laws.Concat
set_option linter.unusedSimpArgs false
set_option linter.unusedVariables false
namespace Go.Proofs.YtebamcmcmojneaaDoor
open Go.RowKit Go.Lib

/-- A record torn: so many of its bytes, and the old ones behind. -/
def torn (t old : ByteArray) (k : Nat) : ByteArray := t.extract 0 k ++ (if old.size = 12 ∧ k < 12 then old.extract k old.size else ⟨#[]⟩)
def Sto.torn (s : Sto) (k : Nat) : Sto := if s.last = 1 then { s with b := Go.Proofs.YtebamcmcmojneaaDoor.torn s.b s.old k, old := Go.Proofs.YtebamcmcmojneaaDoor.torn s.b s.old k } else { s with a := Go.Proofs.YtebamcmcmojneaaDoor.torn s.a s.old k, old := Go.Proofs.YtebamcmcmojneaaDoor.torn s.a s.old k }

theorem ext_all (s : ByteArray) : s.extract 0 s.size = s := by simp
theorem ext_zero (s : ByteArray) : s.extract 0 0 = ⟨#[]⟩ := by
  apply ByteArray.ext
  simp
theorem ext_nil (s : ByteArray) : s ++ (⟨#[]⟩ : ByteArray) = s := by
  apply ByteArray.ext
  simp [ByteArray.data_append]
theorem nil_ext (s : ByteArray) : (⟨#[]⟩ : ByteArray) ++ s = s := by
  apply ByteArray.ext
  simp [ByteArray.data_append]

set_option maxHeartbeats 1000000 in
theorem tear_a_lo_y (w : World) (p : Nat) (s : Sto) (K : Int) (hK : K ≤ 0) (hs : s.short) (h : SAt w p s) (hl : s.last = 0) (ho : s.old.size = 12) (hk2 : 0 < 12) : Calls Tryd.prog 5 #[.pointer (some ⟨p, 0, none⟩), .int .i64 K] w fun e w' =>
    e = .returned (.tuple #[]) ∧ SAt w' p (s.torn 0) ∧ Only (· = p) w w' := by
  have ht : s.torn 0 = { s with a := s.old, old := s.old } := by
    unfold Sto.torn Go.Proofs.YtebamcmcmojneaaDoor.torn
    rw [if_neg (by omega), if_pos ⟨ho, hk2⟩, ext_zero, ext_all, nil_ext]
  rw [ht]
  clear ht
  obtain ⟨c0, c1, c2, c3, c4, cf⟩ := h.facts
  rw [hs.made] at c4
  rw [hl] at c2
  have ha := hs.a
  have ho1 : ((s.old.size : Int) == 12) = true := by have hx : (s.old.size : Int) = 12 := (by omega); simpa using hx
  have f6 : s.old.size ≤ 9223372036854775807 := by have := hs.old; omega
  have f7 : s.a.size ≤ 9223372036854775807 := by omega
  have f8 : (s.a.extract 0 0).size ≤ 9223372036854775807 := by simp only [ByteArray.size_extract]; omega
  have f1 : ¬ ((s.a.size : Int) < K) := by omega
  have f2 : ¬ (0 < K) := by omega
  have f3 : (0 : Int) ≤ (s.a.size : Int) := by omega
  have f4 : 0 < 12 := by omega
  have f5 : 0 ≤ s.old.size := by omega
  have HO := Lib.hid ho
  have HH := h
  have HA := Lib.hid ha
  clear ho ha 
  go_enter Tryd.func5, Tryd.ntmps5
  go_wp2_with fail
  go_quiet (fail)
  go_wp2_with fail
  go_region
  go_wp2_with fail
  go_region
  go_wp2_with fail
  go_end0
  skip
  exact ⟨rfl, ((HH.drewN _).put 0 _ rfl |>.put 3 _ rfl).drew, ((((Only.refl (fun j => j = p) w).drewN _).setCell ⟨p, 0, none⟩ _ (fun _ => (rfl : p = p))).setCell ⟨p, 3, none⟩ _ (fun _ => (rfl : p = p))).drew⟩

set_option maxHeartbeats 1000000 in
theorem tear_a_lo_n (w : World) (p : Nat) (s : Sto) (K : Int) (hK : K ≤ 0) (hs : s.short) (h : SAt w p s) (hl : s.last = 0) (ho : s.old.size ≠ 12) : Calls Tryd.prog 5 #[.pointer (some ⟨p, 0, none⟩), .int .i64 K] w fun e w' =>
    e = .returned (.tuple #[]) ∧ SAt w' p (s.torn 0) ∧ Only (· = p) w w' := by
  have ht : s.torn 0 = { s with a := ⟨#[]⟩, old := ⟨#[]⟩ } := by
    unfold Sto.torn Go.Proofs.YtebamcmcmojneaaDoor.torn
    rw [if_neg (by omega), if_neg (by omega), ext_nil, ext_zero]
  rw [ht]
  clear ht
  obtain ⟨c0, c1, c2, c3, c4, cf⟩ := h.facts
  rw [hs.made] at c4
  rw [hl] at c2
  have ha := hs.a
  have ho1 : ((s.old.size : Int) == 12) = false := by have hx : (s.old.size : Int) ≠ 12 := (by omega); simpa using hx
  have f6 : s.old.size ≤ 9223372036854775807 := by have := hs.old; omega
  have f7 : s.a.size ≤ 9223372036854775807 := by omega
  have f8 : (s.a.extract 0 0).size ≤ 9223372036854775807 := by simp only [ByteArray.size_extract]; omega
  have f1 : ¬ ((s.a.size : Int) < K) := by omega
  have f2 : ¬ (0 < K) := by omega
  have f3 : (0 : Int) ≤ (s.a.size : Int) := by omega
  have HO := Lib.hid ho
  have HH := h
  have HA := Lib.hid ha
  clear ho ha 
  go_enter Tryd.func5, Tryd.ntmps5
  go_wp2_with fail
  go_quiet (fail)
  go_wp2_with fail
  go_region
  go_wp2_with fail
  go_region
  go_wp2_with fail
  go_end0
  skip
  exact ⟨rfl, ((HH.drewN _).put 0 _ rfl |>.put 3 _ rfl).drew, ((((Only.refl (fun j => j = p) w).drewN _).setCell ⟨p, 0, none⟩ _ (fun _ => (rfl : p = p))).setCell ⟨p, 3, none⟩ _ (fun _ => (rfl : p = p))).drew⟩

set_option maxHeartbeats 1000000 in
theorem tear_a_mid_y (w : World) (p : Nat) (s : Sto) (k : Nat) (hk0 : 0 < k) (hk : k ≤ s.a.size) (hs : s.short) (h : SAt w p s) (hl : s.last = 0) (ho : s.old.size = 12) (hk2 : k < 12) : Calls Tryd.prog 5 #[.pointer (some ⟨p, 0, none⟩), .int .i64 (k : Int)] w fun e w' =>
    e = .returned (.tuple #[]) ∧ SAt w' p (s.torn k) ∧ Only (· = p) w w' := by
  have ht : s.torn k = { s with a := s.a.extract 0 k ++ s.old.extract k s.old.size, old := s.a.extract 0 k ++ s.old.extract k s.old.size } := by
    unfold Sto.torn Go.Proofs.YtebamcmcmojneaaDoor.torn
    rw [if_neg (by omega), if_pos ⟨ho, hk2⟩]
  rw [ht]
  clear ht
  obtain ⟨c0, c1, c2, c3, c4, cf⟩ := h.facts
  rw [hs.made] at c4
  rw [hl] at c2
  have ha := hs.a
  have ho1 : ((s.old.size : Int) == 12) = true := by have hx : (s.old.size : Int) = 12 := (by omega); simpa using hx
  have hcat := fun W => run_string_add_sum (P := Tryd.prog) (w := W) (s.a.extract 0 k) (s.old.extract k s.old.size) (by simp only [ByteArray.size_extract]; omega)
  have f6 : s.old.size ≤ 9223372036854775807 := by have := hs.old; omega
  have f7 : s.a.size ≤ 9223372036854775807 := by omega
  have f8 : (s.a.extract 0 k).size ≤ 9223372036854775807 := by simp only [ByteArray.size_extract]; omega
  have f1 : (k : Int) ≤ (s.a.size : Int) := by omega
  have f2 : (0 : Int) < (k : Int) := by omega
  have f4 : (k : Int) < 12 := by omega
  have f5 : k ≤ s.old.size := by omega
  have HO := Lib.hid ho
  have HH := h
  have HA := Lib.hid ha
  clear ho ha hk
  go_enter Tryd.func5, Tryd.ntmps5
  go_wp2_with fail
  go_quiet (fail)
  go_wp2_with fail
  go_region
  go_wp2_with fail
  go_region
  go_wp2_with fail
  go_end0
  skip
  exact ⟨rfl, ((HH.drewN _).put 0 _ rfl |>.put 3 _ rfl).drew, ((((Only.refl (fun j => j = p) w).drewN _).setCell ⟨p, 0, none⟩ _ (fun _ => (rfl : p = p))).setCell ⟨p, 3, none⟩ _ (fun _ => (rfl : p = p))).drew⟩

set_option maxHeartbeats 1000000 in
theorem tear_a_mid_n (w : World) (p : Nat) (s : Sto) (k : Nat) (hk0 : 0 < k) (hk : k ≤ s.a.size) (hs : s.short) (h : SAt w p s) (hl : s.last = 0) (ho : s.old.size ≠ 12) : Calls Tryd.prog 5 #[.pointer (some ⟨p, 0, none⟩), .int .i64 (k : Int)] w fun e w' =>
    e = .returned (.tuple #[]) ∧ SAt w' p (s.torn k) ∧ Only (· = p) w w' := by
  have ht : s.torn k = { s with a := s.a.extract 0 k, old := s.a.extract 0 k } := by
    unfold Sto.torn Go.Proofs.YtebamcmcmojneaaDoor.torn
    rw [if_neg (by omega), if_neg (by omega), ext_nil]
  rw [ht]
  clear ht
  obtain ⟨c0, c1, c2, c3, c4, cf⟩ := h.facts
  rw [hs.made] at c4
  rw [hl] at c2
  have ha := hs.a
  have ho1 : ((s.old.size : Int) == 12) = false := by have hx : (s.old.size : Int) ≠ 12 := (by omega); simpa using hx
  have f6 : s.old.size ≤ 9223372036854775807 := by have := hs.old; omega
  have f7 : s.a.size ≤ 9223372036854775807 := by omega
  have f8 : (s.a.extract 0 k).size ≤ 9223372036854775807 := by simp only [ByteArray.size_extract]; omega
  have f1 : (k : Int) ≤ (s.a.size : Int) := by omega
  have f2 : (0 : Int) < (k : Int) := by omega
  have HO := Lib.hid ho
  have HH := h
  have HA := Lib.hid ha
  clear ho ha hk
  go_enter Tryd.func5, Tryd.ntmps5
  go_wp2_with fail
  go_quiet (fail)
  go_wp2_with fail
  go_region
  go_wp2_with fail
  go_region
  go_wp2_with fail
  go_end0
  rw [ext_nil]
  exact ⟨rfl, ((HH.drewN _).put 0 _ rfl |>.put 3 _ rfl).drew, ((((Only.refl (fun j => j = p) w).drewN _).setCell ⟨p, 0, none⟩ _ (fun _ => (rfl : p = p))).setCell ⟨p, 3, none⟩ _ (fun _ => (rfl : p = p))).drew⟩

set_option maxHeartbeats 1000000 in
theorem tear_a_mid_m (w : World) (p : Nat) (s : Sto) (k : Nat) (hk0 : 0 < k) (hk : k ≤ s.a.size) (hs : s.short) (h : SAt w p s) (hl : s.last = 0) (ho : s.old.size = 12) (hk2 : 12 ≤ k) : Calls Tryd.prog 5 #[.pointer (some ⟨p, 0, none⟩), .int .i64 (k : Int)] w fun e w' =>
    e = .returned (.tuple #[]) ∧ SAt w' p (s.torn k) ∧ Only (· = p) w w' := by
  have ht : s.torn k = { s with a := s.a.extract 0 k, old := s.a.extract 0 k } := by
    unfold Sto.torn Go.Proofs.YtebamcmcmojneaaDoor.torn
    rw [if_neg (by omega), if_neg (by omega), ext_nil]
  rw [ht]
  clear ht
  obtain ⟨c0, c1, c2, c3, c4, cf⟩ := h.facts
  rw [hs.made] at c4
  rw [hl] at c2
  have ha := hs.a
  have ho1 : ((s.old.size : Int) == 12) = true := by have hx : (s.old.size : Int) = 12 := (by omega); simpa using hx
  have f6 : s.old.size ≤ 9223372036854775807 := by have := hs.old; omega
  have f7 : s.a.size ≤ 9223372036854775807 := by omega
  have f8 : (s.a.extract 0 k).size ≤ 9223372036854775807 := by simp only [ByteArray.size_extract]; omega
  have f1 : (k : Int) ≤ (s.a.size : Int) := by omega
  have f2 : (0 : Int) < (k : Int) := by omega
  have f4 : ¬ ((k : Int) < 12) := by omega
  have HO := Lib.hid ho
  have HH := h
  have HA := Lib.hid ha
  clear ho ha hk
  go_enter Tryd.func5, Tryd.ntmps5
  go_wp2_with fail
  go_quiet (fail)
  go_wp2_with fail
  go_region
  go_wp2_with fail
  go_region
  go_wp2_with fail
  go_end0
  rw [ext_nil]
  exact ⟨rfl, ((HH.drewN _).put 0 _ rfl |>.put 3 _ rfl).drew, ((((Only.refl (fun j => j = p) w).drewN _).setCell ⟨p, 0, none⟩ _ (fun _ => (rfl : p = p))).setCell ⟨p, 3, none⟩ _ (fun _ => (rfl : p = p))).drew⟩

set_option maxHeartbeats 1000000 in
theorem tear_a_hi_y (w : World) (p : Nat) (s : Sto) (K : Int) (hK : 0 < s.a.size) (hk : (s.a.size : Int) < K) (hs : s.short) (h : SAt w p s) (hl : s.last = 0) (ho : s.old.size = 12) (hk2 : s.a.size < 12) : Calls Tryd.prog 5 #[.pointer (some ⟨p, 0, none⟩), .int .i64 K] w fun e w' =>
    e = .returned (.tuple #[]) ∧ SAt w' p (s.torn s.a.size) ∧ Only (· = p) w w' := by
  have ht : s.torn s.a.size = { s with a := s.a ++ s.old.extract s.a.size s.old.size, old := s.a ++ s.old.extract s.a.size s.old.size } := by
    unfold Sto.torn Go.Proofs.YtebamcmcmojneaaDoor.torn
    rw [if_neg (by omega), if_pos ⟨ho, hk2⟩, ext_all]
  rw [ht]
  clear ht
  obtain ⟨c0, c1, c2, c3, c4, cf⟩ := h.facts
  rw [hs.made] at c4
  rw [hl] at c2
  have ha := hs.a
  have ho1 : ((s.old.size : Int) == 12) = true := by have hx : (s.old.size : Int) = 12 := (by omega); simpa using hx
  have hcat := fun W => run_string_add_sum (P := Tryd.prog) (w := W) (s.a) (s.old.extract s.a.size s.old.size) (by simp only [ByteArray.size_extract]; omega)
  have f6 : s.old.size ≤ 9223372036854775807 := by have := hs.old; omega
  have f7 : s.a.size ≤ 9223372036854775807 := by omega
  have f8 : (s.a.extract 0 s.a.size).size ≤ 9223372036854775807 := by simp only [ByteArray.size_extract]; omega
  have f1 : (s.a.size : Int) < K := hk
  have f2 : (0 : Int) < (s.a.size : Int) := by omega
  have f4 : (s.a.size : Int) < 12 := by omega
  have f5 : s.a.size ≤ s.old.size := by omega
  have HO := Lib.hid ho
  have HH := h
  have HA := Lib.hid ha
  clear ho ha hk
  go_enter Tryd.func5, Tryd.ntmps5
  go_wp2_with fail
  go_quiet (fail)
  go_wp2_with fail
  go_region
  go_wp2_with fail
  go_region
  go_wp2_with fail
  go_end0
  skip
  exact ⟨rfl, ((HH.drewN _).put 0 _ rfl |>.put 3 _ rfl).drew, ((((Only.refl (fun j => j = p) w).drewN _).setCell ⟨p, 0, none⟩ _ (fun _ => (rfl : p = p))).setCell ⟨p, 3, none⟩ _ (fun _ => (rfl : p = p))).drew⟩

set_option maxHeartbeats 1000000 in
theorem tear_a_hi_n (w : World) (p : Nat) (s : Sto) (K : Int) (hK : 0 < s.a.size) (hk : (s.a.size : Int) < K) (hs : s.short) (h : SAt w p s) (hl : s.last = 0) (ho : s.old.size ≠ 12) : Calls Tryd.prog 5 #[.pointer (some ⟨p, 0, none⟩), .int .i64 K] w fun e w' =>
    e = .returned (.tuple #[]) ∧ SAt w' p (s.torn s.a.size) ∧ Only (· = p) w w' := by
  have ht : s.torn s.a.size = { s with a := s.a, old := s.a } := by
    unfold Sto.torn Go.Proofs.YtebamcmcmojneaaDoor.torn
    rw [if_neg (by omega), if_neg (by omega), ext_nil, ext_all]
  rw [ht]
  clear ht
  obtain ⟨c0, c1, c2, c3, c4, cf⟩ := h.facts
  rw [hs.made] at c4
  rw [hl] at c2
  have ha := hs.a
  have ho1 : ((s.old.size : Int) == 12) = false := by have hx : (s.old.size : Int) ≠ 12 := (by omega); simpa using hx
  have f6 : s.old.size ≤ 9223372036854775807 := by have := hs.old; omega
  have f7 : s.a.size ≤ 9223372036854775807 := by omega
  have f8 : (s.a.extract 0 s.a.size).size ≤ 9223372036854775807 := by simp only [ByteArray.size_extract]; omega
  have f1 : (s.a.size : Int) < K := hk
  have f2 : (0 : Int) < (s.a.size : Int) := by omega
  have HO := Lib.hid ho
  have HH := h
  have HA := Lib.hid ha
  clear ho ha hk
  go_enter Tryd.func5, Tryd.ntmps5
  go_wp2_with fail
  go_quiet (fail)
  go_wp2_with fail
  go_region
  go_wp2_with fail
  go_region
  go_wp2_with fail
  go_end0
  rw [ext_nil]
  exact ⟨rfl, ((HH.drewN _).put 0 _ rfl |>.put 3 _ rfl).drew, ((((Only.refl (fun j => j = p) w).drewN _).setCell ⟨p, 0, none⟩ _ (fun _ => (rfl : p = p))).setCell ⟨p, 3, none⟩ _ (fun _ => (rfl : p = p))).drew⟩

set_option maxHeartbeats 1000000 in
theorem tear_a_hi_m (w : World) (p : Nat) (s : Sto) (K : Int) (hK : 0 < s.a.size) (hk : (s.a.size : Int) < K) (hs : s.short) (h : SAt w p s) (hl : s.last = 0) (ho : s.old.size = 12) (hk2 : 12 ≤ s.a.size) : Calls Tryd.prog 5 #[.pointer (some ⟨p, 0, none⟩), .int .i64 K] w fun e w' =>
    e = .returned (.tuple #[]) ∧ SAt w' p (s.torn s.a.size) ∧ Only (· = p) w w' := by
  have ht : s.torn s.a.size = { s with a := s.a, old := s.a } := by
    unfold Sto.torn Go.Proofs.YtebamcmcmojneaaDoor.torn
    rw [if_neg (by omega), if_neg (by omega), ext_nil, ext_all]
  rw [ht]
  clear ht
  obtain ⟨c0, c1, c2, c3, c4, cf⟩ := h.facts
  rw [hs.made] at c4
  rw [hl] at c2
  have ha := hs.a
  have ho1 : ((s.old.size : Int) == 12) = true := by have hx : (s.old.size : Int) = 12 := (by omega); simpa using hx
  have f6 : s.old.size ≤ 9223372036854775807 := by have := hs.old; omega
  have f7 : s.a.size ≤ 9223372036854775807 := by omega
  have f8 : (s.a.extract 0 s.a.size).size ≤ 9223372036854775807 := by simp only [ByteArray.size_extract]; omega
  have f1 : (s.a.size : Int) < K := hk
  have f2 : (0 : Int) < (s.a.size : Int) := by omega
  have f4 : ¬ ((s.a.size : Int) < 12) := by omega
  have HO := Lib.hid ho
  have HH := h
  have HA := Lib.hid ha
  clear ho ha hk
  go_enter Tryd.func5, Tryd.ntmps5
  go_wp2_with fail
  go_quiet (fail)
  go_wp2_with fail
  go_region
  go_wp2_with fail
  go_region
  go_wp2_with fail
  go_end0
  rw [ext_nil]
  exact ⟨rfl, ((HH.drewN _).put 0 _ rfl |>.put 3 _ rfl).drew, ((((Only.refl (fun j => j = p) w).drewN _).setCell ⟨p, 0, none⟩ _ (fun _ => (rfl : p = p))).setCell ⟨p, 3, none⟩ _ (fun _ => (rfl : p = p))).drew⟩

set_option maxHeartbeats 1000000 in
theorem tear_a_hz_y (w : World) (p : Nat) (s : Sto) (K : Int) (hK : s.a.size = 0) (hk : 0 < K) (hs : s.short) (h : SAt w p s) (hl : s.last = 0) (ho : s.old.size = 12) (hk2 : 0 < 12) : Calls Tryd.prog 5 #[.pointer (some ⟨p, 0, none⟩), .int .i64 K] w fun e w' =>
    e = .returned (.tuple #[]) ∧ SAt w' p (s.torn 0) ∧ Only (· = p) w w' := by
  have ht : s.torn 0 = { s with a := s.old, old := s.old } := by
    unfold Sto.torn Go.Proofs.YtebamcmcmojneaaDoor.torn
    rw [if_neg (by omega), if_pos ⟨ho, hk2⟩, ext_zero, ext_all, nil_ext]
  rw [ht]
  clear ht
  obtain ⟨c0, c1, c2, c3, c4, cf⟩ := h.facts
  rw [hs.made] at c4
  rw [hl] at c2
  have ha := hs.a
  have ho1 : ((s.old.size : Int) == 12) = true := by have hx : (s.old.size : Int) = 12 := (by omega); simpa using hx
  have f6 : s.old.size ≤ 9223372036854775807 := by have := hs.old; omega
  have f7 : s.a.size ≤ 9223372036854775807 := by omega
  have f8 : (s.a.extract 0 0).size ≤ 9223372036854775807 := by simp only [ByteArray.size_extract]; omega
  have f1 : (s.a.size : Int) < K := by omega
  have f2 : ¬ ((0 : Int) < (s.a.size : Int)) := by omega
  have HK := Lib.hid hK
  clear hK
  have f4 : 0 < 12 := by omega
  have f5 : 0 ≤ s.old.size := by omega
  have HO := Lib.hid ho
  have HH := h
  have HA := Lib.hid ha
  clear ho ha hk
  go_enter Tryd.func5, Tryd.ntmps5
  go_wp2_with fail
  go_quiet (fail)
  go_wp2_with fail
  go_region
  go_wp2_with fail
  go_region
  go_wp2_with fail
  go_end0
  skip
  exact ⟨rfl, ((HH.drewN _).put 0 _ rfl |>.put 3 _ rfl).drew, ((((Only.refl (fun j => j = p) w).drewN _).setCell ⟨p, 0, none⟩ _ (fun _ => (rfl : p = p))).setCell ⟨p, 3, none⟩ _ (fun _ => (rfl : p = p))).drew⟩

set_option maxHeartbeats 1000000 in
theorem tear_a_hz_n (w : World) (p : Nat) (s : Sto) (K : Int) (hK : s.a.size = 0) (hk : 0 < K) (hs : s.short) (h : SAt w p s) (hl : s.last = 0) (ho : s.old.size ≠ 12) : Calls Tryd.prog 5 #[.pointer (some ⟨p, 0, none⟩), .int .i64 K] w fun e w' =>
    e = .returned (.tuple #[]) ∧ SAt w' p (s.torn 0) ∧ Only (· = p) w w' := by
  have ht : s.torn 0 = { s with a := ⟨#[]⟩, old := ⟨#[]⟩ } := by
    unfold Sto.torn Go.Proofs.YtebamcmcmojneaaDoor.torn
    rw [if_neg (by omega), if_neg (by omega), ext_nil, ext_zero]
  rw [ht]
  clear ht
  obtain ⟨c0, c1, c2, c3, c4, cf⟩ := h.facts
  rw [hs.made] at c4
  rw [hl] at c2
  have ha := hs.a
  have ho1 : ((s.old.size : Int) == 12) = false := by have hx : (s.old.size : Int) ≠ 12 := (by omega); simpa using hx
  have f6 : s.old.size ≤ 9223372036854775807 := by have := hs.old; omega
  have f7 : s.a.size ≤ 9223372036854775807 := by omega
  have f8 : (s.a.extract 0 0).size ≤ 9223372036854775807 := by simp only [ByteArray.size_extract]; omega
  have f1 : (s.a.size : Int) < K := by omega
  have f2 : ¬ ((0 : Int) < (s.a.size : Int)) := by omega
  have HK := Lib.hid hK
  clear hK
  have HO := Lib.hid ho
  have HH := h
  have HA := Lib.hid ha
  clear ho ha hk
  go_enter Tryd.func5, Tryd.ntmps5
  go_wp2_with fail
  go_quiet (fail)
  go_wp2_with fail
  go_region
  go_wp2_with fail
  go_region
  go_wp2_with fail
  go_end0
  skip
  exact ⟨rfl, ((HH.drewN _).put 0 _ rfl |>.put 3 _ rfl).drew, ((((Only.refl (fun j => j = p) w).drewN _).setCell ⟨p, 0, none⟩ _ (fun _ => (rfl : p = p))).setCell ⟨p, 3, none⟩ _ (fun _ => (rfl : p = p))).drew⟩

set_option maxHeartbeats 1000000 in
theorem tear_b_lo_y (w : World) (p : Nat) (s : Sto) (K : Int) (hK : K ≤ 0) (hs : s.short) (h : SAt w p s) (hl : s.last = 1) (ho : s.old.size = 12) (hk2 : 0 < 12) : Calls Tryd.prog 5 #[.pointer (some ⟨p, 0, none⟩), .int .i64 K] w fun e w' =>
    e = .returned (.tuple #[]) ∧ SAt w' p (s.torn 0) ∧ Only (· = p) w w' := by
  have ht : s.torn 0 = { s with b := s.old, old := s.old } := by
    unfold Sto.torn Go.Proofs.YtebamcmcmojneaaDoor.torn
    rw [if_pos hl, if_pos ⟨ho, hk2⟩, ext_zero, ext_all, nil_ext]
  rw [ht]
  clear ht
  obtain ⟨c0, c1, c2, c3, c4, cf⟩ := h.facts
  rw [hs.made] at c4
  rw [hl] at c2
  have ha := hs.b
  have ho1 : ((s.old.size : Int) == 12) = true := by have hx : (s.old.size : Int) = 12 := (by omega); simpa using hx
  have f6 : s.old.size ≤ 9223372036854775807 := by have := hs.old; omega
  have f7 : s.b.size ≤ 9223372036854775807 := by omega
  have f8 : (s.b.extract 0 0).size ≤ 9223372036854775807 := by simp only [ByteArray.size_extract]; omega
  have f1 : ¬ ((s.b.size : Int) < K) := by omega
  have f2 : ¬ (0 < K) := by omega
  have f3 : (0 : Int) ≤ (s.b.size : Int) := by omega
  have f4 : 0 < 12 := by omega
  have f5 : 0 ≤ s.old.size := by omega
  have HO := Lib.hid ho
  have HH := h
  have HA := Lib.hid ha
  clear ho ha 
  go_enter Tryd.func5, Tryd.ntmps5
  go_wp2_with fail
  go_quiet (fail)
  go_wp2_with fail
  go_region
  go_wp2_with fail
  go_region
  go_wp2_with fail
  go_end0
  skip
  exact ⟨rfl, ((HH.drewN _).put 1 _ rfl |>.put 3 _ rfl).drew, ((((Only.refl (fun j => j = p) w).drewN _).setCell ⟨p, 1, none⟩ _ (fun _ => (rfl : p = p))).setCell ⟨p, 3, none⟩ _ (fun _ => (rfl : p = p))).drew⟩

set_option maxHeartbeats 1000000 in
theorem tear_b_lo_n (w : World) (p : Nat) (s : Sto) (K : Int) (hK : K ≤ 0) (hs : s.short) (h : SAt w p s) (hl : s.last = 1) (ho : s.old.size ≠ 12) : Calls Tryd.prog 5 #[.pointer (some ⟨p, 0, none⟩), .int .i64 K] w fun e w' =>
    e = .returned (.tuple #[]) ∧ SAt w' p (s.torn 0) ∧ Only (· = p) w w' := by
  have ht : s.torn 0 = { s with b := ⟨#[]⟩, old := ⟨#[]⟩ } := by
    unfold Sto.torn Go.Proofs.YtebamcmcmojneaaDoor.torn
    rw [if_pos hl, if_neg (by omega), ext_nil, ext_zero]
  rw [ht]
  clear ht
  obtain ⟨c0, c1, c2, c3, c4, cf⟩ := h.facts
  rw [hs.made] at c4
  rw [hl] at c2
  have ha := hs.b
  have ho1 : ((s.old.size : Int) == 12) = false := by have hx : (s.old.size : Int) ≠ 12 := (by omega); simpa using hx
  have f6 : s.old.size ≤ 9223372036854775807 := by have := hs.old; omega
  have f7 : s.b.size ≤ 9223372036854775807 := by omega
  have f8 : (s.b.extract 0 0).size ≤ 9223372036854775807 := by simp only [ByteArray.size_extract]; omega
  have f1 : ¬ ((s.b.size : Int) < K) := by omega
  have f2 : ¬ (0 < K) := by omega
  have f3 : (0 : Int) ≤ (s.b.size : Int) := by omega
  have HO := Lib.hid ho
  have HH := h
  have HA := Lib.hid ha
  clear ho ha 
  go_enter Tryd.func5, Tryd.ntmps5
  go_wp2_with fail
  go_quiet (fail)
  go_wp2_with fail
  go_region
  go_wp2_with fail
  go_region
  go_wp2_with fail
  go_end0
  skip
  exact ⟨rfl, ((HH.drewN _).put 1 _ rfl |>.put 3 _ rfl).drew, ((((Only.refl (fun j => j = p) w).drewN _).setCell ⟨p, 1, none⟩ _ (fun _ => (rfl : p = p))).setCell ⟨p, 3, none⟩ _ (fun _ => (rfl : p = p))).drew⟩

set_option maxHeartbeats 1000000 in
theorem tear_b_mid_y (w : World) (p : Nat) (s : Sto) (k : Nat) (hk0 : 0 < k) (hk : k ≤ s.b.size) (hs : s.short) (h : SAt w p s) (hl : s.last = 1) (ho : s.old.size = 12) (hk2 : k < 12) : Calls Tryd.prog 5 #[.pointer (some ⟨p, 0, none⟩), .int .i64 (k : Int)] w fun e w' =>
    e = .returned (.tuple #[]) ∧ SAt w' p (s.torn k) ∧ Only (· = p) w w' := by
  have ht : s.torn k = { s with b := s.b.extract 0 k ++ s.old.extract k s.old.size, old := s.b.extract 0 k ++ s.old.extract k s.old.size } := by
    unfold Sto.torn Go.Proofs.YtebamcmcmojneaaDoor.torn
    rw [if_pos hl, if_pos ⟨ho, hk2⟩]
  rw [ht]
  clear ht
  obtain ⟨c0, c1, c2, c3, c4, cf⟩ := h.facts
  rw [hs.made] at c4
  rw [hl] at c2
  have ha := hs.b
  have ho1 : ((s.old.size : Int) == 12) = true := by have hx : (s.old.size : Int) = 12 := (by omega); simpa using hx
  have hcat := fun W => run_string_add_sum (P := Tryd.prog) (w := W) (s.b.extract 0 k) (s.old.extract k s.old.size) (by simp only [ByteArray.size_extract]; omega)
  have f6 : s.old.size ≤ 9223372036854775807 := by have := hs.old; omega
  have f7 : s.b.size ≤ 9223372036854775807 := by omega
  have f8 : (s.b.extract 0 k).size ≤ 9223372036854775807 := by simp only [ByteArray.size_extract]; omega
  have f1 : (k : Int) ≤ (s.b.size : Int) := by omega
  have f2 : (0 : Int) < (k : Int) := by omega
  have f4 : (k : Int) < 12 := by omega
  have f5 : k ≤ s.old.size := by omega
  have HO := Lib.hid ho
  have HH := h
  have HA := Lib.hid ha
  clear ho ha hk
  go_enter Tryd.func5, Tryd.ntmps5
  go_wp2_with fail
  go_quiet (fail)
  go_wp2_with fail
  go_region
  go_wp2_with fail
  go_region
  go_wp2_with fail
  go_end0
  skip
  exact ⟨rfl, ((HH.drewN _).put 1 _ rfl |>.put 3 _ rfl).drew, ((((Only.refl (fun j => j = p) w).drewN _).setCell ⟨p, 1, none⟩ _ (fun _ => (rfl : p = p))).setCell ⟨p, 3, none⟩ _ (fun _ => (rfl : p = p))).drew⟩

set_option maxHeartbeats 1000000 in
theorem tear_b_mid_n (w : World) (p : Nat) (s : Sto) (k : Nat) (hk0 : 0 < k) (hk : k ≤ s.b.size) (hs : s.short) (h : SAt w p s) (hl : s.last = 1) (ho : s.old.size ≠ 12) : Calls Tryd.prog 5 #[.pointer (some ⟨p, 0, none⟩), .int .i64 (k : Int)] w fun e w' =>
    e = .returned (.tuple #[]) ∧ SAt w' p (s.torn k) ∧ Only (· = p) w w' := by
  have ht : s.torn k = { s with b := s.b.extract 0 k, old := s.b.extract 0 k } := by
    unfold Sto.torn Go.Proofs.YtebamcmcmojneaaDoor.torn
    rw [if_pos hl, if_neg (by omega), ext_nil]
  rw [ht]
  clear ht
  obtain ⟨c0, c1, c2, c3, c4, cf⟩ := h.facts
  rw [hs.made] at c4
  rw [hl] at c2
  have ha := hs.b
  have ho1 : ((s.old.size : Int) == 12) = false := by have hx : (s.old.size : Int) ≠ 12 := (by omega); simpa using hx
  have f6 : s.old.size ≤ 9223372036854775807 := by have := hs.old; omega
  have f7 : s.b.size ≤ 9223372036854775807 := by omega
  have f8 : (s.b.extract 0 k).size ≤ 9223372036854775807 := by simp only [ByteArray.size_extract]; omega
  have f1 : (k : Int) ≤ (s.b.size : Int) := by omega
  have f2 : (0 : Int) < (k : Int) := by omega
  have HO := Lib.hid ho
  have HH := h
  have HA := Lib.hid ha
  clear ho ha hk
  go_enter Tryd.func5, Tryd.ntmps5
  go_wp2_with fail
  go_quiet (fail)
  go_wp2_with fail
  go_region
  go_wp2_with fail
  go_region
  go_wp2_with fail
  go_end0
  rw [ext_nil]
  exact ⟨rfl, ((HH.drewN _).put 1 _ rfl |>.put 3 _ rfl).drew, ((((Only.refl (fun j => j = p) w).drewN _).setCell ⟨p, 1, none⟩ _ (fun _ => (rfl : p = p))).setCell ⟨p, 3, none⟩ _ (fun _ => (rfl : p = p))).drew⟩

set_option maxHeartbeats 1000000 in
theorem tear_b_mid_m (w : World) (p : Nat) (s : Sto) (k : Nat) (hk0 : 0 < k) (hk : k ≤ s.b.size) (hs : s.short) (h : SAt w p s) (hl : s.last = 1) (ho : s.old.size = 12) (hk2 : 12 ≤ k) : Calls Tryd.prog 5 #[.pointer (some ⟨p, 0, none⟩), .int .i64 (k : Int)] w fun e w' =>
    e = .returned (.tuple #[]) ∧ SAt w' p (s.torn k) ∧ Only (· = p) w w' := by
  have ht : s.torn k = { s with b := s.b.extract 0 k, old := s.b.extract 0 k } := by
    unfold Sto.torn Go.Proofs.YtebamcmcmojneaaDoor.torn
    rw [if_pos hl, if_neg (by omega), ext_nil]
  rw [ht]
  clear ht
  obtain ⟨c0, c1, c2, c3, c4, cf⟩ := h.facts
  rw [hs.made] at c4
  rw [hl] at c2
  have ha := hs.b
  have ho1 : ((s.old.size : Int) == 12) = true := by have hx : (s.old.size : Int) = 12 := (by omega); simpa using hx
  have f6 : s.old.size ≤ 9223372036854775807 := by have := hs.old; omega
  have f7 : s.b.size ≤ 9223372036854775807 := by omega
  have f8 : (s.b.extract 0 k).size ≤ 9223372036854775807 := by simp only [ByteArray.size_extract]; omega
  have f1 : (k : Int) ≤ (s.b.size : Int) := by omega
  have f2 : (0 : Int) < (k : Int) := by omega
  have f4 : ¬ ((k : Int) < 12) := by omega
  have HO := Lib.hid ho
  have HH := h
  have HA := Lib.hid ha
  clear ho ha hk
  go_enter Tryd.func5, Tryd.ntmps5
  go_wp2_with fail
  go_quiet (fail)
  go_wp2_with fail
  go_region
  go_wp2_with fail
  go_region
  go_wp2_with fail
  go_end0
  rw [ext_nil]
  exact ⟨rfl, ((HH.drewN _).put 1 _ rfl |>.put 3 _ rfl).drew, ((((Only.refl (fun j => j = p) w).drewN _).setCell ⟨p, 1, none⟩ _ (fun _ => (rfl : p = p))).setCell ⟨p, 3, none⟩ _ (fun _ => (rfl : p = p))).drew⟩

set_option maxHeartbeats 1000000 in
theorem tear_b_hi_y (w : World) (p : Nat) (s : Sto) (K : Int) (hK : 0 < s.b.size) (hk : (s.b.size : Int) < K) (hs : s.short) (h : SAt w p s) (hl : s.last = 1) (ho : s.old.size = 12) (hk2 : s.b.size < 12) : Calls Tryd.prog 5 #[.pointer (some ⟨p, 0, none⟩), .int .i64 K] w fun e w' =>
    e = .returned (.tuple #[]) ∧ SAt w' p (s.torn s.b.size) ∧ Only (· = p) w w' := by
  have ht : s.torn s.b.size = { s with b := s.b ++ s.old.extract s.b.size s.old.size, old := s.b ++ s.old.extract s.b.size s.old.size } := by
    unfold Sto.torn Go.Proofs.YtebamcmcmojneaaDoor.torn
    rw [if_pos hl, if_pos ⟨ho, hk2⟩, ext_all]
  rw [ht]
  clear ht
  obtain ⟨c0, c1, c2, c3, c4, cf⟩ := h.facts
  rw [hs.made] at c4
  rw [hl] at c2
  have ha := hs.b
  have ho1 : ((s.old.size : Int) == 12) = true := by have hx : (s.old.size : Int) = 12 := (by omega); simpa using hx
  have hcat := fun W => run_string_add_sum (P := Tryd.prog) (w := W) (s.b) (s.old.extract s.b.size s.old.size) (by simp only [ByteArray.size_extract]; omega)
  have f6 : s.old.size ≤ 9223372036854775807 := by have := hs.old; omega
  have f7 : s.b.size ≤ 9223372036854775807 := by omega
  have f8 : (s.b.extract 0 s.b.size).size ≤ 9223372036854775807 := by simp only [ByteArray.size_extract]; omega
  have f1 : (s.b.size : Int) < K := hk
  have f2 : (0 : Int) < (s.b.size : Int) := by omega
  have f4 : (s.b.size : Int) < 12 := by omega
  have f5 : s.b.size ≤ s.old.size := by omega
  have HO := Lib.hid ho
  have HH := h
  have HA := Lib.hid ha
  clear ho ha hk
  go_enter Tryd.func5, Tryd.ntmps5
  go_wp2_with fail
  go_quiet (fail)
  go_wp2_with fail
  go_region
  go_wp2_with fail
  go_region
  go_wp2_with fail
  go_end0
  skip
  exact ⟨rfl, ((HH.drewN _).put 1 _ rfl |>.put 3 _ rfl).drew, ((((Only.refl (fun j => j = p) w).drewN _).setCell ⟨p, 1, none⟩ _ (fun _ => (rfl : p = p))).setCell ⟨p, 3, none⟩ _ (fun _ => (rfl : p = p))).drew⟩

set_option maxHeartbeats 1000000 in
theorem tear_b_hi_n (w : World) (p : Nat) (s : Sto) (K : Int) (hK : 0 < s.b.size) (hk : (s.b.size : Int) < K) (hs : s.short) (h : SAt w p s) (hl : s.last = 1) (ho : s.old.size ≠ 12) : Calls Tryd.prog 5 #[.pointer (some ⟨p, 0, none⟩), .int .i64 K] w fun e w' =>
    e = .returned (.tuple #[]) ∧ SAt w' p (s.torn s.b.size) ∧ Only (· = p) w w' := by
  have ht : s.torn s.b.size = { s with b := s.b, old := s.b } := by
    unfold Sto.torn Go.Proofs.YtebamcmcmojneaaDoor.torn
    rw [if_pos hl, if_neg (by omega), ext_nil, ext_all]
  rw [ht]
  clear ht
  obtain ⟨c0, c1, c2, c3, c4, cf⟩ := h.facts
  rw [hs.made] at c4
  rw [hl] at c2
  have ha := hs.b
  have ho1 : ((s.old.size : Int) == 12) = false := by have hx : (s.old.size : Int) ≠ 12 := (by omega); simpa using hx
  have f6 : s.old.size ≤ 9223372036854775807 := by have := hs.old; omega
  have f7 : s.b.size ≤ 9223372036854775807 := by omega
  have f8 : (s.b.extract 0 s.b.size).size ≤ 9223372036854775807 := by simp only [ByteArray.size_extract]; omega
  have f1 : (s.b.size : Int) < K := hk
  have f2 : (0 : Int) < (s.b.size : Int) := by omega
  have HO := Lib.hid ho
  have HH := h
  have HA := Lib.hid ha
  clear ho ha hk
  go_enter Tryd.func5, Tryd.ntmps5
  go_wp2_with fail
  go_quiet (fail)
  go_wp2_with fail
  go_region
  go_wp2_with fail
  go_region
  go_wp2_with fail
  go_end0
  rw [ext_nil]
  exact ⟨rfl, ((HH.drewN _).put 1 _ rfl |>.put 3 _ rfl).drew, ((((Only.refl (fun j => j = p) w).drewN _).setCell ⟨p, 1, none⟩ _ (fun _ => (rfl : p = p))).setCell ⟨p, 3, none⟩ _ (fun _ => (rfl : p = p))).drew⟩

set_option maxHeartbeats 1000000 in
theorem tear_b_hi_m (w : World) (p : Nat) (s : Sto) (K : Int) (hK : 0 < s.b.size) (hk : (s.b.size : Int) < K) (hs : s.short) (h : SAt w p s) (hl : s.last = 1) (ho : s.old.size = 12) (hk2 : 12 ≤ s.b.size) : Calls Tryd.prog 5 #[.pointer (some ⟨p, 0, none⟩), .int .i64 K] w fun e w' =>
    e = .returned (.tuple #[]) ∧ SAt w' p (s.torn s.b.size) ∧ Only (· = p) w w' := by
  have ht : s.torn s.b.size = { s with b := s.b, old := s.b } := by
    unfold Sto.torn Go.Proofs.YtebamcmcmojneaaDoor.torn
    rw [if_pos hl, if_neg (by omega), ext_nil, ext_all]
  rw [ht]
  clear ht
  obtain ⟨c0, c1, c2, c3, c4, cf⟩ := h.facts
  rw [hs.made] at c4
  rw [hl] at c2
  have ha := hs.b
  have ho1 : ((s.old.size : Int) == 12) = true := by have hx : (s.old.size : Int) = 12 := (by omega); simpa using hx
  have f6 : s.old.size ≤ 9223372036854775807 := by have := hs.old; omega
  have f7 : s.b.size ≤ 9223372036854775807 := by omega
  have f8 : (s.b.extract 0 s.b.size).size ≤ 9223372036854775807 := by simp only [ByteArray.size_extract]; omega
  have f1 : (s.b.size : Int) < K := hk
  have f2 : (0 : Int) < (s.b.size : Int) := by omega
  have f4 : ¬ ((s.b.size : Int) < 12) := by omega
  have HO := Lib.hid ho
  have HH := h
  have HA := Lib.hid ha
  clear ho ha hk
  go_enter Tryd.func5, Tryd.ntmps5
  go_wp2_with fail
  go_quiet (fail)
  go_wp2_with fail
  go_region
  go_wp2_with fail
  go_region
  go_wp2_with fail
  go_end0
  rw [ext_nil]
  exact ⟨rfl, ((HH.drewN _).put 1 _ rfl |>.put 3 _ rfl).drew, ((((Only.refl (fun j => j = p) w).drewN _).setCell ⟨p, 1, none⟩ _ (fun _ => (rfl : p = p))).setCell ⟨p, 3, none⟩ _ (fun _ => (rfl : p = p))).drew⟩

set_option maxHeartbeats 1000000 in
theorem tear_b_hz_y (w : World) (p : Nat) (s : Sto) (K : Int) (hK : s.b.size = 0) (hk : 0 < K) (hs : s.short) (h : SAt w p s) (hl : s.last = 1) (ho : s.old.size = 12) (hk2 : 0 < 12) : Calls Tryd.prog 5 #[.pointer (some ⟨p, 0, none⟩), .int .i64 K] w fun e w' =>
    e = .returned (.tuple #[]) ∧ SAt w' p (s.torn 0) ∧ Only (· = p) w w' := by
  have ht : s.torn 0 = { s with b := s.old, old := s.old } := by
    unfold Sto.torn Go.Proofs.YtebamcmcmojneaaDoor.torn
    rw [if_pos hl, if_pos ⟨ho, hk2⟩, ext_zero, ext_all, nil_ext]
  rw [ht]
  clear ht
  obtain ⟨c0, c1, c2, c3, c4, cf⟩ := h.facts
  rw [hs.made] at c4
  rw [hl] at c2
  have ha := hs.b
  have ho1 : ((s.old.size : Int) == 12) = true := by have hx : (s.old.size : Int) = 12 := (by omega); simpa using hx
  have f6 : s.old.size ≤ 9223372036854775807 := by have := hs.old; omega
  have f7 : s.b.size ≤ 9223372036854775807 := by omega
  have f8 : (s.b.extract 0 0).size ≤ 9223372036854775807 := by simp only [ByteArray.size_extract]; omega
  have f1 : (s.b.size : Int) < K := by omega
  have f2 : ¬ ((0 : Int) < (s.b.size : Int)) := by omega
  have HK := Lib.hid hK
  clear hK
  have f4 : 0 < 12 := by omega
  have f5 : 0 ≤ s.old.size := by omega
  have HO := Lib.hid ho
  have HH := h
  have HA := Lib.hid ha
  clear ho ha hk
  go_enter Tryd.func5, Tryd.ntmps5
  go_wp2_with fail
  go_quiet (fail)
  go_wp2_with fail
  go_region
  go_wp2_with fail
  go_region
  go_wp2_with fail
  go_end0
  skip
  exact ⟨rfl, ((HH.drewN _).put 1 _ rfl |>.put 3 _ rfl).drew, ((((Only.refl (fun j => j = p) w).drewN _).setCell ⟨p, 1, none⟩ _ (fun _ => (rfl : p = p))).setCell ⟨p, 3, none⟩ _ (fun _ => (rfl : p = p))).drew⟩

set_option maxHeartbeats 1000000 in
theorem tear_b_hz_n (w : World) (p : Nat) (s : Sto) (K : Int) (hK : s.b.size = 0) (hk : 0 < K) (hs : s.short) (h : SAt w p s) (hl : s.last = 1) (ho : s.old.size ≠ 12) : Calls Tryd.prog 5 #[.pointer (some ⟨p, 0, none⟩), .int .i64 K] w fun e w' =>
    e = .returned (.tuple #[]) ∧ SAt w' p (s.torn 0) ∧ Only (· = p) w w' := by
  have ht : s.torn 0 = { s with b := ⟨#[]⟩, old := ⟨#[]⟩ } := by
    unfold Sto.torn Go.Proofs.YtebamcmcmojneaaDoor.torn
    rw [if_pos hl, if_neg (by omega), ext_nil, ext_zero]
  rw [ht]
  clear ht
  obtain ⟨c0, c1, c2, c3, c4, cf⟩ := h.facts
  rw [hs.made] at c4
  rw [hl] at c2
  have ha := hs.b
  have ho1 : ((s.old.size : Int) == 12) = false := by have hx : (s.old.size : Int) ≠ 12 := (by omega); simpa using hx
  have f6 : s.old.size ≤ 9223372036854775807 := by have := hs.old; omega
  have f7 : s.b.size ≤ 9223372036854775807 := by omega
  have f8 : (s.b.extract 0 0).size ≤ 9223372036854775807 := by simp only [ByteArray.size_extract]; omega
  have f1 : (s.b.size : Int) < K := by omega
  have f2 : ¬ ((0 : Int) < (s.b.size : Int)) := by omega
  have HK := Lib.hid hK
  clear hK
  have HO := Lib.hid ho
  have HH := h
  have HA := Lib.hid ha
  clear ho ha hk
  go_enter Tryd.func5, Tryd.ntmps5
  go_wp2_with fail
  go_quiet (fail)
  go_wp2_with fail
  go_region
  go_wp2_with fail
  go_region
  go_wp2_with fail
  go_end0
  skip
  exact ⟨rfl, ((HH.drewN _).put 1 _ rfl |>.put 3 _ rfl).drew, ((((Only.refl (fun j => j = p) w).drewN _).setCell ⟨p, 1, none⟩ _ (fun _ => (rfl : p = p))).setCell ⟨p, 3, none⟩ _ (fun _ => (rfl : p = p))).drew⟩

theorem tear_some (w : World) (p : Nat) (s : Sto) (K : Int) (hs : s.short) (h : SAt w p s) (hK : K < ((if s.last = 1 then s.b else s.a).size : Int) ∨ K ≤ 0) : Calls Tryd.prog 5 #[.pointer (some ⟨p, 0, none⟩), .int .i64 K] w fun e w' =>
    e = .returned (.tuple #[]) ∧ SAt w' p (s.torn K.toNat) ∧ Only (· = p) w w' := by
  rcases hs.last with hl | hl
  · by_cases h0 : K ≤ 0
    · rw [show K.toNat = 0 by omega]
      by_cases ho : s.old.size = 12
      · exact tear_a_lo_y w p s K h0 hs h hl ho (by omega)
      · exact tear_a_lo_n w p s K h0 hs h hl ho
    · have h1 : K < (s.a.size : Int) := by
        rcases hK with hK | hK
        · rw [if_neg (by omega)] at hK; exact hK
        · exact absurd hK h0
      obtain ⟨k, rfl⟩ := Int.eq_ofNat_of_zero_le (show 0 ≤ K by omega)
      show Calls _ _ _ _ fun e w' => _ ∧ SAt w' p (s.torn k) ∧ _
      by_cases ho : s.old.size = 12
      · by_cases h2 : k < 12
        · exact tear_a_mid_y w p s k (by omega) (by omega) hs h hl ho h2
        · exact tear_a_mid_m w p s k (by omega) (by omega) hs h hl ho (by omega)
      · exact tear_a_mid_n w p s k (by omega) (by omega) hs h hl ho
  · by_cases h0 : K ≤ 0
    · rw [show K.toNat = 0 by omega]
      by_cases ho : s.old.size = 12
      · exact tear_b_lo_y w p s K h0 hs h hl ho (by omega)
      · exact tear_b_lo_n w p s K h0 hs h hl ho
    · have h1 : K < (s.b.size : Int) := by
        rcases hK with hK | hK
        · rw [if_pos hl] at hK; exact hK
        · exact absurd hK h0
      obtain ⟨k, rfl⟩ := Int.eq_ofNat_of_zero_le (show 0 ≤ K by omega)
      show Calls _ _ _ _ fun e w' => _ ∧ SAt w' p (s.torn k) ∧ _
      by_cases ho : s.old.size = 12
      · by_cases h2 : k < 12
        · exact tear_b_mid_y w p s k (by omega) (by omega) hs h hl ho h2
        · exact tear_b_mid_m w p s k (by omega) (by omega) hs h hl ho (by omega)
      · exact tear_b_mid_n w p s k (by omega) (by omega) hs h hl ho
/-- How many bytes are kept. -/
def Sto.kept (s : Sto) (K : Int) : Nat := min K.toNat (if s.last = 1 then s.b else s.a).size
theorem tear_any (w : World) (p : Nat) (s : Sto) (K : Int) (hs : s.short) (h : SAt w p s) : Calls Tryd.prog 5 #[.pointer (some ⟨p, 0, none⟩), .int .i64 K] w fun e w' =>
    e = .returned (.tuple #[]) ∧ SAt w' p (s.torn (s.kept K)) ∧ Only (· = p) w w' := by
  rcases hs.last with hl | hl
  · have hx : (if s.last = 1 then s.b else s.a) = s.a := by rw [if_neg (by omega)]
    have hk : s.kept K = min K.toNat s.a.size := by unfold Sto.kept; rw [hx]
    by_cases h1 : K ≤ (s.a.size : Int)
    · rw [hk, Nat.min_eq_left (by omega)]
      by_cases h0 : K ≤ 0
      · exact tear_some w p s K hs h (.inr h0)
      · by_cases h2 : K < (s.a.size : Int)
        · exact tear_some w p s K hs h (.inl (by rw [hx]; exact h2))
        · rw [show K = (s.a.size : Int) by omega, Int.toNat_natCast]
          by_cases ho : s.old.size = 12
          · by_cases h2 : s.a.size < 12
            · exact tear_a_mid_y w p s _ (by omega) (by omega) hs h hl ho h2
            · exact tear_a_mid_m w p s _ (by omega) (by omega) hs h hl ho (by omega)
          · exact tear_a_mid_n w p s _ (by omega) (by omega) hs h hl ho
    · rw [hk, Nat.min_eq_right (by omega)]
      by_cases hz : s.a.size = 0
      · rw [hz]
        by_cases ho : s.old.size = 12
        · exact tear_a_hz_y w p s K hz (by omega) hs h hl ho (by omega)
        · exact tear_a_hz_n w p s K hz (by omega) hs h hl ho
      · by_cases ho : s.old.size = 12
        · by_cases h2 : s.a.size < 12
          · exact tear_a_hi_y w p s K (by omega) (by omega) hs h hl ho h2
          · exact tear_a_hi_m w p s K (by omega) (by omega) hs h hl ho (by omega)
        · exact tear_a_hi_n w p s K (by omega) (by omega) hs h hl ho
  · have hx : (if s.last = 1 then s.b else s.a) = s.b := by rw [if_pos hl]
    have hk : s.kept K = min K.toNat s.b.size := by unfold Sto.kept; rw [hx]
    by_cases h1 : K ≤ (s.b.size : Int)
    · rw [hk, Nat.min_eq_left (by omega)]
      by_cases h0 : K ≤ 0
      · exact tear_some w p s K hs h (.inr h0)
      · by_cases h2 : K < (s.b.size : Int)
        · exact tear_some w p s K hs h (.inl (by rw [hx]; exact h2))
        · rw [show K = (s.b.size : Int) by omega, Int.toNat_natCast]
          by_cases ho : s.old.size = 12
          · by_cases h2 : s.b.size < 12
            · exact tear_b_mid_y w p s _ (by omega) (by omega) hs h hl ho h2
            · exact tear_b_mid_m w p s _ (by omega) (by omega) hs h hl ho (by omega)
          · exact tear_b_mid_n w p s _ (by omega) (by omega) hs h hl ho
    · rw [hk, Nat.min_eq_right (by omega)]
      by_cases hz : s.b.size = 0
      · rw [hz]
        by_cases ho : s.old.size = 12
        · exact tear_b_hz_y w p s K hz (by omega) hs h hl ho (by omega)
        · exact tear_b_hz_n w p s K hz (by omega) hs h hl ho
      · by_cases ho : s.old.size = 12
        · by_cases h2 : s.b.size < 12
          · exact tear_b_hi_y w p s K (by omega) (by omega) hs h hl ho h2
          · exact tear_b_hi_m w p s K (by omega) (by omega) hs h hl ho (by omega)
        · exact tear_b_hi_n w p s K (by omega) (by omega) hs h hl ho
end Go.Proofs.YtebamcmcmojneaaDoor
