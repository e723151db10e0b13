/- Chapter 8: WireNames walked. -/
import Derived.Test.YtkafnkkipflbbaaDoorWa
import Derived.Test.YtkafnkkipflbbaaDoorRc
import Derived.Test.YtkafnkkipflbbaaDoorFx
import Derived.Test.YtkafnkkipflbbaaDoorCc
import Derived.Test.YtkafnkkipflbbaaDoorPa
set_option linter.unusedSimpArgs false
set_option linter.unusedVariables false
namespace Go.Proofs.YtkafnkkipflbbaaDoor
open Go.RowKit Go.Lib

theorem num8 (s : ByteArray) : beV (ofStr (s.extract 0 8)) = num s 0 8 := rfl
theorem bytes_beq (a b : ByteArray) : (a.toList == b.toList) = decide (a = b) := by
  rw [ByteArray.toList_eq, ByteArray.toList_eq]
  by_cases h : a = b
  · subst h; simp
  · have : ¬ a.data = b.data := fun e => h (ByteArray.ext e)
    simp [h, this]

set_option maxRecDepth 100000 in
set_option maxHeartbeats 1000000 in
theorem names_long (w : World) (s f o : ByteArray) (hs : s.size ≤ 9223372036854775807) (hf : f.size ≤ 9223372036854775807) (h : 200 < f.size ∨ 3000 < s.size) : Calls Tryd.prog 3 #[.string s, .string f, .string o] w fun e w' => e = .returned (.bool true) ∧ Only (fun _ => False) w w' := by
  have HAW := Lib.hid awake08_any
  have hcase : (200 : Int) < (f.size : Int) ∨ ¬ (200 : Int) < (f.size : Int) ∧ (3000 : Int) < (s.size : Int) := by omega
  clear h
  rcases hcase with h1 | ⟨h1, h2⟩
  all_goals
    go_enter Tryd.func3, Tryd.ntmps3
    go_wp2_with fail
    refine (newreader_any _ s).mono ?_
    rintro e w1 ⟨rfl, r1, o1⟩
    go_wp2_with fail
    refine (HAW.out _).mono ?_; rintro e w2 ⟨rfl, o2⟩
    go_wp2_with fail
    go_ret
    exact ⟨rfl, o1.trans o2⟩

set_option maxRecDepth 100000 in
set_option maxHeartbeats 2000000 in
theorem names_whole (w : World) (s f o : ByteArray) (hs : s.size ≤ 3000) (hf : f.size ≤ 200) (h16 : 16 ≤ s.size) : Calls Tryd.prog 3 #[.string s, .string f, .string o] w fun e w' => e = .returned (.bool true) ∧ Only (fun _ => False) w w' := by
  have HAW := Lib.hid awake08_any
  have e1 : Rs8.number ⟨0, none⟩ s f 8 = (⟨8, none⟩, num s 0 8) := num_ok (by omega)
  have e2 : Rs8.number ⟨8, none⟩ s o 8 = (⟨16, none⟩, num s 8 8) := num_ok (by omega)
  have H1 := fun W p h => ru64_any W p s f ⟨0, none⟩ (by omega) h
  have H2 := fun W p h => ru64_any W p s o ⟨8, none⟩ (by omega) h
  rw [e1] at H1
  rw [e2] at H2
  have hv := fun W => value_ref W (s.extract 0 8) (by simp; omega)
  rw [num8] at hv
  have H1 := Lib.hid H1
  have H2 := Lib.hid H2
  have HV := Lib.hid hv
  clear e1 e2 hv
  generalize num s 0 8 = x at *
  generalize num s 8 8 = y at *
  have g1 : ¬ (200 : Int) < (f.size : Int) := by omega
  have g2 : ¬ (3000 : Int) < (s.size : Int) := by omega
  have g3 : (16 : Int) ≤ (s.size : Int) := by omega
  have g4 : (8 : Int) ≤ (s.size : Int) := by omega
  go_enter Tryd.func3, Tryd.ntmps3
  go_wp2_with fail
  refine (newreader_any _ s).mono ?_
  rintro e w1 ⟨rfl, r1, o1⟩
  have R0 : RS w1 w.heap.size s ⟨0, none⟩ := ⟨none, r1, Nat.zero_le _, rfl⟩
  go_wp2_with fail
  refine (H1.out _ _ R0).mono ?_; rintro e w2 ⟨rfl, R2, o2⟩
  go_wp2_with fail
  refine (H2.out _ _ R2).mono ?_; rintro e w3 ⟨rfl, R3, o3⟩
  have O3 := (o1.then_ o2 (fun i hi e => absurd hi (by have : i = w.heap.size := e; omega))).then_ o3 (fun i hi e => absurd hi (by have : i = w.heap.size := e; omega))
  obtain ⟨e0, a3, _, h3⟩ := R3
  have h3 : e0 = none := h3
  subst h3
  go_wp2_with fail
  refine (err_any _ _ s _ none a3).mono ?_; rintro e w4 ⟨rfl, rfl⟩
  simp only [ev]
  go_wp2_with fail
  refine (HV.out _).mono ?_; rintro e w4 ⟨rfl, rfl⟩
  go_wp2_with fail
  refine (HAW.out _).mono ?_; rintro e w5 ⟨rfl, o5⟩
  go_wp2_with fail
  go_ret
  exact ⟨rfl, O3.trans o5⟩

set_option maxRecDepth 100000 in
set_option maxHeartbeats 2000000 in
theorem names_none (w : World) (s f o : ByteArray) (hs : s.size ≤ 3000) (hf : f.size ≤ 200) (h8 : s.size < 8) (hE : Et w) : Calls Tryd.prog 3 #[.string s, .string f, .string o] w fun e w' => e = .returned (.bool true) ∧ Only (fun _ => False) w w' := by
  have HAW := Lib.hid awake08_any
  have e1 : Rs8.number ⟨0, none⟩ s f 8 = (⟨0, some ([wireName, f], 12)⟩, 0) := num_short (by omega)
  have e2 : Rs8.number ⟨0, some ([wireName, f], 12)⟩ s o 8 = (⟨0, some ([wireName, f], 12)⟩, 0) := num_had
  have H1 := fun W p h => ru64_any W p s f ⟨0, none⟩ (by omega) h
  rw [e1] at H1
  have H2 := fun W p h => ru64_any W p s o ⟨0, some ([wireName, f], 12)⟩ (by omega) h
  rw [e2] at H2
  have H1 := Lib.hid H1
  have H2 := Lib.hid H2
  have HB := Lib.hid (fun W p h => blob_had W p s f ⟨0, some ([wireName, f], 12)⟩ _ rfl 9 (by omega) h)
  have HN := Lib.hid (fun W p h => end_had W p s ⟨0, some ([wireName, f], 12)⟩ _ rfl (by omega) h)
  have HP := Lib.hid (fun W b h => path_chain W b [wireName, f] 12 h (by simp))
  have HC := Lib.hid (fun W b h hE => code_chain W b [wireName, f] 12 h hE)
  clear e1 e2
  have g1 : ¬ (200 : Int) < (f.size : Int) := by omega
  have g2 : ¬ (3000 : Int) < (s.size : Int) := by omega
  have g3 : ¬ (16 : Int) ≤ (s.size : Int) := by omega
  have g4 : ¬ (8 : Int) ≤ (s.size : Int) := by omega
  go_enter Tryd.func3, Tryd.ntmps3
  go_wp2_with fail
  refine (newreader_any _ s).mono ?_
  rintro e w1 ⟨rfl, r1, o1⟩
  have hlt := r1.lt
  have R0 : RS w1 w.heap.size s ⟨0, none⟩ := ⟨none, r1, Nat.zero_le _, rfl⟩
  go_wp2_with fail
  refine (H1.out _ _ R0).mono ?_; rintro e w2 ⟨rfl, R2, o2⟩
  go_wp2_with fail
  refine (H2.out _ _ R2).mono ?_; rintro e w3 ⟨rfl, R3, o3⟩
  have O3 := Lib.hid ((o1.then_ o2 (fun i hi e => absurd hi (by have : i = w.heap.size := e; omega))).then_ o3 (fun i hi e => absurd hi (by have : i = w.heap.size := e; omega)))
  have HR3 := Lib.hid R3
  obtain ⟨b, a3, _, E3⟩ := R3.had rfl
  have E3 := Lib.hid E3
  clear R3 R2 R0
  go_wp2_with fail
  refine (err_any _ _ s _ (some b) a3).mono ?_; rintro e w4 ⟨rfl, rfl⟩
  simp only [ev]
  go_wp2_with fail
  refine (HP.out _ _ E3.out).mono ?_; rintro e w4 ⟨v, rfl, hown, o4⟩
  have hv : ∃ g cap, v = .slice (some ⟨g, 0, none⟩) 2 cap ∧ w4.cell? ⟨g, 1, none⟩ = some (.string f) := by
    rcases hown.2 with ⟨rfl, h0⟩ | ⟨g, cap, cur, rfl, _⟩
    · cases h0
    · exact ⟨g, cap, rfl, hown.cells (g := g) rfl 1 (.string f) rfl⟩
  obtain ⟨g, cap, rfl, c4⟩ := hv
  clear hown
  have O4 := Lib.hid (O3.out.trans o4)
  have E4 := Lib.hid (E3.out.only o4 (fun _ _ _ f => f))
  have a4 := o4.has a3 (fun f => f)
  have HR4 := Lib.hid (HR3.out.inner o4)
  go_wp2_with fail
  refine (err_any _ _ s _ (some b) a4).mono ?_; rintro e w5 ⟨rfl, rfl⟩
  simp only [ev]
  go_wp2_with fail
  refine (HC.out _ _ E4.out (hE.only O4.out (fun f => f))).mono ?_; rintro e w5 ⟨rfl, o5⟩
  have c5 : w5.cell? ⟨g, 1, none⟩ = some (.string f) := o5.cell c4 (fun f => f)
  have O5 := Lib.hid (O4.out.trans o5)
  have HR5 := Lib.hid (HR4.out.inner o5)
  go_wp2_with fail
  refine (HB.out _ _ HR5.out).mono ?_; rintro e w6 ⟨rfl, R6, o6⟩
  have O6 := Lib.hid (O5.out.then_ o6 (fun i hi e => absurd hi (by have : i = w.heap.size := e; omega)))
  have HR6 := Lib.hid R6
  clear R6
  go_wp2_with fail
  refine (HN.out _ _ HR6.out).mono ?_; rintro e w7 ⟨b7, rfl, E7, R7, o7⟩
  have O7 := Lib.hid (O6.out.then_ o7 (fun i hi e => absurd hi (by have : i = w.heap.size := e; omega)))
  have E7 := Lib.hid E7
  clear R7
  simp only [ev]
  go_wp2_with fail
  refine (HC.out _ _ E7.out (hE.only O7.out (fun f => f))).mono ?_; rintro e w8 ⟨rfl, o8⟩
  have O8 := Lib.hid (O7.out.trans o8)
  go_wp2_with fail
  refine (HAW.out _).mono ?_; rintro e w9 ⟨rfl, o9⟩
  go_wp2_with fail
  go_ret
  exact ⟨rfl, O8.out.trans o9⟩

set_option maxRecDepth 100000 in
set_option maxHeartbeats 2000000 in
theorem names_half (w : World) (s f o : ByteArray) (hs : s.size ≤ 3000) (hf : f.size ≤ 200) (h8 : 8 ≤ s.size) (h16 : s.size < 16) (hE : Et w) : Calls Tryd.prog 3 #[.string s, .string f, .string o] w fun e w' => e = .returned (.bool true) ∧ Only (fun _ => False) w w' := by
  have HAW := Lib.hid awake08_any
  have e1 : Rs8.number ⟨0, none⟩ s f 8 = (⟨8, none⟩, num s 0 8) := num_ok (by omega)
  have e2 : Rs8.number ⟨8, none⟩ s o 8 = (⟨8, some ([wireName, o], 12)⟩, 0) := num_short (by omega)
  have H1 := fun W p h => ru64_any W p s f ⟨0, none⟩ (by omega) h
  rw [e1] at H1
  have H2 := fun W p h => ru64_any W p s o ⟨8, none⟩ (by omega) h
  rw [e2] at H2
  have H1 := Lib.hid H1
  have H2 := Lib.hid H2
  have HB := Lib.hid (fun W p h => blob_had W p s f ⟨8, some ([wireName, o], 12)⟩ _ rfl 9 (by omega) h)
  have HN := Lib.hid (fun W p h => end_had W p s ⟨8, some ([wireName, o], 12)⟩ _ rfl (by omega) h)
  have HP := Lib.hid (fun W b h => path_chain W b [wireName, o] 12 h (by simp))
  have HC := Lib.hid (fun W b h hE => code_chain W b [wireName, o] 12 h hE)
  clear e1 e2
  have g1 : ¬ (200 : Int) < (f.size : Int) := by omega
  have g2 : ¬ (3000 : Int) < (s.size : Int) := by omega
  have g3 : ¬ (16 : Int) ≤ (s.size : Int) := by omega
  have g4 : (8 : Int) ≤ (s.size : Int) := by omega
  go_enter Tryd.func3, Tryd.ntmps3
  go_wp2_with fail
  refine (newreader_any _ s).mono ?_
  rintro e w1 ⟨rfl, r1, o1⟩
  have hlt := r1.lt
  have R0 : RS w1 w.heap.size s ⟨0, none⟩ := ⟨none, r1, Nat.zero_le _, rfl⟩
  go_wp2_with fail
  refine (H1.out _ _ R0).mono ?_; rintro e w2 ⟨rfl, R2, o2⟩
  go_wp2_with fail
  refine (H2.out _ _ R2).mono ?_; rintro e w3 ⟨rfl, R3, o3⟩
  have O3 := Lib.hid ((o1.then_ o2 (fun i hi e => absurd hi (by have : i = w.heap.size := e; omega))).then_ o3 (fun i hi e => absurd hi (by have : i = w.heap.size := e; omega)))
  have HR3 := Lib.hid R3
  obtain ⟨b, a3, _, E3⟩ := R3.had rfl
  have E3 := Lib.hid E3
  clear R3 R2 R0
  go_wp2_with fail
  refine (err_any _ _ s _ (some b) a3).mono ?_; rintro e w4 ⟨rfl, rfl⟩
  simp only [ev]
  go_wp2_with fail
  refine (HP.out _ _ E3.out).mono ?_; rintro e w4 ⟨v, rfl, hown, o4⟩
  have hv : ∃ g cap, v = .slice (some ⟨g, 0, none⟩) 2 cap ∧ w4.cell? ⟨g, 1, none⟩ = some (.string o) := by
    rcases hown.2 with ⟨rfl, h0⟩ | ⟨g, cap, cur, rfl, _⟩
    · cases h0
    · exact ⟨g, cap, rfl, hown.cells (g := g) rfl 1 (.string o) rfl⟩
  obtain ⟨g, cap, rfl, c4⟩ := hv
  clear hown
  have O4 := Lib.hid (O3.out.trans o4)
  have E4 := Lib.hid (E3.out.only o4 (fun _ _ _ f => f))
  have a4 := o4.has a3 (fun f => f)
  have HR4 := Lib.hid (HR3.out.inner o4)
  go_wp2_with fail
  refine (err_any _ _ s _ (some b) a4).mono ?_; rintro e w5 ⟨rfl, rfl⟩
  simp only [ev]
  go_wp2_with fail
  refine (HC.out _ _ E4.out (hE.only O4.out (fun f => f))).mono ?_; rintro e w5 ⟨rfl, o5⟩
  have c5 : w5.cell? ⟨g, 1, none⟩ = some (.string o) := o5.cell c4 (fun f => f)
  have O5 := Lib.hid (O4.out.trans o5)
  have HR5 := Lib.hid (HR4.out.inner o5)
  go_wp2_with fail
  refine (HB.out _ _ HR5.out).mono ?_; rintro e w6 ⟨rfl, R6, o6⟩
  have O6 := Lib.hid (O5.out.then_ o6 (fun i hi e => absurd hi (by have : i = w.heap.size := e; omega)))
  have HR6 := Lib.hid R6
  clear R6
  go_wp2_with fail
  refine (HN.out _ _ HR6.out).mono ?_; rintro e w7 ⟨b7, rfl, E7, R7, o7⟩
  have O7 := Lib.hid (O6.out.then_ o7 (fun i hi e => absurd hi (by have : i = w.heap.size := e; omega)))
  have E7 := Lib.hid E7
  clear R7
  simp only [ev]
  go_wp2_with fail
  refine (HC.out _ _ E7.out (hE.only O7.out (fun f => f))).mono ?_; rintro e w8 ⟨rfl, o8⟩
  have O8 := Lib.hid (O7.out.trans o8)
  go_wp2_with fail
  refine (HAW.out _).mono ?_; rintro e w9 ⟨rfl, o9⟩
  go_wp2_with fail
  go_ret
  exact ⟨rfl, O8.out.trans o9⟩

theorem names_any (w : World) (s f o : ByteArray) (hs : s.size ≤ 9223372036854775807) (hf : f.size ≤ 9223372036854775807) (hE : Et w) : Calls Tryd.prog 3 #[.string s, .string f, .string o] w fun e w' => e = .returned (.bool true) ∧ Only (fun _ => False) w w' := by
  by_cases h : 200 < f.size ∨ 3000 < s.size
  · exact names_long w s f o hs hf h
  · by_cases h16 : 16 ≤ s.size
    · exact names_whole w s f o (by omega) (by omega) h16
    · by_cases h8 : 8 ≤ s.size
      · exact names_half w s f o (by omega) (by omega) h8 (by omega) hE
      · exact names_none w s f o (by omega) (by omega) (by omega) hE
end Go.Proofs.YtkafnkkipflbbaaDoor
