/- The law ShapeReads. -/
import Derived.Test.YtigcfgmblnbleaaDoorSq
import Derived.Test.YtigcfgmblnbleaaDoorSa
import Derived.Test.YtigcfgmblnbleaaDoorCc
set_option linter.unusedSimpArgs false
set_option linter.unusedVariables false
namespace Go.Proofs.YtigcfgmblnbleaaDoor
open Go.RowKit

set_option maxRecDepth 100000 in
set_option maxHeartbeats 1500000 in
theorem reads_bad (w : World) (s : ByteArray) (hz : s.size ≤ 1000) (hM : Ml w) (hE : Et w) (l : List ByteArray) (he0 : getE s ≠ 0) (hel : (getC s).2.err = some (l, getE s)) : Calls Tryd.prog 8 #[.string s] w fun e w' => e = .returned (.bool true) ∧ Only (fun _ => False) w w' := by
  have HM := Lib.hid hM
  have HE := Lib.hid hE
  have HN := newreader_any w s
  have HG := fun W p h => get_any W p s (by omega) h
  have HQ := fun W => qget_all W s (by omega)
  have HR : ∀ W p, RS W p s (getC s).2 → Calls Tryd.prog 32 #[.pointer (some ⟨p, 0, none⟩)] W fun e w' => ∃ b, e = .returned (.iface 106 (.pointer (some ⟨b, 0, none⟩))) ∧ ErrAt W (some b) l (getE s) ∧ W = w' := fun W p h => by
    refine (errs_any W p s (getC s).2 h).mono ?_
    rintro e w' ⟨rfl, ⟨h1, _⟩ | ⟨y, b, h1, rfl, h2⟩⟩
    · rw [hel] at h1; cases h1
    · rw [hel] at h1
      obtain rfl := Option.some.inj h1
      exact ⟨b, rfl, h2, rfl⟩
  rw [show clF = ⟨#[99, 108, 97, 115, 115]⟩ from rfl] at HG
  clear hel
  generalize (getC s).1 = c at *
  generalize (getC s).2 = r at *
  generalize getE s = x at *
  obtain ⟨a0, a1, a2, a3, a4⟩ := c
  simp only [Cl.cells] at *
  have hz' : ¬ (1000 : Int) < (s.size : Int) := by omega
  have hx1 : (x == 0) = false := by simpa using he0
  have hx2 : (x != 0) = true := by simpa using he0
  replace HN := Lib.hid HN
  replace HG := Lib.hid HG
  replace HQ := Lib.hid HQ
  replace HR := Lib.hid HR
  clear hz hM hE he0
  go_enter Tryd.func8, Tryd.ntmps8
  go_wp2_with fail
  refine (HN.out).mono ?_; rintro e w1 ⟨rfl, A1, o1⟩
  have S1 : RS w1 w.heap.size s ⟨0, none⟩ := ⟨none, A1, Nat.zero_le _, rfl⟩
  go_wp2_with fail
  refine (HG.out _ _ S1).mono ?_; rintro e w2 ⟨rfl, S2, o2⟩
  have O2 : Only (fun _ => False) w w2 := o1.then_ o2 (fun i hi e => absurd hi (by have : i = w.heap.size := e; omega))
  have HS2 := Lib.hid S2
  have C2 : CAt (w2.alloc (.cells #[.int .i64 a0, .int .i64 a1, .int .i64 a2, .int .i64 a3, .int .i64 a4] 23)) w2.heap.size a0 a1 a2 a3 a4 := Has.new _ _ _
  clear S1 S2 A1 o1 o2
  go_wp2_with fail
  refine (HQ.out _).mono ?_; rintro e w3 ⟨at_, rfl, o3⟩
  have C5 : CAt ((w3.alloc (.cells #[.string s, .int .i64 at_, .int .i64 x] 51)).alloc (.cells #[.int .i64 a0, .int .i64 a1, .int .i64 a2, .int .i64 a3, .int .i64 a4] 23)).drew w2.heap.size a0 a1 a2 a3 a4 := (((o3.has C2 (fun f => f)).alloc _).alloc _).drew
  have Q5 : QAt ((w3.alloc (.cells #[.string s, .int .i64 at_, .int .i64 x] 51)).alloc (.cells #[.int .i64 a0, .int .i64 a1, .int .i64 a2, .int .i64 a3, .int .i64 a4] 23)).drew w3.heap.size s at_ x := ((Has.new _ _ _).alloc _).drew
  have D5 : CAt ((w3.alloc (.cells #[.string s, .int .i64 at_, .int .i64 x] 51)).alloc (.cells #[.int .i64 a0, .int .i64 a1, .int .i64 a2, .int .i64 a3, .int .i64 a4] 23)).drew (w3.heap.size + 1) a0 a1 a2 a3 a4 := (has_new2 _ _ _ _).drew
  have P5 : Only (fun _ => False) w3 ((w3.alloc (.cells #[.string s, .int .i64 at_, .int .i64 x] 51)).alloc (.cells #[.int .i64 a0, .int .i64 a1, .int .i64 a2, .int .i64 a3, .int .i64 a4] 23)).drew := (((Only.refl _ _).alloc _).alloc _).drew
  have O5 : Only (fun _ => False) w ((w3.alloc (.cells #[.string s, .int .i64 at_, .int .i64 x] 51)).alloc (.cells #[.int .i64 a0, .int .i64 a1, .int .i64 a2, .int .i64 a3, .int .i64 a4] 23)).drew := (((O2.alloc _).trans o3)).trans P5
  have R5 : RS ((w3.alloc (.cells #[.string s, .int .i64 at_, .int .i64 x] 51)).alloc (.cells #[.int .i64 a0, .int .i64 a1, .int .i64 a2, .int .i64 a3, .int .i64 a4] 23)).drew w.heap.size s r := (HS2.out.inner (((Only.refl _ _).alloc _).trans o3)).inner P5
  have E5 : Et ((w3.alloc (.cells #[.string s, .int .i64 at_, .int .i64 x] 51)).alloc (.cells #[.int .i64 a0, .int .i64 a1, .int .i64 a2, .int .i64 a3, .int .i64 a4] 23)).drew := HE.out.only O5 (fun f => f)
  clear C2 O2 o3 P5 HS2
  go_wp2_with fail
  go_region_held3 (fun W => (W.cell? ⟨w2.heap.size, 0, none⟩ = some (.int .i64 a0) ∧ W.cell? ⟨w2.heap.size, 1, none⟩ = some (.int .i64 a1) ∧ W.cell? ⟨w2.heap.size, 2, none⟩ = some (.int .i64 a2) ∧ W.cell? ⟨w2.heap.size, 3, none⟩ = some (.int .i64 a3) ∧ W.cell? ⟨w2.heap.size, 4, none⟩ = some (.int .i64 a4)) ∧ (W.cell? ⟨w3.heap.size + 1, 0, none⟩ = some (.int .i64 a0) ∧ W.cell? ⟨w3.heap.size + 1, 1, none⟩ = some (.int .i64 a1) ∧ W.cell? ⟨w3.heap.size + 1, 2, none⟩ = some (.int .i64 a2) ∧ W.cell? ⟨w3.heap.size + 1, 3, none⟩ = some (.int .i64 a3) ∧ W.cell? ⟨w3.heap.size + 1, 4, none⟩ = some (.int .i64 a4)) ∧ (W.cell? ⟨w3.heap.size, 0, none⟩ = some (.string s) ∧ W.cell? ⟨w3.heap.size, 1, none⟩ = some (.int .i64 at_) ∧ W.cell? ⟨w3.heap.size, 2, none⟩ = some (.int .i64 x)) ∧ Only (fun _ => False) w W) (with_reducible exact ⟨cl_facts (by assumption), cl_facts (by assumption), q_facts (by assumption), by assumption⟩) (first
    | (go_at_call 32; refine (HR.out _ _ (by with_reducible assumption)).mono ?_; rintro e w6 ⟨b, rfl, B6, rfl⟩)
    | (go_at_call 31; refine (code_chain _ b l x (by with_reducible assumption) (by with_reducible assumption)).mono ?_; rintro e w7 ⟨rfl, o7⟩; have C7 : CAt w7 w2.heap.size a0 a1 a2 a3 a4 := Only.has o7 (by with_reducible assumption) (fun f => f); have Q7 : QAt w7 w3.heap.size s at_ x := Only.has o7 (by with_reducible assumption) (fun f => f); have D7 : CAt w7 (w3.heap.size + 1) a0 a1 a2 a3 a4 := Only.has o7 (by with_reducible assumption) (fun f => f); have O7 : Only (fun _ => False) w w7 := Only.trans (by with_reducible assumption) o7))
  rename_i hS
  obtain ⟨_, _, ⟨_, _, x2⟩, O7⟩ := hS
  clear E5 R5 D5 Q5 C5
  go_wp2_with fail
  refine (awake09_any _ (HM.out.only O7)).mono ?_; rintro e w8 ⟨rfl, o8⟩
  go_wp2_with fail
  go_ret
  exact ⟨rfl, O7.trans o8⟩
set_option maxRecDepth 100000 in
set_option maxHeartbeats 1500000 in
theorem reads_ok (w : World) (s : ByteArray) (hz : s.size ≤ 1000) (hM : Ml w) (hE : Et w) (he0 : getE s = 0) (h5 : 5 ≤ s.size) (hel : (getC s).2.err = none) (hcr : (getC s).1 = rawC s) : Calls Tryd.prog 8 #[.string s] w fun e w' => e = .returned (.bool true) ∧ Only (fun _ => False) w w' := by
  have HM := Lib.hid hM
  have HE := Lib.hid hE
  have HN := newreader_any w s
  have HG := fun W p h => get_any W p s (by omega) h
  have HQ := fun W => qget_all W s (by omega)
  have HR : ∀ W p, RS W p s (getC s).2 → Calls Tryd.prog 32 #[.pointer (some ⟨p, 0, none⟩)] W fun e w' => e = .returned .nilIface ∧ W = w' := fun W p h => by
    refine (errs_any W p s (getC s).2 h).mono ?_
    rintro e w' ⟨rfl, ⟨h1, rfl⟩ | ⟨y, b, h1, rfl, h2⟩⟩
    · exact ⟨rfl, rfl⟩
    · rw [hel] at h1; cases h1
  rw [hcr] at HG HQ
  have hraw := raw_bytes s h5
  have hnum := nums_raw s
  have HP := fun W p base v h => sput_any W p base v [] (rawC s) h hnum (by simp)
  have HRP := fun W => rput_any W (rawC s) hnum
  have HB := fun W p base v h => bytes_any W p base v (rawC s).nums h
  simp only [List.nil_append] at HP
  rw [hraw] at HB HRP
  clear hraw hnum hcr
  generalize (rawC s).nums = nums at *
  rw [show clF = ⟨#[99, 108, 97, 115, 115]⟩ from rfl] at HG
  clear hel
  generalize rawC s = c at *
  generalize (getC s).2 = r at *
  generalize hxg : getE s = x at *
  obtain ⟨a0, a1, a2, a3, a4⟩ := c
  simp only [Cl.cells] at *
  have hz' : ¬ (1000 : Int) < (s.size : Int) := by omega
  have h5' : (5 : Int) ≤ (s.size : Int) := by omega
  subst he0
  replace HN := Lib.hid HN
  replace HG := Lib.hid HG
  replace HQ := Lib.hid HQ
  replace HR := Lib.hid HR
  replace HP := Lib.hid HP
  replace HRP := Lib.hid HRP
  replace HB := Lib.hid HB
  clear hz hM hE h5
  go_enter Tryd.func8, Tryd.ntmps8
  go_wp2_with fail
  refine (HN.out).mono ?_; rintro e w1 ⟨rfl, A1, o1⟩
  have S1 : RS w1 w.heap.size s ⟨0, none⟩ := ⟨none, A1, Nat.zero_le _, rfl⟩
  go_wp2_with fail
  refine (HG.out _ _ S1).mono ?_; rintro e w2 ⟨rfl, S2, o2⟩
  have O2 : Only (fun _ => False) w w2 := o1.then_ o2 (fun i hi e => absurd hi (by have : i = w.heap.size := e; omega))
  have HS2 := Lib.hid S2
  have C2 : CAt (w2.alloc (.cells #[.int .i64 a0, .int .i64 a1, .int .i64 a2, .int .i64 a3, .int .i64 a4] 23)) w2.heap.size a0 a1 a2 a3 a4 := Has.new _ _ _
  clear S1 S2 A1 o1 o2
  go_wp2_with fail
  refine (HQ.out _).mono ?_; rintro e w3 ⟨at_, rfl, o3⟩
  have C5 : CAt ((w3.alloc (.cells #[.string s, .int .i64 at_, .int .i64 0] 51)).alloc (.cells #[.int .i64 a0, .int .i64 a1, .int .i64 a2, .int .i64 a3, .int .i64 a4] 23)).drew w2.heap.size a0 a1 a2 a3 a4 := (((o3.has C2 (fun f => f)).alloc _).alloc _).drew
  have Q5 : QAt ((w3.alloc (.cells #[.string s, .int .i64 at_, .int .i64 0] 51)).alloc (.cells #[.int .i64 a0, .int .i64 a1, .int .i64 a2, .int .i64 a3, .int .i64 a4] 23)).drew w3.heap.size s at_ 0 := ((Has.new _ _ _).alloc _).drew
  have D5 : CAt ((w3.alloc (.cells #[.string s, .int .i64 at_, .int .i64 0] 51)).alloc (.cells #[.int .i64 a0, .int .i64 a1, .int .i64 a2, .int .i64 a3, .int .i64 a4] 23)).drew (w3.heap.size + 1) a0 a1 a2 a3 a4 := (has_new2 _ _ _ _).drew
  have P5 : Only (fun _ => False) w3 ((w3.alloc (.cells #[.string s, .int .i64 at_, .int .i64 0] 51)).alloc (.cells #[.int .i64 a0, .int .i64 a1, .int .i64 a2, .int .i64 a3, .int .i64 a4] 23)).drew := (((Only.refl _ _).alloc _).alloc _).drew
  have O5 : Only (fun _ => False) w ((w3.alloc (.cells #[.string s, .int .i64 at_, .int .i64 0] 51)).alloc (.cells #[.int .i64 a0, .int .i64 a1, .int .i64 a2, .int .i64 a3, .int .i64 a4] 23)).drew := (((O2.alloc _).trans o3)).trans P5
  have R5 : RS ((w3.alloc (.cells #[.string s, .int .i64 at_, .int .i64 0] 51)).alloc (.cells #[.int .i64 a0, .int .i64 a1, .int .i64 a2, .int .i64 a3, .int .i64 a4] 23)).drew w.heap.size s r := (HS2.out.inner (((Only.refl _ _).alloc _).trans o3)).inner P5
  have E5 : Et ((w3.alloc (.cells #[.string s, .int .i64 at_, .int .i64 0] 51)).alloc (.cells #[.int .i64 a0, .int .i64 a1, .int .i64 a2, .int .i64 a3, .int .i64 a4] 23)).drew := HE.out.only O5 (fun f => f)
  clear C2 O2 o3 P5 HS2
  go_wp2_with fail
  go_region_held3 (fun W => (W.cell? ⟨w2.heap.size, 0, none⟩ = some (.int .i64 a0) ∧ W.cell? ⟨w2.heap.size, 1, none⟩ = some (.int .i64 a1) ∧ W.cell? ⟨w2.heap.size, 2, none⟩ = some (.int .i64 a2) ∧ W.cell? ⟨w2.heap.size, 3, none⟩ = some (.int .i64 a3) ∧ W.cell? ⟨w2.heap.size, 4, none⟩ = some (.int .i64 a4)) ∧ (W.cell? ⟨w3.heap.size + 1, 0, none⟩ = some (.int .i64 a0) ∧ W.cell? ⟨w3.heap.size + 1, 1, none⟩ = some (.int .i64 a1) ∧ W.cell? ⟨w3.heap.size + 1, 2, none⟩ = some (.int .i64 a2) ∧ W.cell? ⟨w3.heap.size + 1, 3, none⟩ = some (.int .i64 a3) ∧ W.cell? ⟨w3.heap.size + 1, 4, none⟩ = some (.int .i64 a4)) ∧ (W.cell? ⟨w3.heap.size, 0, none⟩ = some (.string s) ∧ W.cell? ⟨w3.heap.size, 1, none⟩ = some (.int .i64 at_) ∧ W.cell? ⟨w3.heap.size, 2, none⟩ = some (.int .i64 0)) ∧ Only (fun _ => False) w W) (with_reducible exact ⟨cl_facts (by assumption), cl_facts (by assumption), q_facts (by assumption), by assumption⟩) (first
    | (go_at_call 32; refine (HR.out _ _ (by with_reducible assumption)).mono ?_; rintro e w6 ⟨rfl, rfl⟩)
    | (go_at_call 31; refine (code_nil _).mono ?_; rintro e w7 ⟨rfl, o7⟩; have C7 : CAt w7 w2.heap.size a0 a1 a2 a3 a4 := Only.has o7 (by with_reducible assumption) (fun f => f); have Q7 : QAt w7 w3.heap.size s at_ 0 := Only.has o7 (by with_reducible assumption) (fun f => f); have D7 : CAt w7 (w3.heap.size + 1) a0 a1 a2 a3 a4 := Only.has o7 (by with_reducible assumption) (fun f => f); have O7 : Only (fun _ => False) w w7 := Only.trans (by with_reducible assumption) o7))
  rename_i hS
  obtain ⟨⟨a0', a1', a2', a3', a4'⟩, ⟨_, _, _, _, _⟩, ⟨_, _, x2⟩, O7⟩ := hS
  clear E5 R5 D5 Q5 C5
  have C8 : CAt (w7.alloc (.cells #[.slice none 0 0] 60)) w2.heap.size a0 a1 a2 a3 a4 := C7.alloc _
  have O8 : Only (fun _ => False) w (w7.alloc (.cells #[.slice none 0 0] 60)) := O7.alloc _
  have W8 : WAt (w7.alloc (.cells #[.slice none 0 0] 60)) w7.heap.size (w7.heap.size + 1) (.slice none 0 0) [] := ⟨Has.new _ _ _, World.ownsRow_nil _ _ _ _, by simp⟩
  have HL := Lib.hid O7.size
  obtain ⟨z0, z1, z2, z3, z4⟩ := cl_facts C8
  go_wp2_with fail
  refine (HP.out _ _ _ _ W8).mono ?_; rintro e w9 ⟨rfl, v9, W9, S9⟩
  have C9 : CAt w9 w2.heap.size a0 a1 a2 a3 a4 := W8.keeps S9 C8 (by decide) (by decide)
  have O9 : Only (fun _ => False) w w9 := S9.inner W8 O8 HL.out (Nat.le_trans HL.out (Nat.le_succ _))
  have C10 : CAt w9.drew w2.heap.size a0 a1 a2 a3 a4 := C9.drew
  have W10 : WAt w9.drew w7.heap.size (w7.heap.size + 1) v9 nums := ⟨W9.has.drew, W9.own, W9.low⟩
  have O10 : Only (fun _ => False) w w9.drew := O9.drew
  clear C8 W8 O8 z0 z1 z2 z3 z4 S9 C7 Q7 D7 O7 x2 o7 a0' a1' a2' a3' a4'
  go_wp2_with fail
  go_region_held3 (fun W => (W.cell? ⟨w2.heap.size, 0, none⟩ = some (.int .i64 a0) ∧ W.cell? ⟨w2.heap.size, 1, none⟩ = some (.int .i64 a1) ∧ W.cell? ⟨w2.heap.size, 2, none⟩ = some (.int .i64 a2) ∧ W.cell? ⟨w2.heap.size, 3, none⟩ = some (.int .i64 a3) ∧ W.cell? ⟨w2.heap.size, 4, none⟩ = some (.int .i64 a4)) ∧ WAt W w7.heap.size (w7.heap.size + 1) v9 nums ∧ Only (fun _ => False) w W) (with_reducible exact ⟨cl_facts (by assumption), by assumption, by assumption⟩) (first
    | (go_at_call 34; refine (HB.out _ _ _ _ (by with_reducible assumption)).mono ?_; rintro e w6 ⟨rfl, rfl⟩)
    | (go_at_call 35; refine (HRP.out _).mono ?_; rintro e w6 ⟨rfl, o6⟩; have C6 : CAt w6 w2.heap.size a0 a1 a2 a3 a4 := Only.has o6 (by with_reducible assumption) (fun f => f); have W6 : WAt w6 w7.heap.size (w7.heap.size + 1) v9 nums := WAt.only (by with_reducible assumption) o6 (fun f => f) (fun _ _ f => f); have O6 : Only (fun _ => False) w w6 := Only.trans (by with_reducible assumption) o6)
    | (go_at_call 19; refine (awake09_any _ (HM.out.only (by with_reducible assumption))).mono ?_; rintro e w6 ⟨rfl, o6⟩; have C6 : CAt w6 w2.heap.size a0 a1 a2 a3 a4 := Only.has o6 (by with_reducible assumption) (fun f => f); have W6 : WAt w6 w7.heap.size (w7.heap.size + 1) v9 nums := WAt.only (by with_reducible assumption) o6 (fun f => f) (fun _ _ f => f); have O6 : Only (fun _ => False) w w6 := Only.trans (by with_reducible assumption) o6))
  rename_i hS
  obtain ⟨_, _, O9⟩ := hS
  go_wp2_with fail
  go_ret
  exact ⟨rfl, O9⟩
set_option maxRecDepth 100000 in
set_option maxHeartbeats 1500000 in
theorem reads_long (w : World) (s : ByteArray) (hs : s.size ≤ 9223372036854775807) (hz : 1000 < s.size) (hM : Ml w) : Calls Tryd.prog 8 #[.string s] w fun e w' => e = .returned (.bool true) ∧ Only (fun _ => False) w w' := by
  have hz' : (1000 : Int) < (s.size : Int) := by omega
  have HA := Lib.hid (awake09_any w hM)
  clear hz hM
  go_enter Tryd.func8, Tryd.ntmps8
  go_wp2_with fail
  refine (HA.out).mono ?_; rintro e w8 ⟨rfl, o8⟩
  go_wp2_with fail
  go_ret
  exact ⟨rfl, o8⟩
theorem reads_any (w : World) (s : ByteArray) (hs : s.size ≤ 9223372036854775807) (hM : Ml w) (hE : Et w) : Calls Tryd.prog 8 #[.string s] w fun e w' => e = .returned (.bool true) ∧ Only (fun _ => False) w w' := by
  by_cases hz : 1000 < s.size
  · exact reads_long w s hs hz hM
  · rcases get_err s with ⟨h1, h2, h3, h4⟩ | ⟨h1, l, h2⟩
    · exact reads_ok w s (by omega) hM hE h2 h3 h1 h4
    · exact reads_bad w s (by omega) hM hE l h1 h2
end Go.Proofs.YtigcfgmblnbleaaDoor
