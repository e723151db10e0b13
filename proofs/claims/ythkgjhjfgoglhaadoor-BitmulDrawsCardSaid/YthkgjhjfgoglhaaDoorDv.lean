/- The reference of layer 24: Draw behind Take. -/
import Derived.Test.YthkgjhjfgoglhaaDoorDu
import Derived.Deep.RegionLaw
import Derived.Deep.DeepCutAuto
import Derived.Deep.CutBlock
set_option linter.unusedSimpArgs false
set_option linter.unusedVariables false
namespace Go.Proofs.YthkgjhjfgoglhaaDoor
open Go.RowKit

/-- What Take hands on: the tape as it is now, the words, the error. -/
def RTake (A : Option Addr) (k c : Nat) (at2 : Int) (lm : List Int) (code : Int) (x : Ending) (w' : World) : Prop := ∃ B c', x = .returned (.tuple #[.agg #[.slice A k c, .int .i64 at2], .slice B lm.length c', .int .i64 code]) ∧ Reads w' (.slice B lm.length c') (ucells lm)
def up (k : Nat) : Nat := (k + 1) / 2
def dn (k : Nat) : Nat := k / 2
def RDrawPost (A : Option Addr) (k c : Nat) (at2 : Int) (lm : List Int) (code : Int) (e : Ending) (W : World) : Prop := ∃ BU cu BV cv, e = .returned (.tuple #[.agg #[.slice A k c, .int .i64 at2], .agg #[.slice BU (up lm.length) cu, .slice BV (dn lm.length) cv, .slice none 0 0], .int .i64 code]) ∧ Reads W (.slice BU (up lm.length) cu) (bcellsB (evL (bitsI lm) (up lm.length))) ∧ Reads W (.slice BV (dn lm.length) cv) (bcellsB (odL (bitsI lm) (dn lm.length)))
set_option maxRecDepth 100000 in
set_option maxHeartbeats 8000000 in
theorem rdraw_any (w : World) (n : Nat) (A : Option Addr) (k c : Nat) (at2 : Int) (lm : List Int) (code : Int) (h1 : 1 ≤ n) (h2 : n ≤ 4096) (hlm : lm.length ≤ 1000000) (hx : ∀ x ∈ lm, 0 ≤ x ∧ x < 2 ^ 64)
    (ht : ∀ W, Only (fun _ => False) w W → Calls Tryd.prog 22 #[.agg #[.slice A k c, .int .i64 0], .int .i64 (2 * (n : Int))] W fun x w' => RTake A k c at2 lm code x w' ∧ Only (fun _ => False) W w') :
    Calls Tryd.prog 7 #[.int .i64 n, .agg #[.slice A k c, .int .i64 0]] w fun x w' => RDrawPost A k c at2 lm code x w' ∧ Only (fun _ => False) w w' := by
  have HC := Lib.hid (fun W => gd_ok W n h1 h2)
  have HTK := Lib.hid ht
  have HX := Lib.hid hx
  have HLM := Lib.hid hlm
  obtain ⟨P, hP⟩ : ∃ P : Ending → World → Prop, P = RDrawPost A k c at2 lm code := ⟨_, rfl⟩
  have HP := Lib.hid (show ∀ e W, RDrawPost A k c at2 lm code e W → P e W by intro e W h; rw [hP]; exact h)
  rw [← hP]
  generalize hW : (((w.alloc (.cells #[.slice A k c, .int .i64 0] 36)).alloc (.cells #[.slice none 0 0, .int .i64 0] 36)).alloc (.cells #[.slice none 0 0, .slice none 0 0, .slice none 0 0] 39)) = W3
  have B3 : Has W3 w.heap.size 36 #[.slice A k c, .int .i64 0] := by rw [← hW]; exact ((Has.new _ _ _).alloc _).alloc _
  have R3 : Has W3 (w.heap.size + 1) 36 #[.slice none 0 0, .int .i64 0] := by rw [← hW]; exact (has_new2 _ _ _ _).alloc _
  have S3 : Has W3 (w.heap.size + 2) 39 #[.slice none 0 0, .slice none 0 0, .slice none 0 0] := by rw [← hW]; exact has_new3 _ _ _ _ _
  have O3 : Only (fun _ => False) w W3 := by rw [← hW]; exact (((Only.refl _ _).alloc _).alloc _).alloc _
  have HW := Lib.hid hW
  clear hW hP ht hx hlm
  go_enter Tryd.func7, Tryd.ntmps7
  go_upto_region 1 with fail
  rw [HW.out]
  obtain ⟨b0, b1, bf⟩ := B3.facts2
  go_wp2_with fail
  refine (HC.out _).mono ?_; rintro e w4 ⟨rfl, rfl⟩
  go_wp2_with fail
  refine (HTK.out _ O3).mono ?_; rintro e w5 ⟨⟨B, c5, rfl, hr⟩, o5⟩
  have HR5 := Lib.hid (o5.has R3 (fun f => f))
  have HS5 := Lib.hid (o5.has S3 (fun f => f))
  have HO5 := Lib.hid (O3.trans o5)
  have HRD := Lib.hid hr
  have HR5lt := Lib.hid (show w.heap.size + 2 < w5.heap.size from (o5.has S3 (fun f => f)).lt)
  clear hr o5 R3 S3 O3 B3 b0 b1 bf HTK HC HW h1 h2
  go_upto_region 5 with fail
  have T7 : Has ((w5.alloc (.cells #[.slice A k c, .int .i64 at2] 36)).alloc (.cells #[.slice none 0 0, .slice none 0 0, .slice none 0 0] 39)) w5.heap.size 36 #[.slice A k c, .int .i64 at2] := (Has.new _ _ _).alloc _
  have G7 : Has ((w5.alloc (.cells #[.slice A k c, .int .i64 at2] 36)).alloc (.cells #[.slice none 0 0, .slice none 0 0, .slice none 0 0] 39)) (w5.heap.size + 1) 39 #[.slice none 0 0, .slice none 0 0, .slice none 0 0] := has_new2 _ _ _ _
  have R7 := (HR5.out.alloc (.cells #[.slice A k c, .int .i64 at2] 36)).alloc (.cells #[.slice none 0 0, .slice none 0 0, .slice none 0 0] 39)
  have S7 := (HS5.out.alloc (.cells #[.slice A k c, .int .i64 at2] 36)).alloc (.cells #[.slice none 0 0, .slice none 0 0, .slice none 0 0] 39)
  have O7 := (HO5.out.alloc (.cells #[.slice A k c, .int .i64 at2] 36)).alloc (.cells #[.slice none 0 0, .slice none 0 0, .slice none 0 0] 39)
  have hrd7 := HRD.out.inner (((Only.refl (fun _ => False) w5).alloc (.cells #[.slice A k c, .int .i64 at2] 36)).alloc (.cells #[.slice none 0 0, .slice none 0 0, .slice none 0 0] 39))
  have hs7 : ((w5.alloc (.cells #[.slice A k c, .int .i64 at2] 36)).alloc (.cells #[.slice none 0 0, .slice none 0 0, .slice none 0 0] 39)).heap.size = w5.heap.size + 2 := by simp
  generalize ((w5.alloc (.cells #[.slice A k c, .int .i64 at2] 36)).alloc (.cells #[.slice none 0 0, .slice none 0 0, .slice none 0 0] 39)) = W7 at *
  obtain ⟨gp, hgp⟩ : ∃ gp, gp = w5.heap.size + 1 := ⟨_, rfl⟩
  have HG7 := Lib.hid (show Has W7 gp 39 #[.slice none 0 0, .slice none 0 0, .slice none 0 0] by rw [hgp]; exact G7)
  have HR7 := Lib.hid hrd7
  have HI := Lib.hid (info_parts Tryd.info_b)
  obtain ⟨L, hL⟩ : ∃ L, L = bitsI lm := ⟨_, rfl⟩
  have HLL := Lib.hid hL
  have HRS := Lib.hid (And.intro R7 (And.intro S7 (And.intro O7 (And.intro T7 hs7))))
  rw [← hgp]
  have HGP := Lib.hid hgp
  clear hL hrd7 G7 R7 S7 O7 T7 hs7 hgp HR5 HS5 HO5
  obtain ⟨m, hm⟩ : ∃ m, m = lm.length := ⟨_, rfl⟩
  rw [← hm] at HLM HR7 HRD ⊢
  have HM := Lib.hid hm
  clear hm
  go_upto_block 0 with fail
  go_cut [10] (fun s W => s = .pointer (some ⟨gp, 0, none⟩) ∧ ∃ (BU : Option Addr) (cu : Nat) (BV : Option Addr) (cv : Nat), Has W gp 39 #[.slice BU (up m) cu, .slice BV (dn m) cv, .slice none 0 0] ∧ Reads W (.slice BU (up m) cu) (bcellsB (evL L (up m))) ∧ Reads W (.slice BV (dn m) cv) (bcellsB (odL L (dn m))) ∧ Only (· = gp) W7 W ∧ (∀ i, (Value.slice BU (up m) cu).ownBlock = some i → W7.heap.size ≤ i) ∧ (∀ i, (Value.slice BV (dn m) cv).ownBlock = some i → W7.heap.size ≤ i))
  case first =>
    go_wp2_with fail
    go_loopw [11] (fun i W => ∃ (j : Nat) (u0 v0 : Value), j ≤ m ∧ i = .int .i64 j ∧ Has W gp 39 #[u0, v0, .slice none 0 0] ∧ W.ownsRow W7.heap.size 4 1 u0 (up j) (bcellsB (evL L (up j))) ∧ W.ownsRow W7.heap.size 4 1 v0 (dn j) (bcellsB (odL L (dn j))) ∧ Sep u0 v0 ∧ Only (· = gp) W7 W) (fun i _ => m - (intOf i).toNat)
    case atStart => exact ⟨0, _, _, by omega, rfl, HG7.out, World.ownsRow_nil _ _ _ _, World.ownsRow_nil _ _ _ _, fun g hg => by simp [Value.ownBlock] at hg, Only.refl _ _⟩
    case round =>
      obtain ⟨j, u, v, hj, rfl, hG, ownu, ownv, sep, ho⟩ := hrel
      have hj' : j < m ∨ j = m := by omega
      rcases hj' with hlt | rfl
      · have hki : (j : Int) < (m : Int) := by omega
        have hx1 : (ucells lm)[j]? = some (.int .u64 (lm.getD j 0)) := by
          have : j < lm.length := by rw [← HM.out]; exact hlt
          simp [ucells, List.getD_eq_getElem?_getD, List.getElem?_eq_getElem this]
        have hmem : lm.getD j 0 ∈ lm := by
          have : j < lm.length := by rw [← HM.out]; exact hlt
          rw [List.getD_eq_getElem?_getD, List.getElem?_eq_getElem this]
          exact List.getElem_mem _
        obtain ⟨hx0, hx64⟩ := HX.out _ hmem
        have hbit : ((lm.getD j 0) % 2 == 1) = bitI (lm.getD j 0) := by unfold bitI; rfl
        have hlf : bitI (lm.getD j 0) = lf L j := by rw [HLL.out, lf_bits lm (by rw [← HM.out]; exact hlt)]
        obtain ⟨B', c', e, hcell⟩ := HR7.out.shape
        obtain ⟨gB, rfl, hc⟩ := hcell j _ hx1
        injection e with e1 e2 e3
        subst e1
        have hgB : gB.block ≠ gp := by
          have h3 := World.block_lt_of_cell? w5 _ (HRD.out.at hx1)
          rw [addB] at h3
          have := HGP.out
          omega
        have cx := ho.cell hc (by rw [addB]; exact hgB)
        have CX : ∀ o, (wr.alloc o).cell? (gB.add j) = some (.int .u64 (lm.getD j 0)) := fun o => Lib.cell?_alloc_some _ cx
        have G0 : ∀ o, (wr.alloc o).cell? ⟨gp, 0, none⟩ = some u := fun o => (hG.alloc o).cell 0
        have G1 : ∀ o, (wr.alloc o).cell? ⟨gp, 1, none⟩ = some v := fun o => (hG.alloc o).cell 1
        obtain ⟨p0, p1, p2, pf⟩ := Has.facts3 hG
        have HOWU := Lib.hid ownu
        have HOWV := Lib.hid ownv
        have HSEP := Lib.hid sep
        have HHO := Lib.hid ho
        have HG := Lib.hid hG
        have HNG := Lib.hid (own_apart ownu hG (by decide))
        have HNGV := Lib.hid (own_apart ownv hG (by decide))
        have hj4 : j ≤ 1000000 := by have := HLM.out; omega
        have hup : up j ≤ 1000000 := by unfold up; omega
        have hdn : dn j ≤ 1000000 := by unfold dn; omega
        have hw7 : W7.heap.size ≤ wr.heap.size := ho.size
        obtain ⟨i0, hi, hz0, hz1, hz2⟩ := HI.out
        have hbit2 : ((lm.getD j 0).tmod 2 == 1) = bitI (lm.getD j 0) := by rw [Int.tmod_eq_emod_of_nonneg hx0]; exact hbit
        rw [hlf] at hbit hbit2
        have HXX := Lib.hid hx1
        have hx2 : lm.getD j 0 ≤ 18446744073709551615 := by omega
        clear ownu ownv sep ho hG hmem hx64 hlf hc hcell e2 e3 hx1 hgB
        generalize lm.getD j 0 = x at *
        by_cases hpar : j % 2 = 0
        · have hp1 : (j : Int) % 2 = 0 := by omega
          have hp2 : ((j : Int) % 2 == 0) = true := by rw [hp1]; rfl
          have HPAR := Lib.hid hpar
          clear hpar
          go_upto_region 9 with fail
          go_region_law (refine step_append_lies _ (by rfl) _ _ 37 (by rfl) W7.heap.size 4 i0 (.bool false) 1 1 Tryd.underlying37 hi hz0 hz1 hz2 rfl (by decide) u (up j) (bcellsB (evL L (up j))) (by rfl) ((HOWU.out.alloc _).drew) ⟨wr.heap.size, 0, none⟩ 1 1 [.bool (lf L j)] (by rfl) (by rfl) (cell_one_new wr _ _) (by intro y hy; obtain rfl := List.mem_singleton.1 hy; rfl) (by omega) (by unfold maxLen; omega) (by omega) (by first | omega | (simp; omega) | simp) _ (by rfl) ?_; intro g4 cap4 w4 ho4 hg4 hat4 hlt4; have HA4 := Lib.hid (Has.grown ((HG.out.alloc _).drew) hg4 (fun e => HNG.out e.symm)); (obtain ⟨q0, q1, q2, qf⟩ := Has.facts3 HA4.out); simp only [Act.put, List.getElem_toArray, List.getElem_cons_succ, List.getElem_cons_zero, List.setIfInBounds_toArray, List.set_cons_zero, List.set_cons_succ])
          all_goals
            have hv4 := World.ownsRow.kept ((HOWV.out.alloc _).drew) hg4 HSEP.out.ne
            have hs4 := Sep.lies (m := up j + 1) (c := cap4) HSEP.out ((HOWV.out.alloc _).drew) hat4
            have P4 : Only (· = gp) W7 w4 := Only.grown ((HHO.out.alloc _).drew) hg4 (fun i e hi => absurd hi (by have := own_ge2 HOWU.out e; omega))
            have hu5 := (Only.put1x w4 gp 0 (.slice (some ⟨g4, 0, none⟩) (up j + 1) cap4)).own ho4 (fun i e h => own_apart ho4 HA4.out (by decide) (by rw [e, h]))
            have hv5 := (Only.put1x w4 gp 0 (.slice (some ⟨g4, 0, none⟩) (up j + 1) cap4)).own hv4 (fun i e h => own_apart hv4 HA4.out (by decide) (by rw [e, h]))
            have hg5 := HA4.out.put 0 (.slice (some ⟨g4, 0, none⟩) (up j + 1) cap4) rfl
            have HU5 := Lib.hid hu5
            have HV5 := Lib.hid hv5
            have HS5 := Lib.hid hs4
            have HG5 := Lib.hid hg5
            have HP5 := Lib.hid (P4.setCell ⟨gp, 0, none⟩ (.slice (some ⟨g4, 0, none⟩) (up j + 1) cap4) (fun _ => rfl))
            have HE1 := Lib.hid (show up (j + 1) = up j + 1 by have := HPAR.out; unfold up; omega)
            have HE2 := Lib.hid (show dn (j + 1) = dn j by have := HPAR.out; unfold dn; omega)
            have HE3 := Lib.hid (show 2 * up j = j by have := HPAR.out; unfold up; omega)
            clear hv4 hs4 P4 hu5 hv5 hg5 ho4 hg4 hat4 hlt4 q0 q1 q2 qf p0 p1 p2 pf G0 G1 CX cx
            go_wp2_with fail
            go_roundw
            case rel => exact ⟨j + 1, _, _, by omega, by go_num, HG5.out, by rw [HE1.out, evL_snoc, HE3.out, bcellsB_snoc]; exact HU5.out, by rw [HE2.out]; exact HV5.out, HS5.out, HP5.out⟩
            case measure => simp only [intOf]; omega
        · have hp1 : (j : Int) % 2 = 1 := by omega
          have hp2 : ((j : Int) % 2 == 0) = false := by rw [hp1]; rfl
          have HPAR := Lib.hid hpar
          clear hpar
          go_upto_region 10 with fail
          go_region_law (refine step_append_lies _ (by rfl) _ _ 37 (by rfl) W7.heap.size 4 i0 (.bool false) 1 1 Tryd.underlying37 hi hz0 hz1 hz2 rfl (by decide) v (dn j) (bcellsB (odL L (dn j))) (by rfl) ((HOWV.out.alloc _).drew) ⟨wr.heap.size, 0, none⟩ 1 1 [.bool (lf L j)] (by rfl) (by rfl) (cell_one_new wr _ _) (by intro y hy; obtain rfl := List.mem_singleton.1 hy; rfl) (by omega) (by unfold maxLen; omega) (by omega) (by first | omega | (simp; omega) | simp) _ (by rfl) ?_; intro g4 cap4 w4 ho4 hg4 hat4 hlt4; have HA4 := Lib.hid (Has.grown ((HG.out.alloc _).drew) hg4 (fun e => HNGV.out e.symm)); (obtain ⟨q0, q1, q2, qf⟩ := Has.facts3 HA4.out); simp only [Act.put, List.getElem_toArray, List.getElem_cons_succ, List.getElem_cons_zero, List.setIfInBounds_toArray, List.set_cons_zero, List.set_cons_succ])
          all_goals
            have hv4 := World.ownsRow.kept ((HOWU.out.alloc _).drew) hg4 HSEP.out.symm.ne
            have hs4 := Sep.lies (m := dn j + 1) (c := cap4) HSEP.out.symm ((HOWU.out.alloc _).drew) hat4
            have P4 : Only (· = gp) W7 w4 := Only.grown ((HHO.out.alloc _).drew) hg4 (fun i e hi => absurd hi (by have := own_ge2 HOWV.out e; omega))
            have hu5 := (Only.put1x w4 gp 1 (.slice (some ⟨g4, 0, none⟩) (dn j + 1) cap4)).own ho4 (fun i e h => own_apart ho4 HA4.out (by decide) (by rw [e, h]))
            have hv5 := (Only.put1x w4 gp 1 (.slice (some ⟨g4, 0, none⟩) (dn j + 1) cap4)).own hv4 (fun i e h => own_apart hv4 HA4.out (by decide) (by rw [e, h]))
            have hg5 := HA4.out.put 1 (.slice (some ⟨g4, 0, none⟩) (dn j + 1) cap4) rfl
            have HU5 := Lib.hid hu5
            have HV5 := Lib.hid hv5
            have HS5 := Lib.hid hs4
            have HG5 := Lib.hid hg5
            have HP5 := Lib.hid (P4.setCell ⟨gp, 1, none⟩ (.slice (some ⟨g4, 0, none⟩) (dn j + 1) cap4) (fun _ => rfl))
            have HE1 := Lib.hid (show dn (j + 1) = dn j + 1 by have := HPAR.out; unfold dn; omega)
            have HE2 := Lib.hid (show up (j + 1) = up j by have := HPAR.out; unfold up; omega)
            have HE3 := Lib.hid (show 2 * dn j + 1 = j by have := HPAR.out; unfold dn; omega)
            clear hv4 hs4 P4 hu5 hv5 hg5 ho4 hg4 hat4 hlt4 q0 q1 q2 qf p0 p1 p2 pf G0 G1 CX cx
            go_wp2_with fail
            go_roundw
            case rel => exact ⟨j + 1, _, _, by omega, by go_num, HG5.out, by rw [HE2.out]; exact HV5.out, by rw [HE1.out, odL_snoc, HE3.out, bcellsB_snoc]; exact HU5.out, HS5.out.symm, HP5.out⟩
            case measure => simp only [intOf]; omega
      · have hki : ¬ (j : Int) < (j : Int) := by omega
        have hru := Reads.ofOwn ownu (by rw [bcellsB_length, evL_len])
        have hrv := Reads.ofOwn ownv (by rw [bcellsB_length, odL_len])
        obtain ⟨BU, cu, rfl, -⟩ := hru.shape
        obtain ⟨BV, cv, rfl, -⟩ := hrv.shape
        rw [bcellsB_length, evL_len] at hru
        rw [bcellsB_length, odL_len] at hrv
        rw [bcellsB_length, evL_len, bcellsB_length, odL_len] at hG
        have hbu0 : ∀ i, _ → W7.heap.size ≤ i := fun i e => own_ge2 (k := i) ownu e
        have hbv0 : ∀ i, _ → W7.heap.size ≤ i := fun i e => own_ge2 (k := i) ownv e
        rw [bcellsB_length, evL_len] at hbu0
        rw [bcellsB_length, odL_len] at hbv0
        have hbu := Lib.hid hbu0
        have hbv := Lib.hid hbv0
        clear hbu0 hbv0
        have HRU := Lib.hid hru
        have HRV := Lib.hid hrv
        have HHO := Lib.hid ho
        have HGG := Lib.hid hG
        clear ownu ownv sep hru hrv ho hG
        go_wp2_with fail
        go_meet
        exact ⟨rfl, BU, cu, BV, cv, HGG.out, HRU.out, HRV.out, HHO.out, hbu.out, hbv.out⟩
  case rest =>
    rename World => w8
    obtain ⟨rfl, BU, cu, BV, cv, hG, hru, hrv, ho, hbu, hbv⟩ := hcut
    obtain ⟨R7, S7, O7, T7, hs7⟩ := HRS.out
    have hgp := HGP.out
    have hlt := HR5lt.out
    have R8 := ho.has R7 (by omega)
    have S8 := ho.has S7 (by omega)
    have T8 := ho.has T7 (by omega)
    have O8 := O7.then_ ho (fun i hi e => absurd hi (by have e : i = gp := e; omega))
    have HPP := Lib.hid (show ∀ W' : World, Only (fun i => i = w.heap.size + 1 ∨ i = w.heap.size + 2) w8 W' → P (.returned (.tuple #[.agg #[.slice A k c, .int .i64 at2], .agg #[.slice BU (up m) cu, .slice BV (dn m) cv, .slice none 0 0], .int .i64 code])) W' by
      intro W' o
      refine HP.out _ _ ?_
      have hm := HM.out
      have hL := HLL.out
      subst hm
      subst hL
      exact ⟨BU, cu, BV, cv, rfl, hru.only o (fun g hg => by have := hbu g hg; omega), hrv.only o (fun g hg => by have := hbv g hg; omega)⟩)
    have HO8 := Lib.hid O8
    have HR8 := Lib.hid R8
    have HS8 := Lib.hid S8
    have HT8 := Lib.hid T8
    have HG := Lib.hid hG
    have q1 : ¬ w5.heap.size = w.heap.size + 1 := by omega
    have q2 : ¬ gp = w.heap.size + 1 := by omega
    have q3 : ¬ gp = w.heap.size + 2 := by omega
    have q4 : ¬ w5.heap.size = w.heap.size + 2 := by omega
    clear hru hrv hbu hbv ho hgp hs7 R7 S7 O7 T7 O8 R8 S8 T8 hG hlt HP HM HLL HRS HGP HR5lt HR7 HRD HG7 HI HLM HX
    go_upto_region 11 with fail
    obtain ⟨t0, t1, tf⟩ := Has.facts2 HT8.out
    obtain ⟨p0, p1, p2, pf⟩ := Has.facts3 HG.out
    obtain ⟨r0, r1, rf⟩ := Has.facts2 HR8.out
    obtain ⟨s0, s1, s2, sf⟩ := Has.facts3 HS8.out
    go_region
    all_goals
      go_wp2_with fail
      obtain ⟨z1, z2, z3⟩ := rd_end (b1 := w.heap.size + 1) (b2 := w.heap.size + 1 + 1) (x0 := .slice A k c) (x1 := .int .i64 at2) (y0 := .slice BU (up m) cu) (y1 := .slice BV (dn m) cv) (y2 := .slice none 0 0) HR8.out HS8.out rfl rfl (by omega) (by omega) (by omega) HO8.out
      have z4 := ((((Only.put2 w8 (w.heap.size + 1) (.slice A k c) (.int .i64 at2)).mono (T := fun i => i = w.heap.size + 1 ∨ i = w.heap.size + 2) (fun _ _ e => .inl e)).trans ((Only.put3 _ (w.heap.size + 1 + 1) (.slice BU (up m) cu) (.slice BV (dn m) cv) (.slice none 0 0)).mono (fun _ _ e => .inr e))).drew)
      exact bodyPost_ret (v := .tuple #[.agg #[.slice A k c, .int .i64 at2], .agg #[.slice BU (up m) cu, .slice BV (dn m) cv, .slice none 0 0], .int .i64 code]) (res_rd z1.drew z2.drew rfl rfl rfl) rfl ⟨HPP.out _ z4, z3.drew⟩
end Go.Proofs.YthkgjhjfgoglhaaDoor
