/- Chapter 1: the law FaultCodes walked. Printed by gen_er.py. -/
import Derived.Test.YthagbbeppklpmaaDoorEq
set_option linter.unusedSimpArgs false
set_option linter.unusedVariables false
namespace Go.Proofs.YthagbbeppklpmaaDoor
open Go.RowKit

theorem any_snoc (l : List Int) (c : Int) (k : Nat) (h : k < l.length) : (l.take (k + 1)).any (· == c) = ((l.take k).any (· == c) || (l[k] == c)) := by
  rw [List.take_succ_eq_append_getElem h, List.any_append]
  simp
theorem first_of {t : Tr} {c : Int} {l : List Int} (h : t.codes = c :: l) : t.first = c := by unfold Tr.first; rw [h]
set_option maxRecDepth 100000 in
set_option maxHeartbeats 8000000 in
theorem codes_law (w : World) (v : Value) (l : List Nd) (c : Int) (hv : SlN w v l) (hl : l.length ≤ 9223372036854775807) (hE : Et w) :
    Calls Tryd.prog 4 #[v, .int .i64 c] w fun e w' => e = .returned (.bool true) ∧ Only (fun _ => False) w w' := by
  have HV := Lib.hid hv
  have HE := Lib.hid hE
  obtain ⟨A, cc, rfl, -⟩ := hv
  clear hE
  go_enter Tryd.func4, Tryd.ntmps4
  go_wp2_with fail
  refine (small_any _ _ l HV.out hl).mono ?_
  rintro e w1 ⟨⟨b, rfl, hb⟩, o1⟩
  cases b
  · go_wp2_with fail
    refine (awake01_any _ (HE.out.only o1 (fun f => f))).mono ?_
    rintro e w2 ⟨rfl, o2⟩
    go_wp2_with fail
    go_ret
    exact ⟨rfl, o1.trans o2⟩
  · obtain ⟨h24, hw⟩ := hb rfl
    have HFIT := Lib.hid (made_fit _ l rfl hw)
    have HSAME := Lib.hid (nodes_same _ l rfl).1
    have HTL := Lib.hid (madeT_length l)
    have HNL := Lib.hid (madeN_length l)
    clear hw hb
    go_wp2_with fail
    refine (made_any _ _ l (HV.out.only o1) (by omega)).mono ?_
    rintro e w2 ⟨u, vs, rfl, hown, hall, o2⟩
    have T2 := slT_own (by rw [HTL.out]; exact hown) hall
    obtain ⟨A1, d1, hu⟩ := own_shape hown
    subst hu
    clear hown hall
    go_wp2_with fail
    refine (rmade_any _ _ l ((HV.out.only o1).only o2) (by omega)).mono ?_
    rintro e w3 ⟨u2, rfl, hown, o3⟩
    have N3 := Lib.hid (show SlN w3 u2 (madeN l) from slN_own (by rw [HNL.out]; exact hown))
    have T3 := Lib.hid (T2.only o3)
    have O3 := Lib.hid ((o1.trans o2).trans o3)
    obtain ⟨A2, d2, hu⟩ := own_shape hown
    subst hu
    clear hown T2 o1 o2 o3
    go_wp2_with fail
    go_loopg [7] l.length (fun g i W => ∃ k : Nat, g = l.length - k ∧ k ≤ l.length ∧ i = .int .i64 k ∧ Only (fun _ => False) w3 W)
    case atStart => exact ⟨0, rfl, by omega, rfl, Only.refl _ _⟩
    case round =>
      obtain ⟨k, hgk, hk, rfl, ho⟩ := hrel
      have HGK := Lib.hid hgk
      have HO := Lib.hid ho
      clear hgk ho
      by_cases hlt : k < l.length
      · have hkt : k < (madeT l).length := by rw [HTL.out]; exact hlt
        obtain ⟨A', c', e', hT⟩ := T3.out
        obtain ⟨ad, av, z, hA1, cz, htr⟩ := hT k hkt
        injection e' with e1 e2 e3
        rw [← e1] at hA1
        subst hA1
        have hget := List.getElem?_eq_getElem hkt
        have hfit := HFIT.out k _ hget
        have hnode := HSAME.out.2 k _ hget
        generalize (madeT l)[k] = t at *
        have htr' := htr.keep HO.out
        have HND := Lib.hid hnode
        have HN := Lib.hid (fun W (o : Only (fun _ => False) w3 W) => N3.out.only o)
        have hpw : 2 ^ k ≤ 2 ^ 24 := Nat.pow_le_pow_right (by decide) (by omega)
        have hcl : t.codes.length ≤ 1000000000 := by have := hfit.codes; omega
        have HCL := Lib.hid hcl
        have HEW := Lib.hid (HE.out.only (O3.out.trans HO.out) (fun f => f))
        have HCZ := Lib.hid (HO.out.cell cz (fun f => f))
        have hk0 : (0 : Int) ≤ (k : Int) := by omega
        have hk1 : (k : Int) < (l.length : Int) := by omega
        have HNL1 := Lib.hid (show (madeN l).length ≤ 1000000 by have := HNL.out; omega)
        clear cz htr hget hfit hnode hpw hT e1 e2 e3
        have hcc : c = 0 ∨ ((c == 0) = false) := by
          by_cases h : c = 0
          · exact .inl h
          · exact .inr (by simpa using h)
        have HCC := Lib.hid hcc
        clear hcc
        go_wp2_with fail
        refine (rcodes_tr t _ _ (madeN l) k (HN.out _ HO.out) HND.out HNL1.out hcl).mono ?_
        rintro e wa ⟨uw, rfl, hown, oa⟩
        have Oa := Lib.hid (HO.out.trans oa)
        have TRa := Lib.hid (htr'.keep oa)
        have HCa := Lib.hid (oa.cell HCZ.out (fun f => f))
        have SW := Lib.hid (slI_own hown)
        have HEa := Lib.hid (HEW.out.only oa (fun f => f))
        obtain ⟨Aw, dw, hu⟩ := own_shape hown
        subst hu
        obtain ⟨Aw', dw', ew, hsw⟩ := SW.out
        injection ew with ew1 ew2 ew3
        subst ew1
        have HSW := Lib.hid hsw
        clear hown htr' oa hsw ew2 ew3 HCZ HEW
        go_wp2_with fail
        go_loopg [10, 11] t.codes.length (fun g q i W => ∃ k2 : Nat, g = t.codes.length - k2 ∧ k2 ≤ t.codes.length ∧ i = .int .i64 k2 ∧ q = .bool ((t.codes.take k2).any (· == c)) ∧ W = wa)
        case atStart => exact ⟨0, rfl, by omega, rfl, rfl, rfl⟩
        case round =>
          obtain ⟨k2, hg2, hk2, rfl, rfl, rfl⟩ := hrel
          have HG2 := Lib.hid hg2
          clear hg2
          by_cases hlt2 : k2 < t.codes.length
          · obtain ⟨adw, hAw, cy⟩ := HSW.out k2 hlt2
            subst hAw
            have HST := Lib.hid (any_snoc t.codes c k2 hlt2)
            have hk20 : (0 : Int) ≤ (k2 : Int) := by omega
            have hk21 : (k2 : Int) < (t.codes.length : Int) := by omega
            generalize t.codes[k2] = y at *
            generalize hQ : (t.codes.take k2).any (· == c) = Q at *
            generalize hY : (y == c) = Y at *
            clear hQ
            cases Q
            · cases Y
              all_goals
                go_wp2_with fail
                go_roundg (t.codes.length - (k2 + 1))
                case rel => exact ⟨k2 + 1, rfl, by omega, by go_num, by rw [HST.out]; rfl, rfl⟩
                case measure => have := HG2.out; omega
            · go_wp2_with fail
              go_roundg (t.codes.length - (k2 + 1))
              case rel => exact ⟨k2 + 1, rfl, by omega, by go_num, by rw [HST.out]; rfl, rfl⟩
              case measure => have := HG2.out; omega
          · obtain rfl : k2 = t.codes.length := by omega
            rw [List.take_length, ← Tr.hasC_any]
            have HHAS := Lib.hid (fun (h : (c == 0) = false) => show t.hasAny c = t.hasC c from by unfold Tr.hasAny; rw [if_neg (by simpa using h)])
            by_cases hs : t.some = true
            · obtain ⟨T, xz, rfl⟩ := TRa.out.iface hs
              obtain ⟨c0, lc, hcs⟩ := codes_pos TRa.out hs
              have hfi := first_of hcs
              have hpos : (0 : Int) < (t.codes.length : Int) := by rw [hcs]; simp
              have hne : ((t.codes.length : Int) == 0) = false := by rw [hcs]; simp; omega
              obtain ⟨adw, hAw, cy⟩ := HSW.out 0 (by omega)
              subst hAw
              have cy0 : wr.cell? (adw.add 0) = some (.int .i64 t.first) := by rw [hfi, cy]; simp [hcs]
              have cy1 : wr.cell? adw = some (.int .i64 t.first) := by
                have e : adw.add 0 = adw := by unfold Addr.add; simp
                rw [e] at cy0
                exact cy0
              have HS := Lib.hid hs
              clear cy hcs hfi hs
              have cz := HCa.out
              rcases HCC.out with rfl | hc0
              · have HH : Hid (t.hasAny 0 = false) := Lib.hid (by unfold Tr.hasAny; rw [if_pos rfl, HS.out]; rfl)
                go_wp2_with fail
                refine (codes_tr t _ av _ TRa.out HEa.out HCL.out).mono ?_
                rintro e wb ⟨sl, rfl, hown, ob⟩
                have Ob := Lib.hid (Oa.out.trans ob)
                have SL := Lib.hid (slI_own hown)
                have SWb := Lib.hid (SW.out.only ob)
                have TRb := Lib.hid (TRa.out.keep ob)
                have HCb := Lib.hid (ob.cell HCa.out (fun f => f))
                have HEb := Lib.hid (HEa.out.only ob (fun f => f))
                obtain ⟨As, ds, hu⟩ := own_shape hown
                subst hu
                clear hown ob cz
                go_wp2_with fail
                refine (numbers_any _ _ t.codes SL.out HCL.out).mono ?_
                rintro e wc ⟨un, rfl, hown, oc⟩
                have Oc := Lib.hid (Ob.out.trans oc)
                have SN := Lib.hid (slI_own hown)
                have SWc := Lib.hid (SWb.out.only oc)
                have TRc := Lib.hid (TRb.out.keep oc)
                have HCc := Lib.hid (oc.cell HCb.out (fun f => f))
                have HEc := Lib.hid (HEb.out.only oc (fun f => f))
                obtain ⟨An, dn, hu⟩ := own_shape hown
                subst hu
                clear hown oc
                go_wp2_with fail
                refine (ints_any _ _ _ _ _ SN.out SWc.out HCL.out HCL.out).mono ?_
                rintro e wd ⟨rfl, od⟩
                have Od := Lib.hid (Oc.out.trans od)
                have TRd := Lib.hid (TRc.out.keep od)
                have HCd := Lib.hid (od.cell HCc.out (fun f => f))
                have HEd := Lib.hid (HEc.out.only od (fun f => f))
                have czd := HCd.out
                rw [decide_eq_true (rfl : t.codes = t.codes)]
                clear od
                go_wp2_with fail
                refine (code_tr t _ av _ TRd.out HEd.out HCL.out).mono ?_
                rintro e we ⟨rfl, oe⟩
                have Oe := Lib.hid (Od.out.trans oe)
                have TRe := Lib.hid (TRd.out.keep oe)
                have cze := oe.cell HCd.out (fun f => f)
                clear czd oe
                go_wp2_with fail
                refine (has_tr 0 t _ av _ TRe.out).mono ?_
                rintro e wf ⟨rfl, rfl⟩
                rw [HH.out]
                go_wp2_with fail
                go_roundg (l.length - (k + 1))
                case rel => exact ⟨k + 1, rfl, by omega, by go_num, Oe.out⟩
                case measure => have := HGK.out; omega
              · have HH : Hid (t.hasAny c = t.hasC c) := Lib.hid (HHAS.out hc0)
                generalize t.hasC c = Q at *
                cases Q
                · skip
                  go_wp2_with fail
                  refine (codes_tr t _ av _ TRa.out HEa.out HCL.out).mono ?_
                  rintro e wb ⟨sl, rfl, hown, ob⟩
                  have Ob := Lib.hid (Oa.out.trans ob)
                  have SL := Lib.hid (slI_own hown)
                  have SWb := Lib.hid (SW.out.only ob)
                  have TRb := Lib.hid (TRa.out.keep ob)
                  have HCb := Lib.hid (ob.cell HCa.out (fun f => f))
                  have HEb := Lib.hid (HEa.out.only ob (fun f => f))
                  obtain ⟨As, ds, hu⟩ := own_shape hown
                  subst hu
                  clear hown ob cz
                  go_wp2_with fail
                  refine (numbers_any _ _ t.codes SL.out HCL.out).mono ?_
                  rintro e wc ⟨un, rfl, hown, oc⟩
                  have Oc := Lib.hid (Ob.out.trans oc)
                  have SN := Lib.hid (slI_own hown)
                  have SWc := Lib.hid (SWb.out.only oc)
                  have TRc := Lib.hid (TRb.out.keep oc)
                  have HCc := Lib.hid (oc.cell HCb.out (fun f => f))
                  have HEc := Lib.hid (HEb.out.only oc (fun f => f))
                  obtain ⟨An, dn, hu⟩ := own_shape hown
                  subst hu
                  clear hown oc
                  go_wp2_with fail
                  refine (ints_any _ _ _ _ _ SN.out SWc.out HCL.out HCL.out).mono ?_
                  rintro e wd ⟨rfl, od⟩
                  have Od := Lib.hid (Oc.out.trans od)
                  have TRd := Lib.hid (TRc.out.keep od)
                  have HCd := Lib.hid (od.cell HCc.out (fun f => f))
                  have HEd := Lib.hid (HEc.out.only od (fun f => f))
                  have czd := HCd.out
                  rw [decide_eq_true (rfl : t.codes = t.codes)]
                  clear od
                  go_wp2_with fail
                  refine (code_tr t _ av _ TRd.out HEd.out HCL.out).mono ?_
                  rintro e we ⟨rfl, oe⟩
                  have Oe := Lib.hid (Od.out.trans oe)
                  have TRe := Lib.hid (TRd.out.keep oe)
                  have cze := oe.cell HCd.out (fun f => f)
                  clear czd oe
                  go_wp2_with fail
                  refine (has_tr c t _ av _ TRe.out).mono ?_
                  rintro e wf ⟨rfl, rfl⟩
                  rw [HH.out]
                  go_wp2_with fail
                  go_roundg (l.length - (k + 1))
                  case rel => exact ⟨k + 1, rfl, by omega, by go_num, Oe.out⟩
                  case measure => have := HGK.out; omega
                · skip
                  go_wp2_with fail
                  refine (codes_tr t _ av _ TRa.out HEa.out HCL.out).mono ?_
                  rintro e wb ⟨sl, rfl, hown, ob⟩
                  have Ob := Lib.hid (Oa.out.trans ob)
                  have SL := Lib.hid (slI_own hown)
                  have SWb := Lib.hid (SW.out.only ob)
                  have TRb := Lib.hid (TRa.out.keep ob)
                  have HCb := Lib.hid (ob.cell HCa.out (fun f => f))
                  have HEb := Lib.hid (HEa.out.only ob (fun f => f))
                  obtain ⟨As, ds, hu⟩ := own_shape hown
                  subst hu
                  clear hown ob cz
                  go_wp2_with fail
                  refine (numbers_any _ _ t.codes SL.out HCL.out).mono ?_
                  rintro e wc ⟨un, rfl, hown, oc⟩
                  have Oc := Lib.hid (Ob.out.trans oc)
                  have SN := Lib.hid (slI_own hown)
                  have SWc := Lib.hid (SWb.out.only oc)
                  have TRc := Lib.hid (TRb.out.keep oc)
                  have HCc := Lib.hid (oc.cell HCb.out (fun f => f))
                  have HEc := Lib.hid (HEb.out.only oc (fun f => f))
                  obtain ⟨An, dn, hu⟩ := own_shape hown
                  subst hu
                  clear hown oc
                  go_wp2_with fail
                  refine (ints_any _ _ _ _ _ SN.out SWc.out HCL.out HCL.out).mono ?_
                  rintro e wd ⟨rfl, od⟩
                  have Od := Lib.hid (Oc.out.trans od)
                  have TRd := Lib.hid (TRc.out.keep od)
                  have HCd := Lib.hid (od.cell HCc.out (fun f => f))
                  have HEd := Lib.hid (HEc.out.only od (fun f => f))
                  have czd := HCd.out
                  rw [decide_eq_true (rfl : t.codes = t.codes)]
                  clear od
                  go_wp2_with fail
                  refine (code_tr t _ av _ TRd.out HEd.out HCL.out).mono ?_
                  rintro e we ⟨rfl, oe⟩
                  have Oe := Lib.hid (Od.out.trans oe)
                  have TRe := Lib.hid (TRd.out.keep oe)
                  have cze := oe.cell HCd.out (fun f => f)
                  clear czd oe
                  go_wp2_with fail
                  refine (has_tr c t _ av _ TRe.out).mono ?_
                  rintro e wf ⟨rfl, rfl⟩
                  rw [HH.out]
                  go_wp2_with fail
                  go_roundg (l.length - (k + 1))
                  case rel => exact ⟨k + 1, rfl, by omega, by go_num, Oe.out⟩
                  case measure => have := HGK.out; omega
            · have ht0 : t = .none := none_of (by simpa using hs)
              subst ht0
              obtain rfl : z = Value.nilIface := TRa.out
              have cz := HCa.out
              rcases HCC.out with rfl | hc0
              · have HH : Hid (Tr.none.hasAny 0 = true) := Lib.hid rfl
                go_wp2_with fail
                refine (codes_tr Tr.none _ av _ TRa.out HEa.out HCL.out).mono ?_
                rintro e wb ⟨sl, rfl, hown, ob⟩
                have Ob := Lib.hid (Oa.out.trans ob)
                have SL := Lib.hid (slI_own hown)
                have SWb := Lib.hid (SW.out.only ob)
                have TRb := Lib.hid (TRa.out.keep ob)
                have HCb := Lib.hid (ob.cell HCa.out (fun f => f))
                have HEb := Lib.hid (HEa.out.only ob (fun f => f))
                obtain ⟨As, ds, hu⟩ := own_shape hown
                subst hu
                clear hown ob cz
                go_wp2_with fail
                refine (numbers_any _ _ Tr.none.codes SL.out HCL.out).mono ?_
                rintro e wc ⟨un, rfl, hown, oc⟩
                have Oc := Lib.hid (Ob.out.trans oc)
                have SN := Lib.hid (slI_own hown)
                have SWc := Lib.hid (SWb.out.only oc)
                have TRc := Lib.hid (TRb.out.keep oc)
                have HCc := Lib.hid (oc.cell HCb.out (fun f => f))
                have HEc := Lib.hid (HEb.out.only oc (fun f => f))
                obtain ⟨An, dn, hu⟩ := own_shape hown
                subst hu
                clear hown oc
                go_wp2_with fail
                refine (ints_any _ _ _ _ _ SN.out SWc.out HCL.out HCL.out).mono ?_
                rintro e wd ⟨rfl, od⟩
                have Od := Lib.hid (Oc.out.trans od)
                have TRd := Lib.hid (TRc.out.keep od)
                have HCd := Lib.hid (od.cell HCc.out (fun f => f))
                have HEd := Lib.hid (HEc.out.only od (fun f => f))
                have czd := HCd.out
                rw [decide_eq_true (rfl : Tr.none.codes = Tr.none.codes)]
                clear od
                go_wp2_with fail
                refine (code_tr Tr.none _ av _ TRd.out HEd.out HCL.out).mono ?_
                rintro e we ⟨rfl, oe⟩
                have Oe := Lib.hid (Od.out.trans oe)
                have TRe := Lib.hid (TRd.out.keep oe)
                have cze := oe.cell HCd.out (fun f => f)
                clear czd oe
                go_wp2_with fail
                refine (has_tr 0 Tr.none _ av _ TRe.out).mono ?_
                rintro e wf ⟨rfl, rfl⟩
                rw [HH.out]
                go_wp2_with fail
                go_roundg (l.length - (k + 1))
                case rel => exact ⟨k + 1, rfl, by omega, by go_num, Oe.out⟩
                case measure => have := HGK.out; omega
              · have HH : Hid (Tr.none.hasAny c = false) := Lib.hid (HHAS.out hc0)
                go_wp2_with fail
                refine (codes_tr Tr.none _ av _ TRa.out HEa.out HCL.out).mono ?_
                rintro e wb ⟨sl, rfl, hown, ob⟩
                have Ob := Lib.hid (Oa.out.trans ob)
                have SL := Lib.hid (slI_own hown)
                have SWb := Lib.hid (SW.out.only ob)
                have TRb := Lib.hid (TRa.out.keep ob)
                have HCb := Lib.hid (ob.cell HCa.out (fun f => f))
                have HEb := Lib.hid (HEa.out.only ob (fun f => f))
                obtain ⟨As, ds, hu⟩ := own_shape hown
                subst hu
                clear hown ob cz
                go_wp2_with fail
                refine (numbers_any _ _ Tr.none.codes SL.out HCL.out).mono ?_
                rintro e wc ⟨un, rfl, hown, oc⟩
                have Oc := Lib.hid (Ob.out.trans oc)
                have SN := Lib.hid (slI_own hown)
                have SWc := Lib.hid (SWb.out.only oc)
                have TRc := Lib.hid (TRb.out.keep oc)
                have HCc := Lib.hid (oc.cell HCb.out (fun f => f))
                have HEc := Lib.hid (HEb.out.only oc (fun f => f))
                obtain ⟨An, dn, hu⟩ := own_shape hown
                subst hu
                clear hown oc
                go_wp2_with fail
                refine (ints_any _ _ _ _ _ SN.out SWc.out HCL.out HCL.out).mono ?_
                rintro e wd ⟨rfl, od⟩
                have Od := Lib.hid (Oc.out.trans od)
                have TRd := Lib.hid (TRc.out.keep od)
                have HCd := Lib.hid (od.cell HCc.out (fun f => f))
                have HEd := Lib.hid (HEc.out.only od (fun f => f))
                have czd := HCd.out
                rw [decide_eq_true (rfl : Tr.none.codes = Tr.none.codes)]
                clear od
                go_wp2_with fail
                refine (code_tr Tr.none _ av _ TRd.out HEd.out HCL.out).mono ?_
                rintro e we ⟨rfl, oe⟩
                have Oe := Lib.hid (Od.out.trans oe)
                have TRe := Lib.hid (TRd.out.keep oe)
                have cze := oe.cell HCd.out (fun f => f)
                clear czd oe
                go_wp2_with fail
                refine (has_tr c Tr.none _ av _ TRe.out).mono ?_
                rintro e wf ⟨rfl, rfl⟩
                rw [HH.out]
                go_wp2_with fail
                go_roundg (l.length - (k + 1))
                case rel => exact ⟨k + 1, rfl, by omega, by go_num, Oe.out⟩
                case measure => have := HGK.out; omega
      · obtain rfl : k = l.length := by omega
        go_wp2_with fail
        refine (awake01_any _ (HE.out.only (O3.out.trans HO.out) (fun f => f))).mono ?_
        rintro e w4 ⟨rfl, o4⟩
        go_wp2_with fail
        go_ret
        exact ⟨rfl, (O3.out.trans HO.out).trans o4⟩
end Go.Proofs.YthagbbeppklpmaaDoor
