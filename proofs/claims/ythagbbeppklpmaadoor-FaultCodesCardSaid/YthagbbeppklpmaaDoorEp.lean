/- Chapter 1: small; the law FaultTexts walked; steps as an argument. -/
import Derived.Test.YthagbbeppklpmaaDoorEo
import Derived.Test.YthagbbeppklpmaaDoorEi
import Derived.Test.YthagbbeppklpmaaDoorEk
import Derived.Test.YthagbbeppklpmaaDoorFnB
import Derived.ChangeSlices
import Derived.OpenShut
set_option linter.unusedSimpArgs false
set_option linter.unusedVariables false
namespace Go.Proofs.YthagbbeppklpmaaDoor
open Go.RowKit Go.ChangeShapes Go.WideShapes Go.Deep

instance : Inhabited Nd := ⟨⟨0, 0, ⟨#[]⟩, 0, 0⟩⟩
section
variable {H : Type} {enc : TypeId × Value → H} {w : World}
theorem steps_of {n : Nat} {v : Value} {y : DataW H × List MemPlace} (h : DataW.trod enc Tryd.prog w 0 (fun _ => true) true n 22 [v] = some y) : ∃ l : List Nd, SlN w v l ∧ l.length ≤ 9223372036854775807 := by
  obtain ⟨A, len, cap, rfl⟩ : ∃ A len cap, v = .slice A len cap := by
    rcases DataW.trod_slice Tryd.underlying22 h with ⟨e, _⟩ | ⟨a, len, cap, _, _, _, _, e, _⟩
    · simp only [List.cons.injEq, and_true] at e; exact ⟨_, _, _, e⟩
    · simp only [List.cons.injEq, and_true] at e; exact ⟨_, _, _, e⟩
  obtain ⟨hlc, hcm, hr⟩ := open_rows (enc := enc) (w := w) (base := 0) (spare := fun _ => true) (held := true) (A := A) (len := len) (cap := cap) (d := y.1) (p := y.2) Tryd.underlying22 Tryd.underlying55 (by kernel_rfl) (by kernel_rfl) ⟨n, h⟩
  have hp : ∀ i, i < len → ∃ s : Nd, ∃ ad, A = some ad ∧ w.cell? (ad.add (i * 5)) = some (.int .i64 s.kind) ∧ w.cell? (ad.add (i * 5 + 1)) = some (.int .i64 s.code) ∧ w.cell? (ad.add (i * 5 + 2)) = some (.string s.wh) ∧ w.cell? (ad.add (i * 5 + 3)) = some (.int .i64 s.a) ∧ w.cell? (ad.add (i * 5 + 4)) = some (.int .i64 s.b) := by
    intro i hi
    obtain ⟨ad, rfl, cs, hcl, hc, hf⟩ := hr i hi
    have hcl : cs.length = 5 := hcl
    match cs, hcl with
    | [v0, v1, v2, v3, v4], _ =>
      obtain ⟨n0, y0, t0⟩ := hf 0 _ v0 rfl rfl
      obtain ⟨n1, y1, t1⟩ := hf 1 _ v1 rfl rfl
      obtain ⟨n2, y2, t2⟩ := hf 2 _ v2 rfl rfl
      obtain ⟨n3, y3, t3⟩ := hf 3 _ v3 rfl rfl
      obtain ⟨n4, y4, t4⟩ := hf 4 _ v4 rfl rfl
      obtain ⟨x0, e0, _, _⟩ := DataW.trod_int Tryd.underlying3 t0
      obtain ⟨x1, e1, _, _⟩ := DataW.trod_int Tryd.underlying3 t1
      obtain ⟨x2, e2, _⟩ := DataW.trod_string Tryd.underlying9 t2
      obtain ⟨x3, e3, _, _⟩ := DataW.trod_int Tryd.underlying3 t3
      obtain ⟨x4, e4, _, _⟩ := DataW.trod_int Tryd.underlying3 t4
      simp only [List.cons.injEq, and_true] at e0 e1 e2 e3 e4
      subst e0; subst e1; subst e2; subst e3; subst e4
      exact ⟨⟨x0, x1, x2, x3, x4⟩, ad, rfl, hc 0 _ rfl, hc 1 _ rfl, hc 2 _ rfl, hc 3 _ rfl, hc 4 _ rfl⟩
  obtain ⟨ss, hl, hs⟩ := listOf len hp
  subst hl
  refine ⟨ss, ⟨A, cap, rfl, fun i hi => ?_⟩, by unfold maxLen at hcm; omega⟩
  have := hs i hi
  rw [List.getD_eq_getElem?_getD, List.getElem?_eq_getElem hi] at this
  exact this
end
def SmallP (l : List Nd) (e : Ending) : Prop := ∃ b, e = .returned (.bool b) ∧ (b = true → l.length ≤ 24 ∧ ∀ s ∈ l, s.wh.size ≤ 200)
set_option maxRecDepth 100000 in
set_option maxHeartbeats 4000000 in
theorem small_any (w : World) (v : Value) (l : List Nd) (hv : SlN w v l) (hl : l.length ≤ 9223372036854775807) :
    Calls Tryd.prog 6 #[v] w fun e w' => SmallP l e ∧ Only (fun _ => False) w w' := by
  have HU := Lib.hid (show ∀ b, (b = true → l.length ≤ 24 ∧ ∀ s ∈ l, s.wh.size ≤ 200) → SmallP l (.returned (.bool b)) from fun b hb => ⟨b, rfl, hb⟩)
  obtain ⟨P, hP⟩ : ∃ P : Ending → Prop, P = SmallP l := ⟨_, rfl⟩
  rw [← hP] at HU ⊢
  clear hP
  have HV := Lib.hid hv
  obtain ⟨A, c, rfl, hA⟩ := hv
  have HA := Lib.hid hA
  clear hA
  by_cases h24 : l.length ≤ 24
  · have hn : ¬ (24 : Int) < (l.length : Int) := by omega
    go_enter Tryd.func6, Tryd.ntmps6
    go_wp2_with fail
    go_loopg [3] l.length (fun g i W => ∃ k : Nat, g = l.length - k ∧ k ≤ l.length ∧ i = .int .i64 k ∧ (∀ (j : Nat) (s : Nd), j < k → l[j]? = some s → s.wh.size ≤ 200) ∧ W = w)
    case atStart => exact ⟨0, rfl, by omega, rfl, (fun j s h => absurd h (Nat.not_lt_zero j)), rfl⟩
    case round =>
      obtain ⟨k, hgk, hk, rfl, hall, rfl⟩ := hrel
      have HALL := Lib.hid hall
      have HGK := Lib.hid hgk
      clear hall hgk
      by_cases hlt : k < l.length
      · obtain ⟨ad, rfl, x0, x1, x2, x3, x4⟩ := HA.out k hlt
        have c2 := row_cell (by decide) x2
        have hk0 : (0 : Int) ≤ (k : Int) := by omega
        have hk1 : (k : Int) < (l.length : Int) := by omega
        have HE := Lib.hid (List.getElem?_eq_getElem hlt)
        clear x0 x1 x2 x3 x4
        generalize l[k] = s at *
        by_cases hs : s.wh.size ≤ 200
        · have hs1 : ¬ (200 : Int) < (s.wh.size : Int) := by omega
          go_wp2_with fail
          go_roundg (l.length - (k + 1))
          case rel => exact ⟨k + 1, rfl, by omega, by go_num, (fun j x hj hx => by
            by_cases e : j = k
            · subst e; have := HE.out.symm.trans hx; obtain rfl := Option.some.inj this; exact hs
            · exact HALL.out j x (by omega) hx), rfl⟩
          case measure => have := HGK.out; omega
        · have hs1 : (200 : Int) < (s.wh.size : Int) := by omega
          go_wp2_with fail
          go_ret
          exact ⟨HU.out _ (fun h => by cases h), Only.refl _ _⟩
      · obtain rfl : k = l.length := by omega
        have HGOOD := Lib.hid (show l.length ≤ 24 ∧ ∀ s ∈ l, s.wh.size ≤ 200 from ⟨h24, fun s hs => by
          obtain ⟨j, hj, rfl⟩ := List.getElem_of_mem hs
          exact HALL.out j _ hj (List.getElem?_eq_getElem hj)⟩)
        have HML := Lib.hid (madeN_length l)
        have HORD := Lib.hid (nodes_same _ l rfl).2
        clear hlt
        go_wp2_with fail
        refine (rmade_any _ _ l HV.out (by omega)).mono ?_
        rintro e w1 ⟨u, rfl, hown, o1⟩
        have HSL := Lib.hid (show SlN w1 u (madeN l) from slN_own (by rw [HML.out]; exact hown))
        obtain ⟨A1, d1, hu⟩ := own_shape hown
        subst hu
        clear hown
        go_wp2_with fail
        refine (rcount_any _ _ (madeN l) HSL.out HORD.out (by have := HML.out; omega)).mono ?_
        rintro e w2 ⟨u2, xs, rfl, hown, hxl, hxb, o2⟩
        obtain ⟨A2, d2, hu⟩ := own_shape hown
        subst hu
        rw [HML.out] at hown hxl
        have HXL := Lib.hid hxl
        have HOWN := Lib.hid hown
        have HO := Lib.hid (o1.trans o2)
        clear hown hxl hxb o1 o2
        rw [show Value.slice A2 (madeN l).length d2 = Value.slice A2 l.length d2 by rw [HML.out]]
        go_wp2_with fail
        go_loopg [5] l.length (fun g i W => ∃ k : Nat, g = l.length - k ∧ k ≤ l.length ∧ i = .int .i64 k ∧ W = w2)
        case atStart => exact ⟨0, rfl, by omega, rfl, rfl⟩
        case round =>
          obtain ⟨k, hgk, hk2, rfl, rfl⟩ := hrel
          have HGK2 := Lib.hid hgk
          clear hgk
          by_cases hlt : k < l.length
          · obtain ⟨g, y, hA0, hy, cy⟩ := own_int_at HOWN.out hlt HXL.out
            subst hA0
            have hk0 : (0 : Int) ≤ (k : Int) := by omega
            have hk1 : (k : Int) < (l.length : Int) := by omega
            clear hy
            by_cases hs : (200 : Int) < y
            · go_wp2_with fail
              go_ret
              exact ⟨HU.out _ (fun h => by cases h), HO.out⟩
            · go_wp2_with fail
              go_roundg (l.length - (k + 1))
              case rel => exact ⟨k + 1, rfl, by omega, by go_num, rfl⟩
              case measure => have := HGK2.out; omega
          · obtain rfl : k = l.length := by omega
            go_wp2_with fail
            go_ret
            exact ⟨HU.out _ (fun _ => HGOOD.out), HO.out⟩
  · have hn : (24 : Int) < (l.length : Int) := by omega
    go_enter Tryd.func6, Tryd.ntmps6
    go_wp2_with fail
    go_ret
    exact ⟨HU.out _ (fun h => by cases h), Only.refl _ _⟩

/-- A slice of these errors. -/
def SlT (W : World) (v : Value) (ts : List Tr) : Prop := ∃ A c, v = .slice A ts.length c ∧ ∀ i, (h : i < ts.length) → ∃ ad av u, A = some ad ∧ W.cell? (ad.add i) = some u ∧ TrAt W av ts[i] u
theorem SlT.only {W W' : World} {v : Value} {ts : List Tr} (h : SlT W v ts) (o : Only (fun _ => False) W W') : SlT W' v ts := by
  obtain ⟨A, c, e, hc⟩ := h
  refine ⟨A, c, e, fun i hi => ?_⟩
  obtain ⟨ad, av, u, ha, hx, ht⟩ := hc i hi
  exact ⟨ad, av, u, ha, o.cell hx (fun f => f), ht.keep o⟩
theorem slT_own {W : World} {base : Nat} {u : Value} {vs : List Value} {ts : List Tr} (h : W.ownsRow base 32 1 u ts.length vs) (ha : AllT W u.ownBlock ts vs) : SlT W u ts := by
  rcases h.2 with ⟨rfl, h0⟩ | ⟨g, cap, cur, rfl, _⟩
  · exact ⟨none, 0, by rw [h0], fun i hi => by omega⟩
  · refine ⟨some ⟨g, 0, none⟩, cap, rfl, fun i hi => ?_⟩
    have hv : i < vs.length := by rw [← ha.1]; exact hi
    exact ⟨_, _, vs[i], rfl, h.cells (g := g) rfl i _ (List.getElem?_eq_getElem hv), ha.2 i _ _ (List.getElem?_eq_getElem hi) (List.getElem?_eq_getElem hv)⟩
theorem strs_slS {W : World} {base : Nat} {v : Value} {l : List ByteArray} (h : W.ownsRow base 9 1 v l.length (strs l)) : SlS W v l := slS_own h

set_option maxRecDepth 100000 in
set_option maxHeartbeats 4000000 in
theorem texts_law (w : World) (v : Value) (l : List Nd) (hv : SlN w v l) (hl : l.length ≤ 9223372036854775807) (hE : Et w) :
    Calls Tryd.prog 3 #[v] w fun e w' => e = .returned (.bool true) ∧ Only (fun _ => False) w w' := by
  have HV := Lib.hid hv
  have HE := Lib.hid hE
  obtain ⟨A, c, rfl, -⟩ := hv
  clear hE
  go_enter Tryd.func3, Tryd.ntmps3
  go_wp2_with fail
  refine (small_any _ _ l HV.out hl).mono ?_
  rintro e w1 ⟨⟨b, rfl, hb⟩, o1⟩
  cases b
  · go_wp2_with fail
    refine (awake01_any _ (HE.out.only o1 (fun f => f))).mono ?_
    rintro e w2 ⟨rfl, o2⟩
    go_wp2_with fail
    go_ret
    exact ⟨rfl, o1.trans o2⟩
  · obtain ⟨h24, hw⟩ := hb rfl
    have HFIT := Lib.hid (made_fit _ l rfl hw)
    have HSAME := Lib.hid (nodes_same _ l rfl).1
    have HTL := Lib.hid (madeT_length l)
    have HNL := Lib.hid (madeN_length l)
    clear hw hb
    go_wp2_with fail
    refine (made_any _ _ l (HV.out.only o1) (by omega)).mono ?_
    rintro e w2 ⟨u, vs, rfl, hown, hall, o2⟩
    have T2 := slT_own (by rw [HTL.out]; exact hown) hall
    obtain ⟨A1, d1, hu⟩ := own_shape hown
    subst hu
    clear hown hall
    go_wp2_with fail
    refine (rmade_any _ _ l ((HV.out.only o1).only o2) (by omega)).mono ?_
    rintro e w3 ⟨u2, rfl, hown, o3⟩
    have N3 := Lib.hid (show SlN w3 u2 (madeN l) from slN_own (by rw [HNL.out]; exact hown))
    have T3 := Lib.hid (T2.only o3)
    have O3 := Lib.hid ((o1.trans o2).trans o3)
    obtain ⟨A2, d2, hu⟩ := own_shape hown
    subst hu
    clear hown T2 o1 o2 o3
    go_wp2_with fail
    go_loopg [5] l.length (fun g i W => ∃ k : Nat, g = l.length - k ∧ k ≤ l.length ∧ i = .int .i64 k ∧ Only (fun _ => False) w3 W)
    case atStart => exact ⟨0, rfl, by omega, rfl, Only.refl _ _⟩
    case round =>
      obtain ⟨k, hgk, hk, rfl, ho⟩ := hrel
      have HGK := Lib.hid hgk
      have HO := Lib.hid ho
      clear hgk ho
      by_cases hlt : k < l.length
      · have hkt : k < (madeT l).length := by rw [HTL.out]; exact hlt
        obtain ⟨A', c', e', hT⟩ := T3.out
        obtain ⟨ad, av, z, hA1, cz, htr⟩ := hT k hkt
        injection e' with e1 e2 e3
        rw [← e1] at hA1
        subst hA1
        have hget := List.getElem?_eq_getElem hkt
        have hfit := HFIT.out k _ hget
        have hnode := HSAME.out.2 k _ hget
        generalize (madeT l)[k] = t at *
        have HTR := Lib.hid (htr.keep HO.out)
        have HND := Lib.hid hnode
        have HN := Lib.hid (fun W (o : Only (fun _ => False) w3 W) => N3.out.only o)
        have hpw : 2 ^ k ≤ 2 ^ 24 := Nat.pow_le_pow_right (by decide) (by omega)
        have HB1 := Lib.hid (show t.txt.size ≤ 4611686018427387904 by have := hfit.txt; omega)
        have HB2 := Lib.hid (show t.path.length ≤ 1000000 by have := hfit.path; omega)
        have HEW := Lib.hid (HE.out.only (O3.out.trans HO.out) (fun f => f))
        have cz' := HO.out.cell cz (fun f => f)
        have hk0 : (0 : Int) ≤ (k : Int) := by omega
        have hk1 : (k : Int) < (l.length : Int) := by omega
        have HCZ := Lib.hid cz'
        have HNL1 := Lib.hid (show (madeN l).length ≤ 1000000 by have := HNL.out; omega)
        clear cz htr hget hfit hnode hpw hT e1 e2 e3
        go_wp2_with fail
        refine (at_tr t _ av z HTR.out HEW.out).mono ?_
        rintro e wa ⟨rfl, oa⟩
        have Oa := Lib.hid (HO.out.trans oa)
        have TRa := Lib.hid (HTR.out.keep oa)
        have cza := oa.cell HCZ.out (fun f => f)
        have HCa := Lib.hid cza
        clear cz' oa
        go_wp2_with fail
        refine (rat_tr t _ _ (madeN l) k (HN.out _ Oa.out) HND.out HNL1.out).mono ?_
        rintro e wb ⟨rfl, rfl⟩
        go_wp2_with fail
        refine (text_tr t _ av z TRa.out HB1.out).mono ?_
        rintro e wb ⟨rfl, ob⟩
        have Ob := Lib.hid (Oa.out.trans ob)
        have TRb := Lib.hid (TRa.out.keep ob)
        have HCb := Lib.hid (ob.cell HCa.out (fun f => f))
        clear cza ob
        go_wp2_with fail
        refine (rtext_tr t _ _ (madeN l) k (HN.out _ Ob.out) HND.out HNL1.out HB1.out).mono ?_
        rintro e wc ⟨rfl, oc⟩
        have Oc := Lib.hid (Ob.out.trans oc)
        have TRc := Lib.hid (TRb.out.keep oc)
        have HCc := Lib.hid (oc.cell HCb.out (fun f => f))
        have czc := HCc.out
        clear oc
        go_wp2_with fail
        refine (path_tr t _ av z TRc.out HB2.out).mono ?_
        rintro e wd ⟨ua, rfl, owna, od⟩
        have Od := Lib.hid (Oc.out.trans od)
        have TRd := Lib.hid (TRc.out.keep od)
        have SA := Lib.hid (strs_slS owna)
        obtain ⟨Aa, da, hu⟩ := own_shape owna
        subst hu
        clear owna od czc
        go_wp2_with fail
        refine (rpath_tr t _ _ (madeN l) k (HN.out _ Od.out) HND.out HNL1.out HB2.out).mono ?_
        rintro e we ⟨ub, rfl, ownb, oe⟩
        have Oe := Lib.hid (Od.out.trans oe)
        have SB := Lib.hid (strs_slS ownb)
        have SA2 := Lib.hid (SA.out.only oe)
        obtain ⟨Ab, db, hu⟩ := own_shape ownb
        subst hu
        clear ownb oe
        go_wp2_with fail
        refine (texts_any _ _ _ _ _ SA2.out SB.out HB2.out HB2.out).mono ?_
        rintro e wf ⟨rfl, of_⟩
        have Of := Lib.hid (Oe.out.trans of_)
        clear of_
        rw [decide_eq_true (rfl : t.path = t.path)]
        generalize t.placeB = pb
        cases pb
        all_goals
          go_wp2_with fail
          go_roundg (l.length - (k + 1))
          case rel => exact ⟨k + 1, rfl, by omega, by go_num, Of.out⟩
          case measure => have := HGK.out; omega
      · obtain rfl : k = l.length := by omega
        go_wp2_with fail
        refine (awake01_any _ (HE.out.only (O3.out.trans HO.out) (fun f => f))).mono ?_
        rintro e w4 ⟨rfl, o4⟩
        go_wp2_with fail
        go_ret
        exact ⟨rfl, (O3.out.trans HO.out).trans o4⟩
end Go.Proofs.YthagbbeppklpmaaDoor
