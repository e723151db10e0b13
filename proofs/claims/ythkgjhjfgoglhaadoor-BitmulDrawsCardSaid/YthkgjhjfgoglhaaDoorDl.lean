/- The law trefoillaw24.BitmulDraws: its walk. -/
import Derived.Test.YthkgjhjfgoglhaaDoorDw
import Derived.Test.YthkgjhjfgoglhaaDoorAw
import Derived.ProofKit
import Derived.ChangeSlices
import Derived.OpenShut
set_option linter.unusedSimpArgs false
set_option linter.unusedVariables false
namespace Go.Proofs.YthkgjhjfgoglhaaDoor
open Go.RowKit Go.ChangeShapes Go.WideShapes

theorem ru_of {H : Type} {enc : TypeId × Value → H} {w : World} {A : Option Addr} {n c : Nat} {d : DataW H} {p : List MemPlace} (h : DataW.Trod enc Tryd.prog w 0 (fun _ => true) true 22 (.slice A n c) d p) :
    ∃ l, RU w (.slice A n c) l ∧ ∀ x ∈ l, 0 ≤ x ∧ x < 2 ^ 64 := by
  obtain ⟨fuel, hf⟩ := h
  rcases open_ints Tryd.underlying22 Tryd.underlying52 (by kernel_rfl) hf with ⟨h0, _⟩ | ⟨a, len, cap, zs, h0, _, hl, hm, hzl, _, hc, hw⟩
  · simp only [Value.cells, List.cons.injEq, and_true] at h0
    exact ⟨[], .inl ⟨h0, rfl⟩, fun x h => by cases h⟩
  · simp only [Value.cells, List.cons.injEq, and_true] at h0
    injection h0 with e1 e2 e3
    subst e1 e2 e3
    simp only [if_true] at hzl
    have htl : (zs.take n).length = n := by rw [List.length_take]; omega
    refine ⟨zs.take n, .inr ⟨a, c, by rw [htl], by rw [htl]; exact hl, fun k x hx => ?_⟩, fun x hx => ?_⟩
    · have hk : k < (zs.take n).length := by
        have := (List.getElem?_eq_some_iff.1 hx).1
        simpa [ucells] using this
      have hi : k < zs.length := by rw [htl] at hk; omega
      have e : x = .int .u64 zs[k] := by
        have h2 : (ucells (zs.take n))[k]? = some (.int .u64 zs[k]) := by
          rw [ucells, List.getElem?_map, List.getElem?_take, if_pos (by omega), List.getElem?_eq_getElem hi]
          rfl
        rw [h2] at hx
        exact (Option.some.inj hx).symm
      rw [hc k hi, e, List.getD_eq_getElem?_getD, List.getElem?_eq_getElem hi]
      rfl
    · have := bounds_u64 (hw x (List.mem_of_mem_take hx))
      omega
theorem drawQ_len (n : Int) (l : List Int) : (drawQ n l).a.length ≤ 4194304 ∧ (drawQ n l).b.length ≤ 4194304 ∧ (drawQ n l).c.length ≤ 4194304 := by
  unfold drawQ
  split
  · simp
  · split
    · simp
    · simp [drawP, evL, odL]; omega
theorem pf632 {w : World} {b q r : Nat} {t t' t2 : TypeId} {x0 x1 x2 x3 x4 x5 y0 y1 y2 z0 z1 : Value} (h : Has w b t #[x0, x1, x2, x3, x4, x5]) (h' : Has w q t' #[y0, y1, y2]) (h2 : Has w r t2 #[z0, z1]) : w.cell? ⟨b, 0, none⟩ = some x0 ∧ w.cell? ⟨b, 1, none⟩ = some x1 ∧ w.cell? ⟨b, 2, none⟩ = some x2 ∧ w.cell? ⟨b, 3, none⟩ = some x3 ∧ w.cell? ⟨b, 4, none⟩ = some x4 ∧ w.cell? ⟨b, 5, none⟩ = some x5 ∧ w.cell? ⟨q, 0, none⟩ = some y0 ∧ w.cell? ⟨q, 1, none⟩ = some y1 ∧ w.cell? ⟨q, 2, none⟩ = some y2 ∧ w.cell? ⟨r, 0, none⟩ = some z0 ∧ w.cell? ⟨r, 1, none⟩ = some z1 := ⟨h.cell 0, h.cell 1, h.cell 2, h.cell 3, h.cell 4, h.cell 5, h'.cell 0, h'.cell 1, h'.cell 2, h2.cell 0, h2.cell 1⟩
set_option maxRecDepth 100000 in
set_option maxHeartbeats 4000000 in
theorem draws_law (w : World) (n : Int) (v : Value) (l : List Int) (h : RU w v l) (hx : ∀ x ∈ l, 0 ≤ x ∧ x < 2 ^ 64) (hE : Et w) : Calls Tryd.prog 3 #[.int .i64 n, v] w fun e w' => e = .returned (.bool true) ∧ Only (fun _ => False) w w' := by
  have HE := Lib.hid hE
  have H0 := Lib.hid h
  obtain ⟨A, c, rfl⟩ := h.len0
  by_cases h7 : 700 < l.length
  · have h8 : (700 : Int) < (l.length : Int) := by omega
    clear h hE hx h7 H0
    go_enter Tryd.func3, Tryd.ntmps3
    go_wp2_with fail
    refine (awake_any w).mono ?_; rintro e w1 ⟨rfl, o1⟩
    go_wp2_with fail
    go_ret
    exact ⟨rfl, o1⟩
  · have h8 : ¬ (700 : Int) < (l.length : Int) := by omega
    have hl : l.length ≤ 1000000 := by omega
    have HT := Lib.hid (tnew_any w _ l h hl)
    have HD := Lib.hid (fun W T A c (ht : TapeAt W T A c l 0) => draw_all W T n A c l ht hl hx)
    have HR := Lib.hid (fun W (o : Only (fun _ => False) w W) => rdraw_all W n _ l (h.inner o) hl hx)
    have HL := Lib.hid (drawQ_len n l)
    clear h hE hx h7 hl H0
    generalize drawQ n l = p at *
    generalize drawC n l = cc at *
    generalize drawA n l = at2 at *
    go_enter Tryd.func3, Tryd.ntmps3
    go_wp2_with fail
    refine (HT.out).mono ?_; rintro e w1 ⟨⟨T, A1, c1, rfl, hT, ht⟩, o1⟩
    have HTA := Lib.hid ht
    have HE1 := Lib.hid (HE.out.only o1 (fun f => f))
    have HTT := Lib.hid hT
    have HO1 := Lib.hid o1
    clear ht hT o1 HT
    go_wp2_with fail
    refine (HD.out w1 T A1 c1 HTA.out).mono ?_; rintro e w2 ⟨⟨u, f, rfl, hp, hc⟩, ⟨x, y, hat⟩, o2⟩
    obtain ⟨D1, m1, d1, D2, m2, d2, D3, m3, d3, rfl⟩ := hp.lit
    have HE2 := Lib.hid (HE1.out.only o2 (by intro e; have e : 0 = T := e; have := HE.out.lt; have := HTT.out; omega))
    have HO2 := Lib.hid (HO1.out.then_ o2 (T := (· = T)) (S := fun _ => False) (fun i hi e => by have e : i = T := e; have := HTT.out; omega))
    have HP2 := Lib.hid hp
    have HC2 := Lib.hid hc
    have HT2 := Lib.hid hat
    clear hp hc hat o2 HE1 HO1 HTA HD
    generalize (p.a.length : Int) = la at *
    generalize (p.b.length : Int) = lb at *
    generalize (p.c.length : Int) = lc at *
    go_wp2_with fail
    have N3 := Has.new w2 32 #[.int .i64 la, .slice D1 m1 d1, .int .i64 lb, .slice D2 m2 d2, .int .i64 lc, .slice D3 m3 d3]
    have O3 := Lib.hid ((Only.refl (fun _ => False) w2).alloc (.cells #[.int .i64 la, .slice D1 m1 d1, .int .i64 lb, .slice D2 m2 d2, .int .i64 lc, .slice D3 m3 d3] 32))
    refine (HR.out _ (HO2.out.trans O3.out)).mono ?_; rintro e w3 ⟨⟨A3, k3, c3, u3, rfl, hq⟩, o3⟩
    obtain ⟨sa, sb, sc, rfl, ra, rb, rc⟩ := hq
    obtain ⟨B1, e1, rfl, -⟩ := ra.shape
    obtain ⟨B2, e2, rfl, -⟩ := rb.shape
    obtain ⟨B3, e3, rfl, -⟩ := rc.shape
    generalize (bcellsB p.a).length = na at *
    generalize (bcellsB p.b).length = nb at *
    generalize (bcellsB p.c).length = nc at *
    have P3 := o3.has N3 (fun f => f)
    have O3 := Lib.hid (O3.out.trans o3)
    have HQ3 := Lib.hid (show RefP w3 (.agg #[.slice B1 na e1, .slice B2 nb e2, .slice B3 nc e3]) p from ⟨_, _, _, rfl, ra, rb, rc⟩)
    clear ra rb rc o3 N3 HR
    generalize hW : ((w3.alloc (.cells #[.slice A3 k3 c3, .int .i64 at2] 36)).alloc (.cells #[.slice B1 na e1, .slice B2 nb e2, .slice B3 nc e3] 39)) = W4
    have P4 := (P3.alloc (.cells #[.slice A3 k3 c3, .int .i64 at2] 36)).alloc (.cells #[.slice B1 na e1, .slice B2 nb e2, .slice B3 nc e3] 39)
    have Q4 := has_new2 w3 (.cells #[.slice A3 k3 c3, .int .i64 at2] 36) 39 #[.slice B1 na e1, .slice B2 nb e2, .slice B3 nc e3]
    have R4 := (Has.new w3 36 #[.slice A3 k3 c3, .int .i64 at2]).alloc (.cells #[.slice B1 na e1, .slice B2 nb e2, .slice B3 nc e3] 39)
    have OO := ((Only.refl (fun _ => False) w3).alloc (.cells #[.slice A3 k3 c3, .int .i64 at2] 36)).alloc (.cells #[.slice B1 na e1, .slice B2 nb e2, .slice B3 nc e3] 39)
    rw [hW] at P4 Q4 R4 OO
    have O4 := Lib.hid (O3.out.trans OO)
    have T4 := O4.out.has HT2.out (fun f => f)
    have HS := Lib.hid (fun W (o : Only (fun _ => False) W4 W) => lsame_any W _ _ p (HP2.out.inner (O4.out.trans o)) (HQ3.out.inner (OO.trans o)) HL.out.1 HL.out.2.1 HL.out.2.2)
    have HCo := Lib.hid (fun W (o : Only (fun _ => False) W4 W) => code_at W f cc (HC2.out.inner (O4.out.trans o)) (HE2.out.only (O4.out.trans o) (fun f => f)))
    have HA := Lib.hid (fun W (h : Has W T 54 #[x, .int .i64 at2, y]) => at_any W T x at2 y h)
    have HOO := Lib.hid (HO2.out.trans O4.out)
    have P5 := P4.drew
    have Q5 := Q4.drew
    have R5 := R4.drew
    have T5 := T4.drew
    have O5 : Only (fun _ => False) W4 W4.drew := (Only.refl _ _).drew
    have HW := Lib.hid hW
    clear hW OO O4 HP2 HQ3 HL HC2 HE2 HT2 O3 P3 HE HTT HO2
    go_upto_region 8 with fail
    rw [HW.out]
    go_region_held3 (fun W => (W.cell? ⟨w2.heap.size, 0, none⟩ = some (.int .i64 la) ∧ W.cell? ⟨w2.heap.size, 1, none⟩ = some (.slice D1 m1 d1) ∧ W.cell? ⟨w2.heap.size, 2, none⟩ = some (.int .i64 lb) ∧ W.cell? ⟨w2.heap.size, 3, none⟩ = some (.slice D2 m2 d2) ∧ W.cell? ⟨w2.heap.size, 4, none⟩ = some (.int .i64 lc) ∧ W.cell? ⟨w2.heap.size, 5, none⟩ = some (.slice D3 m3 d3) ∧ W.cell? ⟨w3.heap.size + 1, 0, none⟩ = some (.slice B1 na e1) ∧ W.cell? ⟨w3.heap.size + 1, 1, none⟩ = some (.slice B2 nb e2) ∧ W.cell? ⟨w3.heap.size + 1, 2, none⟩ = some (.slice B3 nc e3) ∧ W.cell? ⟨w3.heap.size, 0, none⟩ = some (.slice A3 k3 c3) ∧ W.cell? ⟨w3.heap.size, 1, none⟩ = some (.int .i64 at2))) (first | with_reducible exact pf632 P4 Q4 R4 | with_reducible exact pf632 P5 Q5 R5 | with_reducible exact pf632 Pa Qa Ra | with_reducible exact pf632 Pb Qb Rb | with_reducible exact pf632 Pc Qc Rc) (first
      | (go_at_call 8; (with_reducible refine (HS.out _ O5).mono ?_); rintro e wa ⟨rfl, oa⟩; have Oa := O5.trans oa; have Pa := Only.has oa P5 (fun f => f); have Qa := Only.has oa Q5 (fun f => f); have Ra := Only.has oa R5 (fun f => f); have Ta := Only.has oa T5 (fun f => f))
      | (go_at_call 9; (with_reducible refine (HCo.out _ Oa).mono ?_); rintro e wb ⟨rfl, ob⟩; have Ob := Oa.trans ob; have Pb := Only.has ob Pa (fun f => f); have Qb := Only.has ob Qa (fun f => f); have Rb := Only.has ob Ra (fun f => f); have Tb := Only.has ob Ta (fun f => f))
      | (go_at_call 10; (with_reducible refine (HA.out _ Tb).mono ?_); rintro e wc ⟨rfl, rfl⟩)
      | (go_at_call 4; (with_reducible refine (awake_any _).mono ?_); rintro e wc ⟨rfl, oc⟩; have Oc := Ob.trans oc; have Pc := Only.has oc Pb (fun f => f); have Qc := Only.has oc Qb (fun f => f); have Rc := Only.has oc Rb (fun f => f)))
    go_wp2_with fail
    go_ret
    exact ⟨rfl, HOO.out.trans Oc⟩
end Go.Proofs.YthkgjhjfgoglhaaDoor
