/- The law's same of layer 24. -/
import Derived.Test.YthkgjhjfgoglhaaDoorBq
import Derived.BigQuiet
set_option linter.unusedSimpArgs false
set_option linter.unusedVariables false
namespace Go.Proofs.YthkgjhjfgoglhaaDoor
open Go.RowKit

theorem range_lf2 (l : List Bool) : (List.range l.length).map (fun i => Value.bool (lf l i)) = bcellsB l := by
  apply List.ext_getElem?
  intro i
  by_cases h : i < l.length
  · simp [h, bcellsB_at h]
  · rw [List.getElem?_eq_none (by simp; omega), List.getElem?_eq_none (by simp [bcellsB]; omega)]
theorem bools_reads (w : World) (v : Value) (l : List Bool) (h : VL w 0 v l) (hn : l.length ≤ 4194304) : Calls Tryd.prog 24 #[v] w fun x w' => (∃ g, x = .returned (.slice (some ⟨g, 0, none⟩) l.length l.length) ∧ Reads w' (.slice (some ⟨g, 0, none⟩) l.length l.length) (bcellsB l)) ∧ Only (fun _ => False) w w' := by
  refine (bbools_any w 0 l.length v (lf l) h hn).mono ?_
  rintro x w' ⟨⟨g, rfl, _, hr⟩, o⟩
  refine ⟨⟨g, rfl, ?_⟩, o⟩
  have := Reads.ofRow (n := l.length) (c := l.length) hr
  rw [range_lf2] at this
  exact this
theorem pf63 {w : World} {g g' : Nat} {t t' : TypeId} {x0 x1 x2 x3 x4 x5 y0 y1 y2 : Value} (h : Has w g t #[x0, x1, x2, x3, x4, x5]) (h' : Has w g' t' #[y0, y1, y2]) : w.cell? ⟨g, 0, none⟩ = some x0 ∧ w.cell? ⟨g, 1, none⟩ = some x1 ∧ w.cell? ⟨g, 2, none⟩ = some x2 ∧ w.cell? ⟨g, 3, none⟩ = some x3 ∧ w.cell? ⟨g, 4, none⟩ = some x4 ∧ w.cell? ⟨g, 5, none⟩ = some x5 ∧ w.cell? ⟨g', 0, none⟩ = some y0 ∧ w.cell? ⟨g', 1, none⟩ = some y1 ∧ w.cell? ⟨g', 2, none⟩ = some y2 := ⟨h.cell 0, h.cell 1, h.cell 2, h.cell 3, h.cell 4, h.cell 5, h'.cell 0, h'.cell 1, h'.cell 2⟩
set_option maxRecDepth 100000 in
set_option maxHeartbeats 4000000 in
theorem lsame_any (w : World) (va vb : Value) (p : Pt) (ha : PartV w 0 va p) (hb : RefP w vb p) (h1 : p.a.length ≤ 4194304) (h2 : p.b.length ≤ 4194304) (h3 : p.c.length ≤ 4194304) : Calls Tryd.prog 8 #[va, vb] w fun x w' => x = .returned (.bool true) ∧ Only (fun _ => False) w w' := by
  obtain ⟨a, b, c⟩ := p
  obtain ⟨A1, m1, c1, A2, m2, c2, A3, m3, c3, rfl, va, vb, vc⟩ := ha
  obtain ⟨sa, sb, sc, rfl, ra, rb, rc⟩ := hb
  obtain ⟨B1, k1, rfl, -⟩ := ra.shape
  obtain ⟨B2, k2, rfl, -⟩ := rb.shape
  obtain ⟨B3, k3, rfl, -⟩ := rc.shape
  simp only [bcellsB_length] at *
  have HA := Lib.hid (fun W (o : Only (fun _ => False) w W) => bools_reads W _ a (va.inner o) h1)
  have HB := Lib.hid (fun W (o : Only (fun _ => False) w W) => bools_reads W _ b (vb.inner o) h2)
  have HC := Lib.hid (fun W (o : Only (fun _ => False) w W) => bools_reads W _ c (vc.inner o) h3)
  have HSA := Lib.hid (fun W u (o : Only (fun _ => False) w W) (r : Reads W u (bcellsB a)) => same_eq W u _ a r (ra.inner o) (by omega))
  have HSB := Lib.hid (fun W u (o : Only (fun _ => False) w W) (r : Reads W u (bcellsB b)) => same_eq W u _ b r (rb.inner o) (by omega))
  have HSC := Lib.hid (fun W u (o : Only (fun _ => False) w W) (r : Reads W u (bcellsB c)) => same_eq W u _ c r (rc.inner o) (by omega))
  clear va vb vc ra rb rc h1 h2 h3
  generalize hW : ((w.alloc (.cells #[.int .i64 a.length, .slice A1 m1 c1, .int .i64 b.length, .slice A2 m2 c2, .int .i64 c.length, .slice A3 m3 c3] 32)).alloc (.cells #[.slice B1 a.length k1, .slice B2 b.length k2, .slice B3 c.length k3] 39)) = W2
  have P1 : Has W2 w.heap.size 32 #[.int .i64 a.length, .slice A1 m1 c1, .int .i64 b.length, .slice A2 m2 c2, .int .i64 c.length, .slice A3 m3 c3] := by rw [← hW]; exact (Has.new _ _ _).alloc _
  have Q1 : Has W2 (w.heap.size + 1) 39 #[.slice B1 a.length k1, .slice B2 b.length k2, .slice B3 c.length k3] := by rw [← hW]; exact has_new2 _ _ _ _
  have O1 : Only (fun _ => False) w W2 := by rw [← hW]; exact ((Only.refl _ _).alloc _).alloc _
  have P2 := P1.drew
  have Q2 := Q1.drew
  have O2 := O1.drew
  have HW := Lib.hid hW
  clear hW
  generalize a.length = na at *
  generalize b.length = nb at *
  generalize c.length = nc at *
  go_enter Tryd.func8, Tryd.ntmps8
  go_upto_region 1 with fail
  rw [HW.out]
  go_region_held3 (fun W => (W.cell? ⟨w.heap.size, 0, none⟩ = some (.int .i64 na) ∧ W.cell? ⟨w.heap.size, 1, none⟩ = some (.slice A1 m1 c1) ∧ W.cell? ⟨w.heap.size, 2, none⟩ = some (.int .i64 nb) ∧ W.cell? ⟨w.heap.size, 3, none⟩ = some (.slice A2 m2 c2) ∧ W.cell? ⟨w.heap.size, 4, none⟩ = some (.int .i64 nc) ∧ W.cell? ⟨w.heap.size, 5, none⟩ = some (.slice A3 m3 c3) ∧ W.cell? ⟨w.heap.size + 1, 0, none⟩ = some (.slice B1 na k1) ∧ W.cell? ⟨w.heap.size + 1, 1, none⟩ = some (.slice B2 nb k2) ∧ W.cell? ⟨w.heap.size + 1, 2, none⟩ = some (.slice B3 nc k3))) (first | with_reducible exact pf63 P1 Q1 | with_reducible exact pf63 P2 Q2 | with_reducible exact pf63 Pa Qa | with_reducible exact pf63 Pb Qb | with_reducible exact pf63 Pc Qc | with_reducible exact pf63 Pd Qd | with_reducible exact pf63 Pe Qe | with_reducible exact pf63 Pf Qf) (first
    | (go_at_call 24; (with_reducible refine (HA.out _ O2).mono ?_); rintro e wa ⟨⟨ga, rfl, hga⟩, oa⟩; have Oa := O2.trans oa; have Pa : Has wa w.heap.size 32 _ := Only.has oa P2 (fun f => f); have Qa : Has wa (w.heap.size + 1) 39 _ := Only.has oa Q2 (fun f => f))
    | (go_at_call 23; (with_reducible refine (HSA.out _ _ Oa hga).mono ?_); rintro e wb ⟨rfl, ob⟩; have Ob := Oa.trans ob; have Pb : Has wb w.heap.size 32 _ := Only.has ob Pa (fun f => f); have Qb : Has wb (w.heap.size + 1) 39 _ := Only.has ob Qa (fun f => f))
    | (go_at_call 24; (with_reducible refine (HB.out _ Ob).mono ?_); rintro e wc ⟨⟨gc, rfl, hgc⟩, oc⟩; have Oc := Ob.trans oc; have Pc : Has wc w.heap.size 32 _ := Only.has oc Pb (fun f => f); have Qc : Has wc (w.heap.size + 1) 39 _ := Only.has oc Qb (fun f => f))
    | (go_at_call 23; (with_reducible refine (HSB.out _ _ Oc hgc).mono ?_); rintro e wd ⟨rfl, od⟩; have Od := Oc.trans od; have Pd : Has wd w.heap.size 32 _ := Only.has od Pc (fun f => f); have Qd : Has wd (w.heap.size + 1) 39 _ := Only.has od Qc (fun f => f))
    | (go_at_call 24; (with_reducible refine (HC.out _ Od).mono ?_); rintro e we ⟨⟨ge, rfl, hge⟩, oe⟩; have Oe := Od.trans oe; have Pe : Has we w.heap.size 32 _ := Only.has oe Pd (fun f => f); have Qe : Has we (w.heap.size + 1) 39 _ := Only.has oe Qd (fun f => f))
    | (go_at_call 23; (with_reducible refine (HSC.out _ _ Oe hge).mono ?_); rintro e wf ⟨rfl, of⟩; have Of := Oe.trans of; have Pf : Has wf w.heap.size 32 _ := Only.has of Pe (fun f => f); have Qf : Has wf (w.heap.size + 1) 39 _ := Only.has of Qe (fun f => f)))
  go_wp2_with fail
  go_ret
  exact ⟨rfl, Of⟩
end Go.Proofs.YthkgjhjfgoglhaaDoor
