/- The law trefoillaw24.BitmulWrong: its walk. -/
import Derived.Test.YthkgjhjfgoglhaaSw
import Derived.BigQuiet
set_option linter.unusedSimpArgs false
set_option linter.unusedVariables false
namespace Go.Proofs.Ythkgjhjfgoglhaa
open Go.RowKit

theorem range_lf (l : List Bool) : (List.range l.length).map (fun i => Value.bool (lf l i)) = bcellsB l := by
  apply List.ext_getElem?
  intro i
  by_cases h : i < l.length
  · simp [h, bcellsB_at h]
  · rw [List.getElem?_eq_none (by simp; omega), List.getElem?_eq_none (by simp [bcellsB]; omega)]
def rO (o : Option (List Bool)) : List Bool := o.getD []
def codeO (o : Option (List Bool)) : Int := if o.isSome = true then 0 else 11
theorem wrong_uni {o : Option (List Bool)} {B : Nat} {e : Ending} {W : World} (h : WrongPost o B e W) : ∃ A k c, e = .returned (.tuple #[.agg #[.int .i64 (rO o).length, .slice A k c], .int .i64 (codeO o)]) ∧ VL W B (.agg #[.int .i64 (rO o).length, .slice A k c]) (rO o) := by
  cases o with
  | none => exact ⟨none, 0, 0, h, .inl ⟨rfl, rfl⟩⟩
  | some l =>
    obtain ⟨v, rfl, hv⟩ := h
    obtain ⟨A, k, c, rfl⟩ := hv.shape
    exact ⟨A, k, c, rfl, hv⟩
theorem rwrong_uni {o : Option (List Bool)} {e : Ending} {W : World} (h : RWrongPost o e W) : ∃ A c, e = .returned (.tuple #[.slice A (rO o).length c, .int .i64 (codeO o)]) ∧ Reads W (.slice A (rO o).length c) (bcellsB (rO o)) := by
  cases o with
  | none => exact ⟨none, 0, h, ⟨none, 0, rfl, .inl rfl⟩⟩
  | some l =>
    obtain ⟨v, rfl, hv⟩ := h
    obtain ⟨A, c, rfl, _⟩ := hv.shape
    rw [bcellsB_length] at hv ⊢
    exact ⟨A, c, rfl, hv⟩
theorem rO_le {p q : Pt} (h : p.a.length ≤ 300) : (rO (wrongM p q)).length ≤ 4194304 := by
  unfold wrongM
  split
  · rename_i hc
    obtain ⟨h1, h2, h3, h4, h5⟩ := hc
    show (xorL (andL (xorL p.a q.a) (xorL p.b q.b)) (xorL p.c q.c)).length ≤ 4194304
    have e1 := xorL_len h1
    have e2 := xorL_len h2
    have e3 := xorL_len h3
    have e4 : (andL (xorL p.a q.a) (xorL p.b q.b)).length = (xorL p.a q.a).length := andL_len (by omega)
    have e5 : (xorL (andL (xorL p.a q.a) (xorL p.b q.b)) (xorL p.c q.c)).length = (andL (xorL p.a q.a) (xorL p.b q.b)).length := xorL_len (by omega)
    omega
  · show ([] : List Bool).length ≤ 4194304
    simp
theorem pf33 {w : World} {g g' : Nat} {t t' : TypeId} {x0 x1 x2 y0 y1 y2 : Value} (h : Has w g t #[x0, x1, x2]) (h' : Has w g' t' #[y0, y1, y2]) : w.cell? ⟨g, 0, none⟩ = some x0 ∧ w.cell? ⟨g, 1, none⟩ = some x1 ∧ w.cell? ⟨g, 2, none⟩ = some x2 ∧ w.cell? ⟨g', 0, none⟩ = some y0 ∧ w.cell? ⟨g', 1, none⟩ = some y1 ∧ w.cell? ⟨g', 2, none⟩ = some y2 := ⟨h.cell 0, h.cell 1, h.cell 2, h'.cell 0, h'.cell 1, h'.cell 2⟩
abbrev ZVec (w : World) (b : Nat) : Prop := Has w b 29 #[.int .i64 0, .slice none 0 0]
set_option maxRecDepth 100000 in
set_option maxHeartbeats 40000000 in
theorem wrongLaw_any (w : World) (va vb : Value) (p q : Pt) (ha : RefP w va p) (hb : RefP w vb q) : Calls Try.prog 3 #[va, vb] w fun x w' => x = .returned (.bool true) ∧ Only (fun _ => False) w w' := by
  have HPA := Lib.hid (fun W (o : Only (fun _ => False) w W) => ha.inner o)
  have HPB := Lib.hid (fun W (o : Only (fun _ => False) w W) => hb.inner o)
  obtain ⟨sa, sb, sc, rfl, ra, rb, rc⟩ := ha
  obtain ⟨ta, tb, tc, rfl, ua, ub, uc⟩ := hb
  obtain ⟨A1, k1, rfl, ya⟩ := ra.shape
  obtain ⟨A2, k2, rfl, yb⟩ := rb.shape
  obtain ⟨A3, k3, rfl, yc⟩ := rc.shape
  obtain ⟨A4, k4, rfl, _⟩ := ua.shape
  obtain ⟨A5, k5, rfl, _⟩ := ub.shape
  obtain ⟨A6, k6, rfl, _⟩ := uc.shape
  simp only [bcellsB_length] at *
  have HYA := Lib.hid (fun k (hk : k < p.a.length) => ya k _ (bcellsB_at hk))
  have HYB := Lib.hid (fun k (hk : k < p.b.length) => yb k _ (bcellsB_at hk))
  have HYC := Lib.hid (fun k (hk : k < p.c.length) => yc k _ (bcellsB_at hk))
  clear ra rb rc ua ub uc ya yb yc
  generalize hW : ((w.alloc (.cells #[.slice A1 p.a.length k1, .slice A2 p.b.length k2, .slice A3 p.c.length k3] 24)).alloc (.cells #[.slice A4 q.a.length k4, .slice A5 q.b.length k5, .slice A6 q.c.length k6] 24)) = W3
  have P3 : Has W3 w.heap.size 24 #[.slice A1 p.a.length k1, .slice A2 p.b.length k2, .slice A3 p.c.length k3] := by rw [← hW]; exact (Has.new _ _ _).alloc _
  have Q3 : Has W3 (w.heap.size + 1) 24 #[.slice A4 q.a.length k4, .slice A5 q.b.length k5, .slice A6 q.c.length k6] := by rw [← hW]; exact has_new2 _ _ _ _
  have O3 : Only (fun _ => False) w W3 := by rw [← hW]; exact ((Only.refl _ _).alloc _).alloc _
  have HW := Lib.hid hW
  clear hW
  go_enter Try.func3, Try.ntmps3
  go_upto_region 1 with fail
  rw [HW.out]
  obtain ⟨p0, p1, p2⟩ := part_facts P3
  obtain ⟨q0, q1, q2⟩ := part_facts Q3
  go_wp2_with fail
  refine (short_any _ _ p (HPA.out _ O3)).mono ?_; rintro e w4 ⟨rfl, o4⟩
  have P4 := o4.has P3 (fun f => f)
  have Q4 := o4.has Q3 (fun f => f)
  have O4 := O3.trans o4
  clear p0 p1 p2 q0 q1 q2
  obtain ⟨p0, p1, p2⟩ := part_facts P4
  obtain ⟨q0, q1, q2⟩ := part_facts Q4
  clear o4 P3 Q3 O3
  cases hsp : shortB p
  · clear hsp
    go_wp2_with fail
    refine (awake_any _).mono ?_; rintro e w5 ⟨rfl, o5⟩
    go_wp2_with fail
    go_ret
    exact ⟨rfl, O4.trans o5⟩
  go_wp2_with fail
  refine (short_any _ _ q (HPB.out _ O4)).mono ?_; rintro e w5 ⟨rfl, o5⟩
  have P5 := o5.has P4 (fun f => f)
  have Q5 := o5.has Q4 (fun f => f)
  have O5 := O4.trans o5
  clear p0 p1 p2 q0 q1 q2
  obtain ⟨p0, p1, p2⟩ := part_facts P5
  obtain ⟨q0, q1, q2⟩ := part_facts Q5
  clear o5 P4 Q4 O4
  cases hsq : shortB q
  · clear hsp hsq
    go_wp2_with fail
    refine (awake_any _).mono ?_; rintro e w6 ⟨rfl, o6⟩
    go_wp2_with fail
    go_ret
    exact ⟨rfl, O5.trans o6⟩
  have HLP : Hid (p.a.length ≤ 300 ∧ p.b.length ≤ 300 ∧ p.c.length ≤ 300) := Lib.hid (by unfold shortB at hsp; simpa [and_assoc] using hsp)
  have HLQ : Hid (q.a.length ≤ 300 ∧ q.b.length ≤ 300 ∧ q.c.length ≤ 300) := Lib.hid (by unfold shortB at hsq; simpa [and_assoc] using hsq)
  clear hsp hsq
  have HFP := Lib.hid (fun W (o : Only (fun _ => False) w W) => of_any W _ p (HPA.out W o) (by have := HLP.out; omega) (by have := HLP.out; omega) (by have := HLP.out; omega))
  have HFQ := Lib.hid (fun W (o : Only (fun _ => False) w W) => of_any W _ q (HPB.out W o) (by have := HLQ.out; omega) (by have := HLQ.out; omega) (by have := HLQ.out; omega))
  have HWR := Lib.hid (fun W base a b (ha : PartV W base a p) (hb : PartV W base b q) => wrong_any W base a b p q ha hb (by have := HLP.out; omega) (by have := HLP.out; omega) (by have := HLP.out; omega))
  have HP5 := Lib.hid P5
  have HQ5 := Lib.hid Q5
  have HO5 := Lib.hid O5
  go_wp2_with fail
  have HNE : (24 : TypeId) ≠ 29 := by decide
  have hP50 := P5
  have hP5 := P5.drew
  have hQ50 := Q5
  have hQ5 := Q5.drew
  have O50 := O5
  have OR50 : Only (fun _ => False) w5 w5 := Only.refl _ _
  have OD5 : Only (fun _ => False) w w5.drew := O5.drew
  have OR5 : Only (fun _ => False) w5 w5.drew := (Only.refl _ _).drew
  go_cut [5, 6] (fun s e W => ∃ (n1 : Nat) (A : Option Addr) (kk cc : Nat), s = .pointer (some ⟨n1, 0, none⟩) ∧ e = .int .i64 (codeO (wrongM p q)) ∧ Has W n1 29 #[.int .i64 (rO (wrongM p q)).length, .slice A kk cc] ∧ VL W 0 (.agg #[.int .i64 (rO (wrongM p q)).length, .slice A kk cc]) (rO (wrongM p q)) ∧ Only (fun _ => False) w5 W)
  case first =>
    go_region_held3 (fun W => (W.cell? ⟨w.heap.size, 0, none⟩ = some (.slice A1 p.a.length k1) ∧ W.cell? ⟨w.heap.size, 1, none⟩ = some (.slice A2 p.b.length k2) ∧ W.cell? ⟨w.heap.size, 2, none⟩ = some (.slice A3 p.c.length k3) ∧ W.cell? ⟨w.heap.size + 1, 0, none⟩ = some (.slice A4 q.a.length k4) ∧ W.cell? ⟨w.heap.size + 1, 1, none⟩ = some (.slice A5 q.b.length k5) ∧ W.cell? ⟨w.heap.size + 1, 2, none⟩ = some (.slice A6 q.c.length k6))) (first | with_reducible exact pf33 hP5 hQ5 | with_reducible exact pf33 (Has.drew (Has.alloc hP50 _)) (Has.drew (Has.alloc hQ50 _)) | with_reducible exact pf33 Pa Qa | with_reducible exact pf33 (Has.alloc Pa _) (Has.alloc Qa _) | with_reducible exact pf33 Pb Qb | with_reducible exact pf33 (Has.alloc Pb _) (Has.alloc Qb _) | with_reducible exact pf33 Pc Qc | with_reducible exact pf33 (Has.alloc Pc _) (Has.alloc Qc _) | with_reducible exact pf33 (Has.off2 Pc (has_ne Pc Zc1 HNE) _ _) (Has.off2 Qc (has_ne Qc Zc1 HNE) _ _) | with_reducible exact pf33 (Has.off2 Pc (has_ne Pc Zc2 HNE) _ _) (Has.off2 Qc (has_ne Qc Zc2 HNE) _ _) | with_reducible exact pf33 (Has.off2 Pc (has_ne Pc Zc3 HNE) _ _) (Has.off2 Qc (has_ne Qc Zc3 HNE) _ _)) (first
      | (go_at_call 9; (with_reducible refine (HFP.out _ (by first | with_reducible exact OD5 | with_reducible exact (Only.alloc O50 _).drew)).mono ?_); rintro e wa ⟨⟨ua, rfl, hua⟩, oa⟩; have Oa : Only (fun _ => False) w5 wa := Only.trans (by first | with_reducible exact OR5 | with_reducible exact (Only.alloc OR50 _).drew) oa; have Pa : Has wa w.heap.size 24 _ := Only.has oa (by first | with_reducible exact hP5 | with_reducible exact (Has.alloc hP50 _).drew) (fun f => f); have Qa : Has wa (w.heap.size + 1) 24 _ := Only.has oa (by first | with_reducible exact hQ5 | with_reducible exact (Has.alloc hQ50 _).drew) (fun f => f); (obtain ⟨X1, x1, z1, X2, x2, z2, X3, x3, z3, rfl⟩ := hua.lit); first | (have Za : Has wa w5.heap.size 29 #[.int .i64 0, .slice none 0 0] := Only.has oa (by first | with_reducible exact (Has.new _ _ _).drew) (fun f => f); obtain ⟨y0, y1, yf⟩ := Has.facts2 Za) | skip)
      | (go_at_call 9; (with_reducible refine (HFQ.out _ (by exact Only.trans HO5.out (by first | exact Oa | exact Oa.alloc _))).mono ?_); rintro e wb ⟨⟨ub, rfl, hub⟩, ob⟩; have Oab : Only (fun _ => False) wa wb := Only.trans (by first | exact Only.refl _ _ | exact (Only.refl _ _).alloc _) ob; have Ob : Only (fun _ => False) w5 wb := Only.trans Oa Oab; have Pb : Has wb w.heap.size 24 _ := Only.has ob (by first | with_reducible exact Pa | with_reducible exact Has.alloc Pa _) (fun f => f); have Qb : Has wb (w.heap.size + 1) 24 _ := Only.has ob (by first | with_reducible exact Qa | with_reducible exact Has.alloc Qa _) (fun f => f); (obtain ⟨X4, x4, z4, X5, x5, z5, X6, x6, z6, rfl⟩ := hub.lit); first | (have Zb1 : Has wb w5.heap.size 29 #[.int .i64 0, .slice none 0 0] := Only.has ob Za (fun f => f); obtain ⟨y0, y1, yf⟩ := Has.facts2 Zb1) | (have Zb2 : Has wb wa.heap.size 29 #[.int .i64 0, .slice none 0 0] := Only.has ob (Has.new _ _ _) (fun f => f); obtain ⟨y0, y1, yf⟩ := Has.facts2 Zb2) | skip)
      | (go_at_call 8; (with_reducible refine (HWR.out _ 0 _ _ (by first | exact (hua.inner Oab).mono (Nat.zero_le _) | exact ((hua.inner Oab).inner ((Only.refl _ _).alloc _)).mono (Nat.zero_le _)) (by first | exact hub.mono (Nat.zero_le _) | exact (hub.inner ((Only.refl _ _).alloc _)).mono (Nat.zero_le _))).mono ?_); rintro e wc0 ⟨hwr, oc⟩; have Obc : Only (fun _ => False) wb wc0 := Only.trans (by first | exact Only.refl _ _ | exact (Only.refl _ _).alloc _) oc; have Oc : Only (fun _ => False) w5 wc0 := Only.trans Ob Obc; have Pc : Has wc0 w.heap.size 24 _ := Only.has oc (by first | with_reducible exact Pb | with_reducible exact Has.alloc Pb _) (fun f => f); have Qc : Has wc0 (w.heap.size + 1) 24 _ := Only.has oc (by first | with_reducible exact Qb | with_reducible exact Has.alloc Qb _) (fun f => f); (obtain ⟨Ax, kx, cx, rfl, hvx⟩ := wrong_uni hwr); first | (have Zc1 : Has wc0 w5.heap.size 29 #[.int .i64 0, .slice none 0 0] := Only.has oc Zb1 (fun f => f); obtain ⟨y0, y1, yf⟩ := Has.facts2 Zc1) | (have Zc2 : Has wc0 wa.heap.size 29 #[.int .i64 0, .slice none 0 0] := Only.has oc Zb2 (fun f => f); obtain ⟨y0, y1, yf⟩ := Has.facts2 Zc2) | (have Zc3 : Has wc0 wb.heap.size 29 #[.int .i64 0, .slice none 0 0] := Only.has oc (Has.new _ _ _) (fun f => f); obtain ⟨y0, y1, yf⟩ := Has.facts2 Zc3) | skip))
    all_goals
      go_wp2_with fail
      go_meet
      first
        | exact ⟨w5.heap.size, Ax, kx, cx, rfl, rfl, Has.put2 Zc1 rfl _ _, (VL.put hvx (Only.put2 _ w5.heap.size (.int .i64 (rO (wrongM p q)).length) (.slice Ax kx cx)) (Zb1.lt)).mono (Nat.zero_le _), Oc.then_ (Only.put2 _ w5.heap.size (.int .i64 (rO (wrongM p q)).length) (.slice Ax kx cx)) (fun i hi e => absurd hi (by have : i = w5.heap.size := e; omega))⟩
        | exact ⟨wa.heap.size, Ax, kx, cx, rfl, rfl, Has.put2 Zc2 rfl _ _, (VL.put hvx (Only.put2 _ wa.heap.size (.int .i64 (rO (wrongM p q)).length) (.slice Ax kx cx)) (Zb2.lt)).mono (Nat.zero_le _), Oc.then_ (Only.put2 _ wa.heap.size (.int .i64 (rO (wrongM p q)).length) (.slice Ax kx cx)) (fun i hi e => absurd hi (by have : i = wa.heap.size := e; have := Oa.size; omega))⟩
        | exact ⟨wb.heap.size, Ax, kx, cx, rfl, rfl, Has.put2 Zc3 rfl _ _, (VL.put hvx (Only.put2 _ wb.heap.size (.int .i64 (rO (wrongM p q)).length) (.slice Ax kx cx)) (by simp)).mono (Nat.zero_le _), Oc.then_ (Only.put2 _ wb.heap.size (.int .i64 (rO (wrongM p q)).length) (.slice Ax kx cx)) (fun i hi e => absurd hi (by have : i = wb.heap.size := e; have := Ob.size; omega))⟩
        | exact ⟨wc0.heap.size, Ax, kx, cx, rfl, rfl, Has.new _ _ _, (hvx.inner ((Only.refl _ _).alloc _)).mono (Nat.zero_le _), Oc.alloc _⟩
  case rest =>
  obtain ⟨n1, A, kk, cc, rfl, rfl, N7, V7, o7⟩ := hcut
  have HRW := Lib.hid (fun W (o : Only (fun _ => False) w W) => rwrong_any W _ _ p q (HPA.out W o) (HPB.out W o) (by have := HLP.out; omega) (by have := HLP.out; omega) (by have := HLP.out; omega))
  have HLEN := Lib.hid (rO_le (p := p) (q := q) HLP.out.1)
  have O7 := O5.trans o7
  have P7 := o7.has P5 (fun f => f)
  have Q7 := o7.has Q5 (fun f => f)
  clear hP5 hP50 hQ5 hQ50 OD5 OR5 O50 OR50 HNE HP5 HQ5 HO5 o7 O5 P5 Q5 p0 p1 p2 q0 q1 q2
  obtain ⟨p0, p1, p2⟩ := part_facts P7
  obtain ⟨q0, q1, q2⟩ := part_facts Q7
  have HN7 := Lib.hid N7
  have HV7 := Lib.hid V7
  clear N7 V7
  go_wp2_with fail
  refine (HRW.out _ O7).mono ?_; rintro e w8 ⟨hp8, o8⟩
  obtain ⟨B8, c8, rfl, hr8⟩ := rwrong_uni hp8
  have O8 := O7.trans o8
  have P8 := o8.has P7 (fun f => f)
  have N8 := o8.has HN7.out (fun f => f)
  have HV8 := Lib.hid (HV7.out.inner o8)
  have HR8 := Lib.hid hr8
  clear hp8 hr8 HRW o8 HN7 HV7 O7 P7 Q7 p0 p1 p2 q0 q1 q2
  obtain ⟨n0, n01, _⟩ := N8.facts2
  have HX := Lib.hid (fun W (o : Only (fun _ => False) w8 W) => bbools_any W 0 _ _ _ (HV8.out.inner o) HLEN.out)
  generalize codeO (wrongM p q) = cd at *
  generalize rO (wrongM p q) = r at *
  go_wp2_with fail
  refine (HX.out _ (Only.refl _ _)).mono ?_; rintro e w9 ⟨⟨g9, rfl, hg9, hr9⟩, o9⟩
  have R9 := Reads.ofRow (n := r.length) (c := r.length) hr9
  rw [range_lf] at R9
  have HR9 := Lib.hid R9
  have O9 := O8.trans o9
  have P9 := o9.has P8 (fun f => f)
  have HR89 := Lib.hid (HR8.out.inner o9)
  clear R9 hr9 o9 O8 P8 HR8 HX n0 n01
  go_wp2_with fail
  refine (same_eq _ _ _ r HR9.out HR89.out (by have := HLEN.out; omega)).mono ?_; rintro e w10 ⟨rfl, o10⟩
  have O10 := O9.trans o10
  have P10 := o10.has P9 (fun f => f)
  obtain ⟨p0, p1, p2⟩ := part_facts P10
  clear HR9 HR89 o10 O9 P9 HLEN HV8
  go_wp2_with fail
  refine (HFP.out _ O10).mono ?_; rintro e w11 ⟨⟨v11, rfl, hv11⟩, o11⟩
  obtain ⟨X1, x1, z1, X2, x2, z2, X3, x3, z3, rfl⟩ := hv11.lit
  have O11 := O10.trans o11
  have P11 := o11.has P10 (fun f => f)
  have HV11 := Lib.hid hv11
  clear hv11 o11 O10 P10 p0 p1 p2
  go_wp2_with fail
  refine (shares_any _ _ _ p HV11.out HLP.out.1 HLP.out.2.1 HLP.out.2.2).mono ?_; rintro e w12 ⟨hp12, o12⟩
  have O12 := O11.trans o12
  have P12 := o12.has P11 (fun f => f)
  have HP12 := Lib.hid P12
  obtain ⟨p0, p1, p2⟩ := part_facts P12
  clear HV11 o12 O11 P11 P12
  unfold SharesPost at hp12
  by_cases hok : sharesOk p
  rotate_left
  · rw [if_neg hok] at hp12
    subst hp12
    have hways : ((p.b.length : Int) != (p.a.length : Int)) = true ∨ (((p.b.length : Int) != (p.a.length : Int)) = false ∧ ((p.c.length : Int) != (p.a.length : Int)) = true ∧ ((p.c.length : Int) != 0) = true) := by
      unfold sharesOk at hok
      by_cases h1 : p.b.length = p.a.length
      · have h2 : ¬ p.c.length = p.a.length := fun h => hok ⟨h1, .inl h⟩
        have h3 : ¬ p.c.length = 0 := fun h => hok ⟨h1, .inr h⟩
        refine .inr ⟨by rw [h1]; simp, ?_, ?_⟩
        · have : (p.c.length : Int) ≠ (p.a.length : Int) := by omega
          simpa using this
        · have : (p.c.length : Int) ≠ 0 := by omega
          simpa using this
      · have : (p.b.length : Int) ≠ (p.a.length : Int) := by omega
        exact .inl (by simpa using this)
    clear hok
    rcases hways with h1 | ⟨h1, h2, h3⟩
    all_goals
      go_wp2_with fail
      refine (awake_any _).mono ?_; rintro e w13 ⟨rfl, o13⟩
      go_wp2_with fail
      go_ret
      exact ⟨rfl, O12.trans o13⟩
  rw [if_pos hok] at hp12
  obtain ⟨A9, c9, xs, rfl, hrd, hws⟩ := hp12
  have HRD := Lib.hid hrd
  have HWS := Lib.hid hws
  have HOK := Lib.hid hok
  clear hrd hws
  have hways : ((p.b.length : Int) != (p.a.length : Int)) = false ∧ (((p.c.length : Int) != (p.a.length : Int)) = false ∨ (((p.c.length : Int) != (p.a.length : Int)) = true ∧ ((p.c.length : Int) != 0) = false)) := by
    obtain ⟨h1, h2⟩ := hok
    refine ⟨by rw [h1]; simp, ?_⟩
    by_cases h3 : p.c.length = p.a.length
    · exact .inl (by rw [h3]; simp)
    · rcases h2 with h2 | h2
      · exact absurd h2 h3
      · refine .inr ⟨?_, by rw [h2]; rfl⟩
        have : (p.c.length : Int) ≠ (p.a.length : Int) := by omega
        simpa using this
  clear hok
  go_upto_region 8 with fail
  go_cut [72] (fun s W => s = .bool false ∧ W = w12)
  case first =>
    obtain ⟨h1, h2 | ⟨h2, h3⟩⟩ := hways
    all_goals
      go_wp2_with fail
      go_meet
      exact ⟨rfl, rfl⟩
  case rest =>
  obtain ⟨rfl, hwc⟩ := hcut
  clear hways p0 p1 p2
  have p0 : wc.cell? ⟨w.heap.size, 0, none⟩ = some (.slice A1 p.a.length k1) := by rw [hwc]; exact (part_facts HP12.out).1
  have OR : Only (fun _ => False) w12 wc := by rw [hwc]; exact Only.refl _ _
  clear hwc
  go_wp2_with fail
  go_loopw [11] (fun i W => ∃ k : Nat, k ≤ p.a.length ∧ i = .int .i64 k ∧ Only (fun _ => False) w12 W) (fun i _ => p.a.length - (intOf i).toNat)
  case atStart => exact ⟨0, by omega, rfl, OR⟩
  case round =>
    obtain ⟨k, hk, rfl, ho⟩ := hrel
    have hk' : k < p.a.length ∨ ¬ k < p.a.length := by omega
    rcases hk' with hlt | hge
    · have hki : (k : Int) < (p.a.length : Int) := by omega
      have hk300 : p.a.length ≤ 300 := HLP.out.1
      have hbk : p.b.length = p.a.length ∧ (p.c.length = p.a.length ∨ p.c.length = 0) := HOK.out
      obtain ⟨hbe, hce⟩ := hbk
      have hkb : (k : Int) < (p.b.length : Int) := by omega
      obtain ⟨P1, P2, P3⟩ := part_facts (ho.has HP12.out (fun f => f))
      obtain ⟨a1, rfl, ya⟩ := HYA.out k hlt
      obtain ⟨b1, rfl, yb⟩ := HYB.out k (by omega)
      have ya' := (O12.trans ho).cell ya (fun f => f)
      have yb' := (O12.trans ho).cell yb (fun f => f)
      obtain ⟨g, rfl, hcells⟩ : ∃ g, A9 = some ⟨g, 0, none⟩ ∧ ∀ k x, xs[k]? = some x → w12.cell? ⟨g, k, none⟩ = some x := HRD.out.resolve_left (by omega)
      obtain ⟨ga, gb, vc, x1, x2, x3, Ga, Gb, T⟩ := HWS.out k hlt
      have y1 := ho.cell (hcells _ _ x1) (fun f => f)
      have y2 := ho.cell (hcells _ _ x2) (fun f => f)
      have y3 := ho.cell (hcells _ _ x3) (fun f => f)
      have IA := Lib.hid (fun n => (is_any (wr.drewN n) ga 1 1 _ (Has.drewN (ho.has Ga (fun f => f)) n)).mono fun e w' h => (⟨h.1, h.2.symm⟩ : e = .returned (.bool true) ∧ w' = wr.drewN n))
      have IB := Lib.hid (fun n => (is_any (wr.drewN n) gb 1 1 _ (Has.drewN (ho.has Gb (fun f => f)) n)).mono fun e w' h => (⟨h.1, h.2.symm⟩ : e = .returned (.bool true) ∧ w' = wr.drewN n))
      simp only [sl1] at y1 y2
      clear hcells x1 x2 x3 Ga Gb ya yb
      rcases T with ⟨hc0, rfl⟩ | ⟨hc0, gc, rfl, Gc⟩
      · have hcI : ((p.c.length : Int) == 0) = true := by rw [hc0]; rfl
        have hcJ : decide ((p.c.length : Int) > 0) = false := by rw [hc0]; rfl
        generalize p.c.length = nc at *
        subst hc0
        generalize lf p.a k = ba at *
        generalize lf p.b k = bb at *
        clear hce hbe
        go_wp2_with fail
        go_big_quiet (first | (go_at_call_of 14 (Value.slice (some ⟨ga, 0, none⟩) 1 1); with_reducible exact Calls.quiet_of_same (IA.out _)) | (go_at_call_of 14 (Value.slice (some ⟨gb, 0, none⟩) 1 1); with_reducible exact Calls.quiet_of_same (IB.out _)))
        go_wp2_with fail
        go_roundw
        case rel => exact ⟨k + 1, by omega, by go_num, ho.drewN _⟩
        case measure => simp only [intOf]; omega
      · have hcpos : p.c.length = p.a.length := hce.resolve_right hc0
        have hcI : ((p.c.length : Int) == 0) = false := by
          have : (p.c.length : Int) ≠ 0 := by omega
          simpa using this
        have hcJ : (0 : Int) < (p.c.length : Int) := by omega
        have hcK : decide ((p.c.length : Int) = 0) = false := by
          have : (p.c.length : Int) ≠ 0 := by omega
          simpa using this
        have hcL : decide ((p.c.length : Int) > 0) = true := by simpa using hcJ
        have hkc : (k : Int) < (p.c.length : Int) := by omega
        have hcM : 0 < p.c.length := by omega
        have hcN : decide (0 < p.c.length) = true := by simpa using hcM
        have hcO : decide (0 < (p.c.length : Int)) = true := by simpa using hcM
        have hcP : (p.c.length == 0) = false := by
          have : p.c.length ≠ 0 := by omega
          simpa using this
        obtain ⟨d1, rfl, yc⟩ := HYC.out k (by omega)
        have yc' := (O12.trans ho).cell yc (fun f => f)
        have IC := Lib.hid (fun n => (is_any (wr.drewN n) gc 1 1 _ (Has.drewN (ho.has Gc (fun f => f)) n)).mono fun e w' h => (⟨h.1, h.2.symm⟩ : e = .returned (.bool true) ∧ w' = wr.drewN n))
        simp only [sl1] at y3
        clear hce hbe hcpos Gc yc hc0
        generalize p.c.length = nc at *
        generalize lf p.a k = ba at *
        generalize lf p.b k = bb at *
        generalize lf p.c k = bc at *
        go_wp2_with fail
        go_big_quiet (first | (go_at_call_of 14 (Value.slice (some ⟨ga, 0, none⟩) 1 1); with_reducible exact Calls.quiet_of_same (IA.out _)) | (go_at_call_of 14 (Value.slice (some ⟨gb, 0, none⟩) 1 1); with_reducible exact Calls.quiet_of_same (IB.out _)) | (go_at_call_of 14 (Value.slice (some ⟨gc, 0, none⟩) 1 1); with_reducible exact Calls.quiet_of_same (IC.out _)))
        go_wp2_with fail
        go_roundw
        case rel => exact ⟨k + 1, by omega, by go_num, ho.drewN _⟩
        case measure => simp only [intOf]; omega
    · have hki : ¬ (k : Int) < (p.a.length : Int) := by omega
      clear hge
      go_wp2_with fail
      refine (awake_any _).mono ?_; rintro e w14 ⟨rfl, o14⟩
      go_wp2_with fail
      go_ret
      exact ⟨rfl, (O12.trans ho).trans o14⟩
end Go.Proofs.Ythkgjhjfgoglhaa
