/- bitmul: the law's vec and of; Wrong. -/
import Derived.Test.YthkgjhjfgoglhaaDoorBy
import Derived.Deep.RegionHeld3
set_option linter.unusedSimpArgs false
set_option linter.unusedVariables false
namespace Go.Proofs.YthkgjhjfgoglhaaDoor
open Go.RowKit

/-- A part: three lists of truths. -/
structure Pt where
  a : List Bool
  b : List Bool
  c : List Bool
def PartV (w : World) (base : Nat) (v : Value) (p : Pt) : Prop := ∃ A1 m1 c1 A2 m2 c2 A3 m3 c3, v = .agg #[.int .i64 p.a.length, .slice A1 m1 c1, .int .i64 p.b.length, .slice A2 m2 c2, .int .i64 p.c.length, .slice A3 m3 c3] ∧ VL w base (.agg #[.int .i64 p.a.length, .slice A1 m1 c1]) p.a ∧ VL w base (.agg #[.int .i64 p.b.length, .slice A2 m2 c2]) p.b ∧ VL w base (.agg #[.int .i64 p.c.length, .slice A3 m3 c3]) p.c
def RefP (w : World) (v : Value) (p : Pt) : Prop := ∃ sa sb sc, v = .agg #[sa, sb, sc] ∧ Reads w sa (bcellsB p.a) ∧ Reads w sb (bcellsB p.b) ∧ Reads w sc (bcellsB p.c)
theorem PartV.inner {a b : World} {base : Nat} {v : Value} {p : Pt} (h : PartV a base v p) (o : Only (fun _ => False) a b) : PartV b base v p := by
  obtain ⟨A1, m1, c1, A2, m2, c2, A3, m3, c3, e, h1, h2, h3⟩ := h
  exact ⟨A1, m1, c1, A2, m2, c2, A3, m3, c3, e, h1.inner o, h2.inner o, h3.inner o⟩
theorem RefP.inner {a b : World} {v : Value} {p : Pt} (h : RefP a v p) (o : Only (fun _ => False) a b) : RefP b v p := by
  obtain ⟨va, vb, vc, e, h1, h2, h3⟩ := h
  exact ⟨va, vb, vc, e, h1.inner o, h2.inner o, h3.inner o⟩
theorem PartV.mono {w : World} {base base' : Nat} {v : Value} {p : Pt} (h : PartV w base v p) (hb : base' ≤ base) : PartV w base' v p := by
  obtain ⟨A1, m1, c1, A2, m2, c2, A3, m3, c3, e, h1, h2, h3⟩ := h
  exact ⟨A1, m1, c1, A2, m2, c2, A3, m3, c3, e, h1.mono hb, h2.mono hb, h3.mono hb⟩
/-- Bits of a block apart are left alone. -/
theorem VL.put {W W' : World} {base : Nat} {v : Value} {l : List Bool} {b : Nat} (h : VL W base v l) (o : Only (· = b) W W') (hb : b < base) : VL W' base v l := h.only o (fun g h1 _ e => by have : g = b := e; omega)

theorem res_vec {W : World} {b : Nat} {x0 x1 : Value} {tm : Array Value} (h : Has W b 30 #[x0, x1]) (h8 : tm.getD 2 undef = .pointer (some ⟨b, 0, none⟩)) :
    (results Tryd.f28 tm).run Tryd.prog W = .ok (.agg #[x0, x1]) W := by
  obtain ⟨c0, c1, _⟩ := h.facts2
  simp only [Array.getD_eq_getD_getElem?] at h8
  simp [results, Tryd.results28, go_sem, h8, c0, c1]
set_option maxRecDepth 100000 in
set_option maxHeartbeats 1000000 in
theorem vec_any (w : World) (a : Value) (l : List Bool) (ha : Reads w a (bcellsB l)) (hl : l.length ≤ 4194304) : Calls Tryd.prog 28 #[a] w fun x w' => (∃ v, x = .returned v ∧ VL w' w.heap.size v l) ∧ Only (fun _ => False) w w' := by
  have HO := Lib.hid (fun W h => bof_any W a l h hl)
  have HA := Lib.hid ha
  clear ha
  go_enter Tryd.func28, Tryd.ntmps28
  go_wp2_with fail
  refine (HO.out _ (HA.out.inner ((Only.refl _ _).alloc _))).mono ?_; rintro e w1 ⟨⟨v, rfl, hv⟩, o1⟩
  have B1 := o1.has (Has.new w 30 #[.int .i64 0, .slice none 0 0]) (fun f => f)
  obtain ⟨A, m, c, rfl⟩ := hv.shape
  have hs : (w.alloc (.cells #[.int .i64 0, .slice none 0 0] 30)).heap.size = w.heap.size + 1 := by simp
  rw [hs] at hv
  have HV := Lib.hid hv
  have O1 := ((Only.refl (fun _ => False) w).alloc (.cells #[.int .i64 0, .slice none 0 0] 30)).trans o1
  have B2 := B1.alloc (.cells #[.int .i64 l.length, .slice A m c] 30)
  have C2 := Has.new w1 30 #[.int .i64 l.length, .slice A m c]
  have O2 := O1.alloc (.cells #[.int .i64 l.length, .slice A m c] 30)
  obtain ⟨b0, b1, bf⟩ := B2.facts2
  obtain ⟨c0, c1, _⟩ := C2.facts2
  clear hv hs o1 O1 B1
  go_wp2_with fail
  refine bodyPost_ret (v := .agg #[.int .i64 l.length, .slice A m c]) ?hr rfl ?hp
  case hr => exact res_vec (b := w.heap.size) (Has.put2 B2 rfl _ _) rfl
  case hp => exact ⟨⟨_, rfl, (VL.put (HV.out.inner ((Only.refl _ _).alloc _)) (Only.put2 _ w.heap.size _ _) (Nat.lt_succ_self _)).mono (Nat.le_succ _)⟩, O2.then_ (Only.put2 _ w.heap.size (.int .i64 l.length) (.slice A m c)) (fun i hi e => absurd hi (by have : i = w.heap.size := e; omega))⟩

/-- Where two parts do not come to triples. -/
def wrongM (p q : Pt) : Option (List Bool) :=
  if p.a.length = q.a.length ∧ p.b.length = q.b.length ∧ p.c.length = q.c.length ∧ p.a.length = p.b.length ∧ p.a.length = p.c.length then some (xorL (andL (xorL p.a q.a) (xorL p.b q.b)) (xorL p.c q.c)) else none
def WrongPost (r : Option (List Bool)) (B : Nat) (e : Ending) (W : World) : Prop := match r with
  | some l => ∃ v, e = .returned (.tuple #[v, .int .i64 0]) ∧ VL W B v l
  | none => e = .returned (.tuple #[zeroV, .int .i64 11])
theorem xorL_len {l m : List Bool} (h : l.length = m.length) : (xorL l m).length = l.length := zip_len _ h
theorem andL_len {l m : List Bool} (h : l.length = m.length) : (andL l m).length = l.length := zip_len _ h
theorem res_wr {W : World} {b : Nat} {x0 x1 v : Value} {tm : Array Value} (h : Has W b 30 #[x0, x1]) (h8 : tm.getD 4 undef = .pointer (some ⟨b, 0, none⟩)) (h9 : tm.getD 5 undef = v) :
    (results Tryd.f11 tm).run Tryd.prog W = .ok (.tuple #[.agg #[x0, x1], v]) W := by
  obtain ⟨c0, c1, _⟩ := h.facts2
  simp only [Array.getD_eq_getD_getElem?] at h8 h9
  simp [results, Tryd.results11, go_sem, h8, h9, c0, c1]
/-- The same, the result a literal. -/
theorem zip_lit {l m r : List Bool} {B : Nat} {e : Ending} {W : World} (h : ZipPost l m r B e W) : (l.length = m.length ∧ ∃ A k c, e = .returned (.tuple #[.agg #[.int .i64 r.length, .slice A k c], .int .i64 0]) ∧ VL W B (.agg #[.int .i64 r.length, .slice A k c]) r) ∨ (l.length ≠ m.length ∧ e = .returned (.tuple #[.agg #[.int .i64 0, .slice none 0 0], .int .i64 11])) := by
  unfold ZipPost at h
  by_cases hl : l.length = m.length
  · rw [if_pos hl] at h
    obtain ⟨v, rfl, hv⟩ := h
    obtain ⟨A, k, c, rfl⟩ := hv.shape
    exact .inl ⟨hl, A, k, c, rfl, hv⟩
  · rw [if_neg hl] at h
    exact .inr ⟨hl, h⟩
set_option maxRecDepth 100000 in
set_option maxHeartbeats 4000000 in
theorem wrong_any (w : World) (base : Nat) (a b : Value) (p q : Pt) (ha : PartV w base a p) (hb : PartV w base b q) (h1 : p.a.length ≤ 4194304) (h2 : p.b.length ≤ 4194304) (h3 : p.c.length ≤ 4194304) : Calls Tryd.prog 11 #[a, b] w fun x w' => WrongPost (wrongM p q) w.heap.size x w' ∧ Only (fun _ => False) w w' := by
  obtain ⟨pa, pb, pc⟩ := p
  obtain ⟨qa, qb, qc⟩ := q
  obtain ⟨A1, m1, c1, A2, m2, c2, A3, m3, c3, rfl, ha1, hb1, hc1⟩ := ha
  obtain ⟨A4, m4, c4, A5, m5, c5, A6, m6, c6, rfl, ha2, hb2, hc2⟩ := hb
  simp only at *
  have H1 := Lib.hid ha1
  have H2 := Lib.hid hb1
  have H3 := Lib.hid hc1
  have H4 := Lib.hid ha2
  have H5 := Lib.hid hb2
  have H6 := Lib.hid hc2
  have L1 := Lib.hid h1
  have L2 := Lib.hid h2
  have L3 := Lib.hid h3
  clear ha1 hb1 hc1 ha2 hb2 hc2 h1 h2 h3
  generalize hPP : wrongM ⟨pa, pb, pc⟩ ⟨qa, qb, qc⟩ = P
  have HP := Lib.hid hPP
  unfold wrongM at HP
  simp only at HP
  clear hPP
  have hX1 := fun W (o : Only (fun _ => False) w W) => bxor_any W base base _ _ pa qa (H1.out.inner o) (H4.out.inner o) L1.out
  have hX2 := fun W (o : Only (fun _ => False) w W) => bxor_any W base base _ _ pb qb (H2.out.inner o) (H5.out.inner o) L2.out
  have hX3 := fun W (o : Only (fun _ => False) w W) => bxor_any W base base _ _ pc qc (H3.out.inner o) (H6.out.inner o) L3.out
  have X1 := Lib.hid hX1
  have X2 := Lib.hid hX2
  have X3 := Lib.hid hX3
  clear hX1 hX2 hX3 H1 H2 H3 H4 H5 H6
  generalize hW : (((w.alloc (.cells #[.int .i64 pa.length, .slice A1 m1 c1, .int .i64 pb.length, .slice A2 m2 c2, .int .i64 pc.length, .slice A3 m3 c3] 32)).alloc (.cells #[.int .i64 qa.length, .slice A4 m4 c4, .int .i64 qb.length, .slice A5 m5 c5, .int .i64 qc.length, .slice A6 m6 c6] 32)).alloc (.cells #[.int .i64 0, .slice none 0 0] 30)) = W3
  have P3 : Has W3 w.heap.size 32 #[.int .i64 pa.length, .slice A1 m1 c1, .int .i64 pb.length, .slice A2 m2 c2, .int .i64 pc.length, .slice A3 m3 c3] := by rw [← hW]; exact ((Has.new _ _ _).alloc _).alloc _
  have Q3 : Has W3 (w.heap.size + 1) 32 #[.int .i64 qa.length, .slice A4 m4 c4, .int .i64 qb.length, .slice A5 m5 c5, .int .i64 qc.length, .slice A6 m6 c6] := by rw [← hW]; exact (has_new2 _ _ _ _).alloc _
  have R3 : Has W3 (w.heap.size + 2) 30 #[.int .i64 0, .slice none 0 0] := by rw [← hW]; exact has_new3 _ _ _ _ _
  have O3 : Only (fun _ => False) w W3 := by rw [← hW]; exact (((Only.refl _ _).alloc _).alloc _).alloc _
  have HW := Lib.hid hW
  clear hW
  go_enter Tryd.func11, Tryd.ntmps11
  go_upto_region 1 with fail
  rw [HW.out]
  obtain ⟨p0, p1, p2, p3, p4, p5, _⟩ := Has.facts6 P3
  obtain ⟨q0, q1, q2, q3, q4, q5, _⟩ := Has.facts6 Q3
  go_wp2_with fail
  refine (X1.out _ O3).mono ?_; rintro e w4 ⟨hP4, o4⟩
  have P4 := o4.has P3 (fun f => f)
  have Q4 := o4.has Q3 (fun f => f)
  have R4 := o4.has R3 (fun f => f)
  have O4 := O3.trans o4
  rcases zip_lit hP4 with ⟨hl4, B4, k4, d4, rfl, hv4⟩ | ⟨hl4, rfl⟩
  rotate_left
  · clear hP4
    skip
    have D := (R4).alloc (.cells #[.int .i64 0, .slice none 0 0] 30)
    have OD := (O4).alloc (.cells #[.int .i64 0, .slice none 0 0] 30)
    obtain ⟨r0, r1, rf⟩ := D.facts2
    go_wp2_with fail
    refine bodyPost_ret (v := .tuple #[.agg #[.int .i64 0, .slice none 0 0], .int .i64 11]) ?hr rfl ?hp
    case hr => exact res_wr (b := w.heap.size + 2) (Has.put2 D rfl _ _) rfl rfl
    case hp =>
      refine ⟨?_, OD.then_ (Only.put2 _ (w.heap.size + 2) (.int .i64 0) (.slice none 0 0)) (fun i hi e => absurd hi (by have : i = w.heap.size + 2 := e; omega))⟩
      rw [← HP.out, if_neg (by rintro ⟨h1, h2, h3, h4, h5⟩; exact hl4 h1)]
      rfl
  clear hP4
  have PP4 := P4.alloc (.cells #[.int .i64 (xorL pa qa).length, .slice B4 k4 d4] 30)
  have QQ4 := Q4.alloc (.cells #[.int .i64 (xorL pa qa).length, .slice B4 k4 d4] 30)
  have RR4 := R4.alloc (.cells #[.int .i64 (xorL pa qa).length, .slice B4 k4 d4] 30)
  have OO4 := O4.alloc (.cells #[.int .i64 (xorL pa qa).length, .slice B4 k4 d4] 30)
  have T4_4 : Has (w4.alloc (.cells #[.int .i64 (xorL pa qa).length, .slice B4 k4 d4] 30)) w4.heap.size 30 #[.int .i64 (xorL pa qa).length, .slice B4 k4 d4] := Has.new _ _ _
  have V4_4 := Lib.hid (hv4.inner ((Only.refl _ _).alloc (.cells #[.int .i64 (xorL pa qa).length, .slice B4 k4 d4] 30)))
  clear hv4 o4 P4 Q4 R4 O4
  obtain ⟨p0, p1, p2, p3, p4, p5, _⟩ := Has.facts6 PP4
  obtain ⟨q0, q1, q2, q3, q4, q5, _⟩ := Has.facts6 QQ4
  obtain ⟨t40, t41, _⟩ := T4_4.facts2
  go_wp2_with fail
  refine (X2.out _ OO4).mono ?_; rintro e w5 ⟨hP5, o5⟩
  have P5 := o5.has PP4 (fun f => f)
  have Q5 := o5.has QQ4 (fun f => f)
  have R5 := o5.has RR4 (fun f => f)
  have O5 := OO4.trans o5
  have T4_5 := o5.has T4_4 (fun f => f)
  have V4_5 := Lib.hid ((V4_4.out.inner o5))
  rcases zip_lit hP5 with ⟨hl5, B5, k5, d5, rfl, hv5⟩ | ⟨hl5, rfl⟩
  rotate_left
  · clear hP5
    skip
    have D := (R5).alloc (.cells #[.int .i64 0, .slice none 0 0] 30)
    have OD := (O5).alloc (.cells #[.int .i64 0, .slice none 0 0] 30)
    obtain ⟨r0, r1, rf⟩ := D.facts2
    go_wp2_with fail
    refine bodyPost_ret (v := .tuple #[.agg #[.int .i64 0, .slice none 0 0], .int .i64 11]) ?hr rfl ?hp
    case hr => exact res_wr (b := w.heap.size + 2) (Has.put2 D rfl _ _) rfl rfl
    case hp =>
      refine ⟨?_, OD.then_ (Only.put2 _ (w.heap.size + 2) (.int .i64 0) (.slice none 0 0)) (fun i hi e => absurd hi (by have : i = w.heap.size + 2 := e; omega))⟩
      rw [← HP.out, if_neg (by rintro ⟨h1, h2, h3, h4, h5⟩; exact hl5 h2)]
      rfl
  clear hP5
  have PP5 := P5.alloc (.cells #[.int .i64 (xorL pb qb).length, .slice B5 k5 d5] 30)
  have QQ5 := Q5.alloc (.cells #[.int .i64 (xorL pb qb).length, .slice B5 k5 d5] 30)
  have RR5 := R5.alloc (.cells #[.int .i64 (xorL pb qb).length, .slice B5 k5 d5] 30)
  have OO5 := O5.alloc (.cells #[.int .i64 (xorL pb qb).length, .slice B5 k5 d5] 30)
  replace T4_5 := T4_5.alloc (.cells #[.int .i64 (xorL pb qb).length, .slice B5 k5 d5] 30)
  replace V4_5 := Lib.hid (V4_5.out.inner ((Only.refl _ _).alloc (.cells #[.int .i64 (xorL pb qb).length, .slice B5 k5 d5] 30)))
  have T5_5 : Has (w5.alloc (.cells #[.int .i64 (xorL pb qb).length, .slice B5 k5 d5] 30)) w5.heap.size 30 #[.int .i64 (xorL pb qb).length, .slice B5 k5 d5] := Has.new _ _ _
  have V5_5 := Lib.hid (hv5.inner ((Only.refl _ _).alloc (.cells #[.int .i64 (xorL pb qb).length, .slice B5 k5 d5] 30)))
  clear hv5 o5 P5 Q5 R5 O5
  obtain ⟨p0, p1, p2, p3, p4, p5, _⟩ := Has.facts6 PP5
  obtain ⟨q0, q1, q2, q3, q4, q5, _⟩ := Has.facts6 QQ5
  obtain ⟨t40, t41, _⟩ := T4_5.facts2
  obtain ⟨t50, t51, _⟩ := T5_5.facts2
  go_wp2_with fail
  refine (X3.out _ OO5).mono ?_; rintro e w6 ⟨hP6, o6⟩
  have P6 := o6.has PP5 (fun f => f)
  have Q6 := o6.has QQ5 (fun f => f)
  have R6 := o6.has RR5 (fun f => f)
  have O6 := OO5.trans o6
  have T4_6 := o6.has T4_5 (fun f => f)
  have V4_6 := Lib.hid ((V4_5.out.inner o6))
  have T5_6 := o6.has T5_5 (fun f => f)
  have V5_6 := Lib.hid ((V5_5.out.inner o6))
  rcases zip_lit hP6 with ⟨hl6, B6, k6, d6, rfl, hv6⟩ | ⟨hl6, rfl⟩
  rotate_left
  · clear hP6
    skip
    have D := (R6).alloc (.cells #[.int .i64 0, .slice none 0 0] 30)
    have OD := (O6).alloc (.cells #[.int .i64 0, .slice none 0 0] 30)
    obtain ⟨r0, r1, rf⟩ := D.facts2
    go_wp2_with fail
    refine bodyPost_ret (v := .tuple #[.agg #[.int .i64 0, .slice none 0 0], .int .i64 11]) ?hr rfl ?hp
    case hr => exact res_wr (b := w.heap.size + 2) (Has.put2 D rfl _ _) rfl rfl
    case hp =>
      refine ⟨?_, OD.then_ (Only.put2 _ (w.heap.size + 2) (.int .i64 0) (.slice none 0 0)) (fun i hi e => absurd hi (by have : i = w.heap.size + 2 := e; omega))⟩
      rw [← HP.out, if_neg (by rintro ⟨h1, h2, h3, h4, h5⟩; exact hl6 h3)]
      rfl
  clear hP6
  have PP6 := P6.alloc (.cells #[.int .i64 (xorL pc qc).length, .slice B6 k6 d6] 30)
  have QQ6 := Q6.alloc (.cells #[.int .i64 (xorL pc qc).length, .slice B6 k6 d6] 30)
  have RR6 := R6.alloc (.cells #[.int .i64 (xorL pc qc).length, .slice B6 k6 d6] 30)
  have OO6 := O6.alloc (.cells #[.int .i64 (xorL pc qc).length, .slice B6 k6 d6] 30)
  replace T4_6 := T4_6.alloc (.cells #[.int .i64 (xorL pc qc).length, .slice B6 k6 d6] 30)
  replace V4_6 := Lib.hid (V4_6.out.inner ((Only.refl _ _).alloc (.cells #[.int .i64 (xorL pc qc).length, .slice B6 k6 d6] 30)))
  replace T5_6 := T5_6.alloc (.cells #[.int .i64 (xorL pc qc).length, .slice B6 k6 d6] 30)
  replace V5_6 := Lib.hid (V5_6.out.inner ((Only.refl _ _).alloc (.cells #[.int .i64 (xorL pc qc).length, .slice B6 k6 d6] 30)))
  have T6_6 : Has (w6.alloc (.cells #[.int .i64 (xorL pc qc).length, .slice B6 k6 d6] 30)) w6.heap.size 30 #[.int .i64 (xorL pc qc).length, .slice B6 k6 d6] := Has.new _ _ _
  have V6_6 := Lib.hid (hv6.inner ((Only.refl _ _).alloc (.cells #[.int .i64 (xorL pc qc).length, .slice B6 k6 d6] 30)))
  clear hv6 o6 P6 Q6 R6 O6
  obtain ⟨p0, p1, p2, p3, p4, p5, _⟩ := Has.facts6 PP6
  obtain ⟨q0, q1, q2, q3, q4, q5, _⟩ := Has.facts6 QQ6
  obtain ⟨t40, t41, _⟩ := T4_6.facts2
  obtain ⟨t50, t51, _⟩ := T5_6.facts2
  obtain ⟨t60, t61, _⟩ := T6_6.facts2
  go_wp2_with fail
  have HL7 := Lib.hid (show (xorL pa qa).length ≤ 4194304 by rw [xorL_len hl4]; exact L1.out)
  refine (band_any _ _ _ _ _ (xorL pa qa) (xorL pb qb) V4_6.out V5_6.out HL7.out).mono ?_; rintro e w7 ⟨hP7, o7⟩
  have R7 := o7.has RR6 (fun f => f)
  have O7 := OO6.trans o7
  have T6_7 := o7.has T6_6 (fun f => f)
  have V6_7 := Lib.hid (V6_6.out.inner o7)
  rcases zip_lit hP7 with ⟨hl7, B7, k7, d7, rfl, hv7⟩ | ⟨hl7, rfl⟩
  rotate_left
  · skip
    have D := (R7).alloc (.cells #[.int .i64 0, .slice none 0 0] 30)
    have OD := (O7).alloc (.cells #[.int .i64 0, .slice none 0 0] 30)
    obtain ⟨r0, r1, rf⟩ := D.facts2
    go_wp2_with fail
    refine bodyPost_ret (v := .tuple #[.agg #[.int .i64 0, .slice none 0 0], .int .i64 11]) ?hr rfl ?hp
    case hr => exact res_wr (b := w.heap.size + 2) (Has.put2 D rfl _ _) rfl rfl
    case hp =>
      refine ⟨?_, OD.then_ (Only.put2 _ (w.heap.size + 2) (.int .i64 0) (.slice none 0 0)) (fun i hi e => absurd hi (by have : i = w.heap.size + 2 := e; omega))⟩
      rw [← HP.out, if_neg (by rintro ⟨h1, h2, h3, h4, h5⟩; exact hl7 (by rw [xorL_len h1, xorL_len h2]; exact h4))]
      rfl
  have RR7 := R7.alloc (.cells #[.int .i64 (andL (xorL pa qa) (xorL pb qb)).length, .slice B7 k7 d7] 30)
  have OO7 := O7.alloc (.cells #[.int .i64 (andL (xorL pa qa) (xorL pb qb)).length, .slice B7 k7 d7] 30)
  replace T6_7 := T6_7.alloc (.cells #[.int .i64 (andL (xorL pa qa) (xorL pb qb)).length, .slice B7 k7 d7] 30)
  replace V6_7 := Lib.hid (V6_7.out.inner ((Only.refl _ _).alloc (.cells #[.int .i64 (andL (xorL pa qa) (xorL pb qb)).length, .slice B7 k7 d7] 30)))
  have T7_7 : Has (w7.alloc (.cells #[.int .i64 (andL (xorL pa qa) (xorL pb qb)).length, .slice B7 k7 d7] 30)) w7.heap.size 30 #[.int .i64 (andL (xorL pa qa) (xorL pb qb)).length, .slice B7 k7 d7] := Has.new _ _ _
  have V7_7 := Lib.hid (hv7.inner ((Only.refl _ _).alloc (.cells #[.int .i64 (andL (xorL pa qa) (xorL pb qb)).length, .slice B7 k7 d7] 30)))
  obtain ⟨t60, t61, _⟩ := T6_7.facts2
  obtain ⟨t70, t71, _⟩ := T7_7.facts2
  clear hv7 hP7 o7 R7 O7 PP6 QQ6 p0 p1 p2 p3 p4 p5 q0 q1 q2 q3 q4 q5 t40 t41 t50 t51
  go_wp2_with fail
  have HL8 := Lib.hid (show (andL (xorL pa qa) (xorL pb qb)).length ≤ 4194304 by rw [andL_len hl7]; exact HL7.out)
  refine (bxor_any _ _ _ _ _ (andL (xorL pa qa) (xorL pb qb)) (xorL pc qc) V7_7.out V6_7.out HL8.out).mono ?_; rintro e w8 ⟨hP8, o8⟩
  have R8 := o8.has RR7 (fun f => f)
  have O8 := OO7.trans o8
  have hsz := Lib.hid (show w.heap.size + 2 < (w7.alloc (.cells #[.int .i64 (andL (xorL pa qa) (xorL pb qb)).length, .slice B7 k7 d7] 30)).heap.size from RR7.lt)
  have hsz2 := Lib.hid OO7.size
  obtain ⟨r0, r1, rf⟩ := R8.facts2
  rcases zip_lit hP8 with ⟨hl8, B8, k8, d8, rfl, hv8⟩ | ⟨hl8, rfl⟩
  · have HV8 := Lib.hid hv8
    clear hv8 hP8
    go_wp2_with fail
    refine bodyPost_ret (v := .tuple #[.agg #[.int .i64 (xorL (andL (xorL pa qa) (xorL pb qb)) (xorL pc qc)).length, .slice B8 k8 d8], .int .i64 0]) ?hr rfl ?hp
    case hr => exact res_wr (b := w.heap.size + 2) (Has.put2 R8 rfl _ _) rfl rfl
    case hp =>
      refine ⟨?_, O8.then_ (Only.put2 _ (w.heap.size + 2) (.int .i64 _) (.slice B8 k8 d8)) (fun i hi e => absurd hi (by have : i = w.heap.size + 2 := e; omega))⟩
      rw [← HP.out, if_pos ⟨hl4, hl5, hl6, by rw [← xorL_len hl4, ← xorL_len hl5]; exact hl7, by rw [← xorL_len hl4, ← xorL_len hl6, ← andL_len hl7]; exact hl8⟩]
      exact ⟨_, rfl, (VL.put HV8.out (Only.put2 _ (w.heap.size + 2) _ _) hsz.out).mono hsz2.out⟩
  · clear hP8
    go_wp2_with fail
    refine bodyPost_ret (v := .tuple #[.agg #[.int .i64 0, .slice none 0 0], .int .i64 11]) ?hr rfl ?hp
    case hr => exact res_wr (b := w.heap.size + 2) (Has.put2 R8 rfl _ _) rfl rfl
    case hp =>
      refine ⟨?_, O8.then_ (Only.put2 _ (w.heap.size + 2) (.int .i64 0) (.slice none 0 0)) (fun i hi e => absurd hi (by have : i = w.heap.size + 2 := e; omega))⟩
      rw [← HP.out, if_neg (by rintro ⟨h1, h2, h3, h4, h5⟩; exact hl8 (by rw [andL_len hl7, xorL_len h1, xorL_len h3]; exact h5))]
      rfl
end Go.Proofs.YthkgjhjfgoglhaaDoor
