/- The reference of layer 24: Wrong. -/
import Derived.Test.YthkgjhjfgoglhaaRo
set_option linter.unusedSimpArgs false
set_option linter.unusedVariables false
namespace Go.Proofs.Ythkgjhjfgoglhaa
open Go.RowKit

def Odd2 (a b r : List Bool) (B : Nat) (e : Ending) (W : World) : Prop := (a.length = b.length ∧ ∃ A c, e = .returned (.tuple #[.slice A r.length c, .bool true]) ∧ W.ownsRow B 4 1 (.slice A r.length c) r.length (bcellsB r)) ∨ (a.length ≠ b.length ∧ e = .returned (.tuple #[.slice none 0 0, .bool false]))
theorem odd2_any (w : World) (g : Nat) (va vb : Value) (a b : List Bool) (hg : Has w g 22 #[va, vb]) (ha : Reads w va (bcellsB a)) (hb : Reads w vb (bcellsB b)) (hl : a.length ≤ 4194304) :
    Calls Try.prog 28 #[.slice (some ⟨g, 0, none⟩) 2 2] w fun x w' => Odd2 a b (xorL a b) w.heap.size x w' ∧ Only (fun _ => False) w w' := by
  refine (odd_any w g 2 2 #[va, vb] [a, b] rfl (by omega) (by omega) hg (fun i hi => ?_) hl).mono ?_
  · match i, hi with
    | 0, _ => exact ⟨va, rfl, ha⟩
    | 1, _ => exact ⟨vb, rfl, hb⟩
  · rintro x w' ⟨hp, o⟩
    refine ⟨?_, o⟩
    unfold OddPost at hp
    rw [(odd_two a b).1] at hp
    by_cases h : b.length = a.length
    · rw [if_pos (by simpa using h), (odd_two a b).2 h] at hp
      obtain ⟨v, rfl, hv⟩ := hp
      obtain ⟨A, c, rfl, _⟩ := (Reads.ofOwn hv (by simp [bcellsB_length])).shape
      rw [bcellsB_length] at hv ⊢
      exact .inl ⟨h.symm, A, c, rfl, hv⟩
    · rw [if_neg (by simpa using h)] at hp
      exact .inr ⟨fun e => h e.symm, hp⟩
def OddU (a b r : List Bool) (W : World) (v : Value) (n : Nat) (t : Bool) : Prop := (a.length = b.length ∧ n = r.length ∧ t = true ∧ Reads W v (bcellsB r)) ∨ (a.length ≠ b.length ∧ t = false)
theorem Odd2.uni {a b r : List Bool} {B : Nat} {e : Ending} {W : World} (h : Odd2 a b r B e W) : ∃ A n c t, e = .returned (.tuple #[.slice A n c, .bool t]) ∧ OddU a b r W (.slice A n c) n t := by
  rcases h with ⟨hl, A, c, rfl, hv⟩ | ⟨hl, rfl⟩
  · exact ⟨A, _, c, true, rfl, .inl ⟨hl, rfl, rfl, Reads.ofOwn hv (by simp [bcellsB_length])⟩⟩
  · exact ⟨none, 0, 0, false, rfl, .inr ⟨hl, rfl⟩⟩
theorem OddU.inner {a b r : List Bool} {n : Nat} {W W' : World} {v : Value} {t : Bool} (h : OddU a b r W v n t) (o : Only (fun _ => False) W W') : OddU a b r W' v n t := by
  rcases h with ⟨h1, h2, h3, h4⟩ | h
  · exact .inl ⟨h1, h2, h3, h4.inner o⟩
  · exact .inr h
def RWrongPost (r : Option (List Bool)) (e : Ending) (W : World) : Prop := match r with
  | some l => ∃ v, e = .returned (.tuple #[v, .int .i64 0]) ∧ Reads W v (bcellsB l)
  | none => e = .returned (.tuple #[.slice none 0 0, .int .i64 11])

set_option maxRecDepth 100000 in
set_option maxHeartbeats 4000000 in
theorem rwrong_any (w : World) (va vb : Value) (p q : Pt) (ha : RefP w va p) (hb : RefP w vb q) (h1 : p.a.length ≤ 4194304) (h2 : p.b.length ≤ 4194304) (h3 : p.c.length ≤ 4194304) : Calls Try.prog 10 #[va, vb] w fun x w' => RWrongPost (wrongM p q) x w' ∧ Only (fun _ => False) w w' := by
  obtain ⟨pa, pb, pc⟩ := p
  obtain ⟨qa, qb, qc⟩ := q
  obtain ⟨sa, sb, sc, rfl, ra, rb, rc⟩ := ha
  obtain ⟨ta, tb, tc, rfl, ua, ub, uc⟩ := hb
  simp only at *
  obtain ⟨A1, k1, rfl, _⟩ := ra.shape
  obtain ⟨A2, k2, rfl, _⟩ := rb.shape
  obtain ⟨A3, k3, rfl, _⟩ := rc.shape
  obtain ⟨A4, k4, rfl, _⟩ := ua.shape
  obtain ⟨A5, k5, rfl, _⟩ := ub.shape
  obtain ⟨A6, k6, rfl, _⟩ := uc.shape
  simp only [bcellsB_length] at *
  generalize hPP : wrongM ⟨pa, pb, pc⟩ ⟨qa, qb, qc⟩ = P
  have HP := Lib.hid hPP
  unfold wrongM at HP
  simp only at HP
  clear hPP
  have HO1 := Lib.hid (fun W (o : Only (fun _ => False) w W) g (h : Has W g 22 #[.slice A1 pa.length k1, .slice A4 qa.length k4]) => odd2_any W g _ _ pa qa h (ra.inner o) (ua.inner o) h1)
  have HO2 := Lib.hid (fun W (o : Only (fun _ => False) w W) g (h : Has W g 22 #[.slice A2 pb.length k2, .slice A5 qb.length k5]) => odd2_any W g _ _ pb qb h (rb.inner o) (ub.inner o) h2)
  have HO3 := Lib.hid (fun W (o : Only (fun _ => False) w W) g (h : Has W g 22 #[.slice A3 pc.length k3, .slice A6 qc.length k6]) => odd2_any W g _ _ pc qc h (rc.inner o) (uc.inner o) h3)
  have HW0 := Lib.hid (Only.refl (fun _ => False) w)
  have L1 := Lib.hid h1
  clear ra rb rc ua ub uc h1 h2 h3
  generalize hW : ((w.alloc (.cells #[.slice A1 pa.length k1, .slice A2 pb.length k2, .slice A3 pc.length k3] 24)).alloc (.cells #[.slice A4 qa.length k4, .slice A5 qb.length k5, .slice A6 qc.length k6] 24)) = W3
  have P3 : Has W3 w.heap.size 24 #[.slice A1 pa.length k1, .slice A2 pb.length k2, .slice A3 pc.length k3] := by rw [← hW]; exact (Has.new _ _ _).alloc _
  have Q3 : Has W3 (w.heap.size + 1) 24 #[.slice A4 qa.length k4, .slice A5 qb.length k5, .slice A6 qc.length k6] := by rw [← hW]; exact has_new2 _ _ _ _
  have O3 : Only (fun _ => False) w W3 := by rw [← hW]; exact ((Only.refl _ _).alloc _).alloc _
  have HW := Lib.hid hW
  clear hW
  go_enter Try.func10, Try.ntmps10
  go_upto_region 1 with fail
  rw [HW.out]
  obtain ⟨p0, p1, p2⟩ := part_facts P3
  obtain ⟨q0, q1, q2⟩ := part_facts Q3
  go_wp2_with fail
  refine (HO1.out _ (O3.alloc _) W3.heap.size (Has.new _ _ _)).mono ?_; rintro e w4 ⟨hP4, o4⟩
  have P4 := o4.has (P3.alloc _) (fun f => f)
  have Q4 := o4.has (Q3.alloc _) (fun f => f)
  have O4 := (O3.alloc _).trans o4
  obtain ⟨p0, p1, p2⟩ := part_facts P4
  obtain ⟨q0, q1, q2⟩ := part_facts Q4
  obtain ⟨B4, n4, d4, t4, rfl, hv4⟩ := hP4.uni
  have V4 := Lib.hid hv4
  clear hP4 hv4 P3 Q3 o4
  go_wp2_with fail
  refine (HO2.out _ (O4.alloc _) w4.heap.size (Has.new _ _ _)).mono ?_; rintro e w5 ⟨hP5, o5⟩
  have P5 := o5.has (P4.alloc _) (fun f => f)
  have Q5 := o5.has (Q4.alloc _) (fun f => f)
  have O5 := (O4.alloc _).trans o5
  obtain ⟨p0, p1, p2⟩ := part_facts P5
  obtain ⟨q0, q1, q2⟩ := part_facts Q5
  obtain ⟨B5, n5, d5, t5, rfl, hv5⟩ := hP5.uni
  replace V4 := Lib.hid (V4.out.inner (((Only.refl _ _).alloc _).trans o5))
  have V5 := Lib.hid hv5
  clear hP5 hv5 P4 Q4 o5
  go_wp2_with fail
  refine (HO3.out _ (O5.alloc _) w5.heap.size (Has.new _ _ _)).mono ?_; rintro e w6 ⟨hP6, o6⟩
  have O6 := (O5.alloc _).trans o6
  obtain ⟨B6, n6, d6, t6, rfl, hv6⟩ := hP6.uni
  replace V4 := Lib.hid (V4.out.inner (((Only.refl _ _).alloc _).trans o6))
  replace V5 := Lib.hid (V5.out.inner (((Only.refl _ _).alloc _).trans o6))
  have V6 := Lib.hid hv6
  clear hP6 hv6 P5 Q5 o6
  have hbad : (¬ (pa.length = qa.length ∧ pb.length = qb.length ∧ pc.length = qc.length ∧ pa.length = pb.length ∧ pa.length = pc.length)) → RWrongPost P (.returned (.tuple #[.slice none 0 0, .int .i64 11])) w6 := by
    intro h
    rw [← HP.out, if_neg h]
    rfl
  have HB := Lib.hid hbad
  clear hbad
  rcases V4.out with ⟨l4, hn4, rfl, v4⟩ | ⟨l4, rfl⟩
  rotate_left
  · have H4 := Lib.hid l4
    clear l4
    cases t5 <;> cases t6
    all_goals
      go_wp2_with fail
      go_ret2
      exact ⟨HB.out (by rintro ⟨h1, h2, h3, h4, h5⟩; exact H4.out h1), O6⟩
  rcases V5.out with ⟨l5, hn5, rfl, v5⟩ | ⟨l5, rfl⟩
  rotate_left
  · have H5 := Lib.hid l5
    clear l5 l4 v4 V4
    cases t6
    all_goals
      go_wp2_with fail
      go_ret2
      exact ⟨HB.out (by rintro ⟨h1, h2, h3, h4, h5⟩; exact H5.out h2), O6⟩
  rcases V6.out with ⟨l6, hn6, rfl, v6⟩ | ⟨l6, rfl⟩
  rotate_left
  · have H6 := Lib.hid l6
    clear l6 l5 l4 v4 v5 V4 V5
    go_wp2_with fail
    go_ret2
    exact ⟨HB.out (by rintro ⟨h1, h2, h3, h4, h5⟩; exact H6.out h3), O6⟩
  have N4 := Lib.hid hn4
  have N5 := Lib.hid hn5
  have N6 := Lib.hid hn6
  have X4 := Lib.hid (xorL_len l4)
  have X5 := Lib.hid (xorL_len l5)
  have X6 := Lib.hid (xorL_len l6)
  have K4 := Lib.hid l4
  have K5 := Lib.hid l5
  have K6 := Lib.hid l6
  have R4 := Lib.hid v4
  have R5 := Lib.hid v5
  have R6 := Lib.hid v6
  have HB0 := fun W o => both_any W _ _ (xorL pa qa) (xorL pb qb) ((v4.inner o)) (v5.inner o)
  have HBT := Lib.hid HB0
  clear hn4 hn5 hn6 l4 l5 l6 v4 v5 v6 V4 V5 V6 HB0
  by_cases h45 : n4 = n5
  rotate_left
  · have hne : ((n4 : Int) != (n5 : Int)) = true := by
      have : (n4 : Int) ≠ (n5 : Int) := by omega
      simpa using this
    have H45 := Lib.hid h45
    clear h45
    go_wp2_with fail
    go_ret2
    exact ⟨HB.out (by rintro ⟨h1, h2, h3, h4, h5⟩; exact H45.out (by rw [N4.out, N5.out, X4.out, X5.out]; exact h4)), O6⟩
  obtain rfl := h45
  by_cases h46 : n4 = n6
  rotate_left
  · have hne : ((n4 : Int) != (n6 : Int)) = true := by
      have : (n4 : Int) ≠ (n6 : Int) := by omega
      simpa using this
    have H46 := Lib.hid h46
    clear h46
    go_wp2_with fail
    go_ret2
    exact ⟨HB.out (by rintro ⟨h1, h2, h3, h4, h5⟩; exact H46.out (by rw [N4.out, N6.out, X4.out, X6.out]; exact h5)), O6⟩
  obtain rfl := h46
  clear HB
  have hxy : (xorL pa qa).length = (xorL pb qb).length := N4.out.symm.trans N5.out
  have hxz : (xorL pa qa).length = (xorL pc qc).length := N4.out.symm.trans N6.out
  have HXY := Lib.hid hxy
  have HXZ := Lib.hid hxz
  have HL4 := Lib.hid (show (xorL pa qa).length ≤ 4194304 by rw [X4.out]; exact L1.out)
  clear hxy hxz
  go_wp2_with fail
  refine (HBT.out _ ((Only.refl _ _)) HL4.out (by rw [← HXY.out]; exact HL4.out)).mono ?_; rintro e w7 ⟨⟨v7, rfl, hv7⟩, o7⟩
  rw [both_and HXY.out] at hv7
  have hr7 := Reads.ofOwn hv7 (by simp [bcellsB_length])
  obtain ⟨B7, d7, rfl, _⟩ := hr7.shape
  have O7 := O6.trans o7
  have HR7 := Lib.hid hr7
  have HO7 := Lib.hid o7
  clear hr7 hv7 o7
  go_wp2_with fail
  refine (odd2_any _ w7.heap.size _ _ (andL (xorL pa qa) (xorL pb qb)) (xorL pc qc) (Has.new _ _ _) (HR7.out.inner ((Only.refl _ _).alloc _)) (R6.out.inner (HO7.out.alloc _)) (by rw [andL_len HXY.out]; exact HL4.out)).mono ?_; rintro e w8 ⟨hP8, o8⟩
  have O8 := (O7.alloc _).trans o8
  rcases hP8 with ⟨l8, B8, d8, rfl, v8⟩ | ⟨l8, rfl⟩
  rotate_left
  · exact absurd (by rw [andL_len HXY.out]; exact HXZ.out) l8
  clear o8 l8
  have V8 := Lib.hid (Reads.ofOwn v8 (by simp [bcellsB_length]))
  clear v8
  go_wp2_with fail
  go_ret2
  refine ⟨?_, O8⟩
  rw [← HP.out, if_pos ⟨K4.out, K5.out, K6.out, by rw [← X4.out, ← X5.out]; exact HXY.out, by rw [← X4.out, ← X6.out]; exact HXZ.out⟩]
  exact ⟨_, rfl, V8.out⟩
end Go.Proofs.Ythkgjhjfgoglhaa
