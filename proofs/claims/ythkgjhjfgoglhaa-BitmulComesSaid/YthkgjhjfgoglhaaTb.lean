/- The reference of layer 24: Finish. -/
import Derived.Test.YthkgjhjfgoglhaaSj
import Derived.Test.YthkgjhjfgoglhaaTa
set_option linter.unusedSimpArgs false
set_option linter.unusedVariables false
namespace Go.Proofs.Ythkgjhjfgoglhaa
open Go.RowKit

def RFinPost (p : Pt) (x y : List Bool) (e : Ending) (W : World) : Prop := ∃ A1 c1 A2 c2 A3 c3, e = .returned (.tuple #[.agg #[.slice A1 (finP p x y).a.length c1, .slice A2 (finP p x y).b.length c2, .slice A3 (finP p x y).c.length c3], .int .i64 (finC p x y)]) ∧ Reads W (.slice A1 (finP p x y).a.length c1) (bcellsB (finP p x y).a) ∧ Reads W (.slice A2 (finP p x y).b.length c2) (bcellsB (finP p x y).b) ∧ Reads W (.slice A3 (finP p x y).c.length c3) (bcellsB (finP p x y).c)
theorem rfin_bad {p : Pt} {x y : List Bool} (W : World) (c : Int) (h : (goodB p.a.length = false ∧ c = 2) ∨ (goodB p.a.length = true ∧ ¬ finOk p x y ∧ c = 11)) : RFinPost p x y (.returned (.tuple #[.agg #[.slice none 0 0, .slice none 0 0, .slice none 0 0], .int .i64 c])) W := by
  have e1 : finP p x y = ⟨[], [], []⟩ := by unfold finP; rcases h with ⟨h, _⟩ | ⟨h, h2, _⟩ <;> rw [if_neg (by simp [h]; try exact h2)]
  have e3 : finC p x y = c := by
    unfold finC
    rcases h with ⟨h, rfl⟩ | ⟨h, h2, rfl⟩
    · rw [if_neg (by simp [h])]
    · rw [if_pos h, if_neg h2]
  unfold RFinPost
  rw [e1, e3]
  exact ⟨none, 0, none, 0, none, 0, rfl, reads_nil _, reads_nil _, reads_nil _⟩
theorem rfin_good {p : Pt} {x y : List Bool} (W : World) {A1 A2 A3 : Option Addr} {c1 c2 c3 : Nat} (h : goodB p.a.length = true) (h1 : finOk p x y) (v1 : Reads W (.slice A1 p.a.length c1) (bcellsB p.a)) (v2 : Reads W (.slice A2 p.b.length c2) (bcellsB p.b)) (v3 : Reads W (.slice A3 (xorL (xorL (andL p.a p.b) x) y).length c3) (bcellsB (xorL (xorL (andL p.a p.b) x) y))) : RFinPost p x y (.returned (.tuple #[.agg #[.slice A1 p.a.length c1, .slice A2 p.b.length c2, .slice A3 (xorL (xorL (andL p.a p.b) x) y).length c3], .int .i64 0])) W := by
  have e1 : finP p x y = ⟨p.a, p.b, xorL (xorL (andL p.a p.b) x) y⟩ := by unfold finP; rw [if_pos ⟨h, h1⟩]
  have e3 : finC p x y = 0 := by unfold finC; rw [if_pos h, if_pos h1]
  unfold RFinPost
  rw [e1, e3]
  exact ⟨_, _, _, _, _, _, rfl, v1, v2, v3⟩
theorem res_rfin {W : World} {b : Nat} {x0 x1 x2 v : Value} {tm : Array Value} (h : Has W b 24 #[x0, x1, x2]) (h6 : tm.getD 6 undef = .pointer (some ⟨b, 0, none⟩)) (h7 : tm.getD 7 undef = v) :
    (results Try.f21 tm).run Try.prog W = .ok (.tuple #[.agg #[x0, x1, x2], v]) W := by
  obtain ⟨c0, c1, c2⟩ := part_facts h
  simp only [Array.getD_eq_getD_getElem?] at h6 h7
  simp [results, Try.results21, go_sem, h6, h7, c0, c1, c2]
theorem rfin_end {w W : World} {b1 : Nat} {x0 x1 x2 : Value} {cs1 : Array Value} (h1 : Has W b1 24 cs1) (n1 : cs1.size = 3) (hb1 : w.heap.size ≤ b1) (o : Only (fun _ => False) w W) :
    Has (((W.setCell ⟨b1, 0, none⟩ x0).setCell ⟨b1, 1, none⟩ x1).setCell ⟨b1, 2, none⟩ x2) b1 24 #[x0, x1, x2] ∧ Only (fun _ => False) w (((W.setCell ⟨b1, 0, none⟩ x0).setCell ⟨b1, 1, none⟩ x1).setCell ⟨b1, 2, none⟩ x2)
    ∧ ∀ v xs B, b1 < B → (∀ g, Value.ownBlock v = some g → B ≤ g) → Reads W v xs → Reads (((W.setCell ⟨b1, 0, none⟩ x0).setCell ⟨b1, 1, none⟩ x1).setCell ⟨b1, 2, none⟩ x2) v xs :=
  ⟨Has.put3 h1 n1 x0 x1 x2, o.then_ (Only.put3 W b1 x0 x1 x2) (fun i hi e => absurd hi (by have : i = b1 := e; omega)), fun v xs B hB hg hv => hv.only (Only.put3 W b1 x0 x1 x2) (fun g hh e => by have := hg g hh; have : g = b1 := e; omega)⟩
set_option maxRecDepth 100000 in
set_option maxHeartbeats 4000000 in
theorem rfin_any (w : World) (v vx vy : Value) (p : Pt) (x y : List Bool) (hv : RefP w v p) (hx : Reads w vx (bcellsB x)) (hy : Reads w vy (bcellsB y)) (hl : p.a.length ≤ 4194304) : Calls Try.prog 21 #[v, vx, vy] w fun e w' => RFinPost p x y e w' ∧ Only (fun _ => False) w w' := by
  obtain ⟨P, hP⟩ : ∃ P : Ending → World → Prop, P = fun e W => RFinPost p x y e W := ⟨_, rfl⟩
  have HP := Lib.hid (show ∀ e W, RFinPost p x y e W → P e W by intro e W h; rw [hP]; exact h)
  have hG : (fun (e : Ending) (w' : World) => RFinPost p x y e w' ∧ Only (fun _ => False) w w') = fun e w' => P e w' ∧ Only (fun _ => False) w w' := by rw [hP]
  rw [hG]
  clear hG hP
  obtain ⟨pa, pb, pc⟩ := p
  obtain ⟨sa, sb, sc, rfl, ra, rb, rc⟩ := hv
  simp only at *
  obtain ⟨A1, k1, rfl, -⟩ := ra.shape
  obtain ⟨A2, k2, rfl, -⟩ := rb.shape
  obtain ⟨A3, k3, rfl, -⟩ := rc.shape
  obtain ⟨AX, kx, rfl, -⟩ := hx.shape
  obtain ⟨AY, ky, rfl, -⟩ := hy.shape
  simp only [bcellsB_length] at *
  have HRA := Lib.hid (fun W (o : Only (fun _ => False) w W) => ra.inner o)
  have HRB := Lib.hid (fun W (o : Only (fun _ => False) w W) => rb.inner o)
  have HRX := Lib.hid (fun W (o : Only (fun _ => False) w W) => hx.inner o)
  have HRY := Lib.hid (fun W (o : Only (fun _ => False) w W) => hy.inner o)
  have HL := Lib.hid hl
  clear ra rb rc hx hy hl
  generalize hW : ((w.alloc (.cells #[.slice A1 pa.length k1, .slice A2 pb.length k2, .slice A3 pc.length k3] 24)).alloc (.cells #[.slice none 0 0, .slice none 0 0, .slice none 0 0] 24)) = W5
  have P := (show Has W5 w.heap.size 24 #[.slice A1 pa.length k1, .slice A2 pb.length k2, .slice A3 pc.length k3] by rw [← hW]; exact (Has.new _ _ _).alloc _)
  have R := (show Has W5 (w.heap.size + 1) 24 #[.slice none 0 0, .slice none 0 0, .slice none 0 0] by rw [← hW]; exact has_new2 _ _ _ _)
  have O : Only (fun _ => False) w W5 := by rw [← hW]; exact ((Only.refl _ _).alloc _).alloc _
  have HW := Lib.hid hW
  clear hW
  go_enter Try.func21, Try.ntmps21
  go_upto_region 1 with fail
  rw [HW.out]
  clear HW
  obtain ⟨p_0, p_1, p_2, p_f⟩ := Has.facts3 P
  go_wp2_with fail
  refine (rgood_any _ _).mono ?_; rintro e w2 ⟨rfl, rfl⟩
  cases hg : goodB pa.length
  · have HG := Lib.hid hg
    clear hg
    obtain ⟨q0, q1, q2, qf⟩ := Has.facts3 R
    go_wp2_with fail
    obtain ⟨z1, z3, _⟩ := rfin_end (x0 := .slice none 0 0) (x1 := .slice none 0 0) (x2 := .slice none 0 0) R rfl (by omega) O
    refine bodyPost_ret (v := .tuple #[.agg #[.slice none 0 0, .slice none 0 0, .slice none 0 0], .int .i64 2]) (res_rfin z1 rfl rfl) rfl ⟨HP.out _ _ (rfin_bad _ _ (.inl ⟨HG.out, rfl⟩)), z3⟩
  have HG := Lib.hid hg
  clear hg
  by_cases h1 : pa.length = pb.length
  rotate_left
  · have H1 := Lib.hid (show ¬ finOk ⟨pa, pb, pc⟩ x y from fun h => h1 h.1)
    have g1 := ne_nat (a := pb.length) (b := pa.length) (fun e => h1 e.symm)
    have g2 := ne_nat2 (a := pb.length) (b := pa.length) (fun e => h1 e.symm)
    clear h1
    generalize pb.length = nb at g1 g2 p_1 P ⊢
    generalize pa.length = na at g1 g2 p_0 P ⊢
    obtain ⟨q0, q1, q2, qf⟩ := Has.facts3 R
    go_wp2_with fail
    obtain ⟨z1, z3, _⟩ := rfin_end (x0 := .slice none 0 0) (x1 := .slice none 0 0) (x2 := .slice none 0 0) R rfl (by omega) O
    refine bodyPost_ret (v := .tuple #[.agg #[.slice none 0 0, .slice none 0 0, .slice none 0 0], .int .i64 11]) (res_rfin z1 rfl rfl) rfl ⟨HP.out _ _ (rfin_bad _ _ (.inr ⟨HG.out, H1.out, rfl⟩)), z3⟩
  by_cases h2 : pa.length = x.length
  rotate_left
  · have H1 := Lib.hid (show ¬ finOk ⟨pa, pb, pc⟩ x y from fun h => h2 h.2.1)
    have g1 : ((pb.length : Int) != (pa.length : Int)) = false := by rw [← h1]; simp
    have g2 : (pb.length != pa.length) = false := by rw [← h1]; simp
    have g3 := ne_nat (a := x.length) (b := pa.length) (fun e => h2 e.symm)
    have g4 := ne_nat2 (a := x.length) (b := pa.length) (fun e => h2 e.symm)
    clear h1 h2
    generalize pb.length = nb at g1 g2 p_1 P ⊢
    generalize x.length = nx at g3 g4 ⊢
    generalize pa.length = na at g1 g2 g3 g4 p_0 P ⊢
    obtain ⟨q0, q1, q2, qf⟩ := Has.facts3 R
    go_wp2_with fail
    obtain ⟨z1, z3, _⟩ := rfin_end (x0 := .slice none 0 0) (x1 := .slice none 0 0) (x2 := .slice none 0 0) R rfl (by omega) O
    refine bodyPost_ret (v := .tuple #[.agg #[.slice none 0 0, .slice none 0 0, .slice none 0 0], .int .i64 11]) (res_rfin z1 rfl rfl) rfl ⟨HP.out _ _ (rfin_bad _ _ (.inr ⟨HG.out, H1.out, rfl⟩)), z3⟩
  by_cases h3 : pa.length = y.length
  rotate_left
  · have H1 := Lib.hid (show ¬ finOk ⟨pa, pb, pc⟩ x y from fun h => h3 h.2.2)
    have g1 : ((pb.length : Int) != (pa.length : Int)) = false := by rw [← h1]; simp
    have g2 : (pb.length != pa.length) = false := by rw [← h1]; simp
    have g3 : ((x.length : Int) != (pa.length : Int)) = false := by rw [← h2]; simp
    have g4 : (x.length != pa.length) = false := by rw [← h2]; simp
    have g5 := ne_nat (a := y.length) (b := pa.length) (fun e => h3 e.symm)
    have g6 := ne_nat2 (a := y.length) (b := pa.length) (fun e => h3 e.symm)
    clear h1 h2 h3
    generalize pb.length = nb at g1 g2 p_1 P ⊢
    generalize x.length = nx at g3 g4 ⊢
    generalize y.length = ny at g5 g6 ⊢
    generalize pa.length = na at g1 g2 g3 g4 g5 g6 p_0 P ⊢
    obtain ⟨q0, q1, q2, qf⟩ := Has.facts3 R
    go_wp2_with fail
    obtain ⟨z1, z3, _⟩ := rfin_end (x0 := .slice none 0 0) (x1 := .slice none 0 0) (x2 := .slice none 0 0) R rfl (by omega) O
    refine bodyPost_ret (v := .tuple #[.agg #[.slice none 0 0, .slice none 0 0, .slice none 0 0], .int .i64 11]) (res_rfin z1 rfl rfl) rfl ⟨HP.out _ _ (rfin_bad _ _ (.inr ⟨HG.out, H1.out, rfl⟩)), z3⟩
  have H1 := Lib.hid h1
  have H2 := Lib.hid h2
  have H3 := Lib.hid h3
  have HB := Lib.hid (fun W (o : Only (fun _ => False) w W) => both_any W _ _ pa pb (HRA.out W o) (HRB.out W o) HL.out (by rw [← H1.out]; exact HL.out))
  have g1 : ((pb.length : Int) != (pa.length : Int)) = false := by rw [← h1]; simp
  have g2 : (pb.length != pa.length) = false := by rw [← h1]; simp
  have g3 : ((x.length : Int) != (pa.length : Int)) = false := by rw [← h2]; simp
  have g4 : (x.length != pa.length) = false := by rw [← h2]; simp
  have g5 : ((y.length : Int) != (pa.length : Int)) = false := by rw [← h3]; simp
  have g6 : (y.length != pa.length) = false := by rw [← h3]; simp
  clear h1 h2 h3
  go_wp2_with fail
  refine (HB.out _ O).mono ?_; rintro e w3 ⟨⟨u3, rfl, hu3⟩, o3⟩
  rw [both_and H1.out] at hu3
  have hr3 := Reads.ofOwn hu3 (by simp [bcellsB_length])
  obtain ⟨A3', k3', rfl, -⟩ := hr3.shape
  have O3 := O.trans o3
  have R3 := Only.has o3 R (fun f => f)
  have P3 := Only.has o3 P (fun f => f)
  have HR3 := Lib.hid hr3
  clear hr3 hu3 o3 R P p_0 p_1 p_2 p_f
  rw [bcellsB_length] at HR3
  simp only [bcellsB_length]
  obtain ⟨p0, p1, p2⟩ := part_facts P3
  have hlt := R3.lt
  go_wp2_with fail
  refine (odd3_any _ w3.heap.size _ _ _ (andL pa pb) x y (Has.new _ _ _) (HR3.out.inner ((Only.refl _ _).alloc _)) (HRX.out _ (O3.alloc _)) (HRY.out _ (O3.alloc _)) (by rw [andL_len H1.out]; exact HL.out)).mono ?_; rintro e w4 ⟨hp4, o4⟩
  have O4 := (O3.alloc _).trans o4
  have R4 := Only.has o4 (R3.alloc _) (fun f => f)
  have P4 := Only.has o4 (P3.alloc _) (fun f => f)
  rcases hp4 with ⟨l4, l4', A4, c4, rfl, r4, b4⟩ | ⟨l4, rfl⟩
  rotate_left
  · exact absurd ⟨by rw [andL_len H1.out]; exact H2.out.symm, by rw [andL_len H1.out]; exact H3.out.symm⟩ l4
  clear o4 l4 l4' P3 R3 p0 p1 p2
  have hb4 : w.heap.size + 1 < (w3.alloc (.cells #[.slice A3' (andL pa pb).length k3', .slice AX x.length kx, .slice AY y.length ky] 22)).heap.size := by simp; omega
  have V4 := Lib.hid r4
  have B4 := Lib.hid b4
  have HB4 := Lib.hid hb4
  clear r4 b4 hb4
  obtain ⟨p0, p1, p2⟩ := part_facts P4
  obtain ⟨q0, q1, q2, qf⟩ := Has.facts3 R4
  go_wp2_with fail
  obtain ⟨z1, z3, z4⟩ := rfin_end (x0 := .slice A1 pa.length k1) (x1 := .slice A2 pb.length k2) (x2 := .slice A4 (xorL (xorL (andL pa pb) x) y).length c4) R4 rfl (by omega) O4
  refine bodyPost_ret (v := .tuple #[.agg #[.slice A1 pa.length k1, .slice A2 pb.length k2, .slice A4 (xorL (xorL (andL pa pb) x) y).length c4], .int .i64 0]) (res_rfin z1 rfl rfl) rfl ⟨HP.out _ _ (rfin_good _ HG.out ⟨H1.out, H2.out, H3.out⟩ (HRA.out _ z3) (HRB.out _ z3) (z4 _ _ _ HB4.out B4.out V4.out)), z3⟩
end Go.Proofs.Ythkgjhjfgoglhaa

