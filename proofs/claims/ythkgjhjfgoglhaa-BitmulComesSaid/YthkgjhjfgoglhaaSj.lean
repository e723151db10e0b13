/- bitmul: Finish. -/
import Derived.Test.YthkgjhjfgoglhaaSi
set_option linter.unusedSimpArgs false
set_option linter.unusedVariables false
namespace Go.Proofs.Ythkgjhjfgoglhaa
open Go.RowKit

def finOk (p : Pt) (x y : List Bool) : Prop := p.a.length = p.b.length ∧ p.a.length = x.length ∧ p.a.length = y.length
instance (p : Pt) (x y : List Bool) : Decidable (finOk p x y) := by unfold finOk; infer_instance
def finC (p : Pt) (x y : List Bool) : Int := if goodB p.a.length = true then (if finOk p x y then 0 else 11) else 2
def finP (p : Pt) (x y : List Bool) : Pt := if goodB p.a.length = true ∧ finOk p x y then ⟨p.a, p.b, xorL (xorL (andL p.a p.b) x) y⟩ else ⟨[], [], []⟩
def FinPost (p : Pt) (x y : List Bool) (e : Ending) (W : World) : Prop := ∃ u, e = .returned (.tuple #[u, .int .i64 (finC p x y)]) ∧ PartV W 0 u (finP p x y)
theorem fin_bad {p : Pt} {x y : List Bool} (W : World) (c : Int) (h : (goodB p.a.length = false ∧ c = 2) ∨ (goodB p.a.length = true ∧ ¬ finOk p x y ∧ c = 11)) : FinPost p x y (.returned (.tuple #[.agg #[.int .i64 0, .slice none 0 0, .int .i64 0, .slice none 0 0, .int .i64 0, .slice none 0 0], .int .i64 c])) W := by
  have e1 : finP p x y = ⟨[], [], []⟩ := by unfold finP; rcases h with ⟨h, _⟩ | ⟨h, h2, _⟩ <;> rw [if_neg (by simp [h]; try exact h2)]
  have e3 : finC p x y = c := by
    unfold finC
    rcases h with ⟨h, rfl⟩ | ⟨h, h2, rfl⟩
    · rw [if_neg (by simp [h])]
    · rw [if_pos h, if_neg h2]
  unfold FinPost
  rw [e1, e3]
  exact ⟨_, rfl, none, 0, 0, none, 0, 0, none, 0, 0, rfl, VL.zero _ _, VL.zero _ _, VL.zero _ _⟩
theorem fin_good {p : Pt} {x y : List Bool} (W : World) {A1 A2 A3 : Option Addr} {k1 c1 k2 c2 k3 c3 : Nat} (h : goodB p.a.length = true) (h1 : finOk p x y) (v1 : VL W 0 (.agg #[.int .i64 p.a.length, .slice A1 k1 c1]) p.a) (v2 : VL W 0 (.agg #[.int .i64 p.b.length, .slice A2 k2 c2]) p.b) (v3 : VL W 0 (.agg #[.int .i64 (xorL (xorL (andL p.a p.b) x) y).length, .slice A3 k3 c3]) (xorL (xorL (andL p.a p.b) x) y)) : FinPost p x y (.returned (.tuple #[.agg #[.int .i64 p.a.length, .slice A1 k1 c1, .int .i64 p.b.length, .slice A2 k2 c2, .int .i64 (xorL (xorL (andL p.a p.b) x) y).length, .slice A3 k3 c3], .int .i64 0])) W := by
  have e1 : finP p x y = ⟨p.a, p.b, xorL (xorL (andL p.a p.b) x) y⟩ := by unfold finP; rw [if_pos ⟨h, h1⟩]
  have e3 : finC p x y = 0 := by unfold finC; rw [if_pos h, if_pos h1]
  unfold FinPost
  rw [e1, e3]
  exact ⟨_, rfl, _, _, _, _, _, _, _, _, _, rfl, v1, v2, v3⟩
theorem res_fin {W : World} {b : Nat} {x0 x1 x2 x3 x4 x5 v : Value} {tm : Array Value} (h : Has W b 34 #[x0, x1, x2, x3, x4, x5]) (h6 : tm.getD 6 undef = .pointer (some ⟨b, 0, none⟩)) (h7 : tm.getD 7 undef = v) :
    (results Try.f20 tm).run Try.prog W = .ok (.tuple #[.agg #[x0, x1, x2, x3, x4, x5], v]) W := by
  obtain ⟨c0, c1, c2, c3, c4, c5, _⟩ := h.facts6
  simp only [Array.getD_eq_getD_getElem?] at h6 h7
  simp [results, Try.results20, go_sem, h6, h7, c0, c1, c2, c3, c4, c5]
/-- A result block is written. -/
theorem fin_end {w W : World} {b1 : Nat} {x0 x1 x2 x3 x4 x5 : Value} {cs1 : Array Value} (h1 : Has W b1 34 cs1) (n1 : cs1.size = 6) (hb1 : w.heap.size ≤ b1) (o : Only (fun _ => False) w W) :
    Has ((((((W.setCell ⟨b1, 0, none⟩ x0).setCell ⟨b1, 1, none⟩ x1).setCell ⟨b1, 2, none⟩ x2).setCell ⟨b1, 3, none⟩ x3).setCell ⟨b1, 4, none⟩ x4).setCell ⟨b1, 5, none⟩ x5) b1 34 #[x0, x1, x2, x3, x4, x5] ∧ Only (fun _ => False) w ((((((W.setCell ⟨b1, 0, none⟩ x0).setCell ⟨b1, 1, none⟩ x1).setCell ⟨b1, 2, none⟩ x2).setCell ⟨b1, 3, none⟩ x3).setCell ⟨b1, 4, none⟩ x4).setCell ⟨b1, 5, none⟩ x5)
    ∧ ∀ v l, VL W 0 v l → VL ((((((W.setCell ⟨b1, 0, none⟩ x0).setCell ⟨b1, 1, none⟩ x1).setCell ⟨b1, 2, none⟩ x2).setCell ⟨b1, 3, none⟩ x3).setCell ⟨b1, 4, none⟩ x4).setCell ⟨b1, 5, none⟩ x5) 0 v l :=
  ⟨Has.put6 h1 n1 x0 x1 x2 x3 x4 x5, o.then_ (Only.put6 W b1 x0 x1 x2 x3 x4 x5) (fun i hi e => absurd hi (by have : i = b1 := e; omega)), fun v l hv => hv.putT h1 (by decide) (Only.put6 W b1 x0 x1 x2 x3 x4 x5)⟩
set_option maxRecDepth 100000 in
set_option maxHeartbeats 4000000 in
theorem fin_any (w : World) (v vx vy : Value) (p : Pt) (x y : List Bool) (hv : PartV w 0 v p) (hx : VL w 0 vx x) (hy : VL w 0 vy y) (hl : p.a.length ≤ 4194304) : Calls Try.prog 20 #[v, vx, vy] w fun e w' => FinPost p x y e w' ∧ Only (fun _ => False) w w' := by
  obtain ⟨P, hP⟩ : ∃ P : Ending → World → Prop, P = fun e W => FinPost p x y e W := ⟨_, rfl⟩
  have HP := Lib.hid (show ∀ e W, FinPost p x y e W → P e W by intro e W h; rw [hP]; exact h)
  have hG : (fun (e : Ending) (w' : World) => FinPost p x y e w' ∧ Only (fun _ => False) w w') = fun e w' => P e w' ∧ Only (fun _ => False) w w' := by rw [hP]
  rw [hG]
  clear hG hP
  obtain ⟨pa, pb, pc⟩ := p
  obtain ⟨A1, m1, c1, A2, m2, c2, A3, m3, c3, rfl, ha, hb, hc⟩ := hv
  obtain ⟨AX, mx, cx, rfl⟩ := hx.shape
  obtain ⟨AY, my, cy, rfl⟩ := hy.shape
  simp only at *
  have HLA := Lib.hid (fun W (o : Only (fun _ => False) w W) => blen_any W 0 _ pa (ha.inner o))
  have HA1 := Lib.hid (fun W (o : Only (fun _ => False) w W) => band_any W 0 0 _ _ pa pb (ha.inner o) (hb.inner o) hl)
  have HVA := Lib.hid ha
  have HVB := Lib.hid hb
  have HVX := Lib.hid hx
  have HVY := Lib.hid hy
  have LA := Lib.hid hl
  clear ha hb hc hx hy hl
  generalize hW : ((((w.alloc (.cells #[.int .i64 pa.length, .slice A1 m1 c1, .int .i64 pb.length, .slice A2 m2 c2, .int .i64 pc.length, .slice A3 m3 c3] 34)).alloc (.cells #[.int .i64 x.length, .slice AX mx cx] 29)).alloc (.cells #[.int .i64 y.length, .slice AY my cy] 29)).alloc (.cells #[.int .i64 0, .slice none 0 0, .int .i64 0, .slice none 0 0, .int .i64 0, .slice none 0 0] 34)) = W5
  have HW := Lib.hid hW
  have P : Has W5 w.heap.size 34 #[.int .i64 pa.length, .slice A1 m1 c1, .int .i64 pb.length, .slice A2 m2 c2, .int .i64 pc.length, .slice A3 m3 c3] := by rw [← hW]; exact (((Has.new _ _ _).alloc _).alloc _).alloc _
  have X : Has W5 (w.heap.size + 1) 29 #[.int .i64 x.length, .slice AX mx cx] := by rw [← hW]; exact ((has_new2 _ _ _ _).alloc _).alloc _
  have Y : Has W5 (w.heap.size + 2) 29 #[.int .i64 y.length, .slice AY my cy] := by rw [← hW]; exact (has_new3 _ _ _ _ _).alloc _
  have R : Has W5 (w.heap.size + 3) 34 #[.int .i64 0, .slice none 0 0, .int .i64 0, .slice none 0 0, .int .i64 0, .slice none 0 0] := by rw [← hW]; exact has_new4 _ _ _ _ _ _
  have O : Only (fun _ => False) w W5 := by rw [← hW]; exact ((((Only.refl _ _).alloc _).alloc _).alloc _).alloc _
  clear hW
  go_enter Try.func20, Try.ntmps20
  go_upto_region 1 with fail
  rw [HW.out]
  clear HW
  obtain ⟨p_0, p_1, p_2, p_3, p_4, p_5, p_f⟩ := Has.facts6 P
  go_wp2_with fail
  clear p_0 p_1 p_2 p_3 p_4 p_5 p_f
  refine (HLA.out _ O).mono ?_; rintro e w1 ⟨rfl, o1⟩
  have P1 := Only.has o1 P (fun f => f)
  have X1 := Only.has o1 X (fun f => f)
  have Y1 := Only.has o1 Y (fun f => f)
  have R1 := Only.has o1 R (fun f => f)
  have O1 := O.trans o1
  clear P X Y R O
  clear o1
  go_wp2_with fail
  refine (bcheck_any _ _).mono ?_; rintro e w2 ⟨rfl, rfl⟩
  cases hg : goodB pa.length
  · have HG := Lib.hid hg
    clear hg
    obtain ⟨r0, r1, r2, r3, r4, r5, rf⟩ := Has.facts6 R1
    go_wp2_with fail
    obtain ⟨z1, z3, _⟩ := fin_end (x0 := .int .i64 0) (x1 := .slice none 0 0) (x2 := .int .i64 0) (x3 := .slice none 0 0) (x4 := .int .i64 0) (x5 := .slice none 0 0) R1 rfl (by omega) O1
    refine bodyPost_ret (v := .tuple #[.agg #[.int .i64 0, .slice none 0 0, .int .i64 0, .slice none 0 0, .int .i64 0, .slice none 0 0], .int .i64 2]) (res_fin z1 rfl rfl) rfl ⟨HP.out _ _ (fin_bad _ _ (.inl ⟨HG.out, rfl⟩)), z3⟩
  have HG := Lib.hid hg
  clear hg
  obtain ⟨p_0, p_1, p_2, p_3, p_4, p_5, p_f⟩ := Has.facts6 P1
  go_wp2_with fail
  clear p_0 p_1 p_2 p_3 p_4 p_5 p_f
  refine (HA1.out _ O1).mono ?_; rintro e w2 ⟨hz2, o2⟩
  have P2 := Only.has o2 P1 (fun f => f)
  have X2 := Only.has o2 X1 (fun f => f)
  have Y2 := Only.has o2 Y1 (fun f => f)
  have R2 := Only.has o2 R1 (fun f => f)
  have O2 := O1.trans o2
  clear P1 X1 Y1 R1 O1
  clear o2
  rcases zip_lit hz2 with ⟨hl2, B2, k2, d2, rfl, hv2⟩ | ⟨hl2, rfl⟩
  rotate_left
  · have HL2 := Lib.hid hl2
    clear hz2 hl2
    have P3 := Has.alloc P2 (.cells #[.int .i64 0, .slice none 0 0] 29)
    have X3 := Has.alloc X2 (.cells #[.int .i64 0, .slice none 0 0] 29)
    have Y3 := Has.alloc Y2 (.cells #[.int .i64 0, .slice none 0 0] 29)
    have R3 := Has.alloc R2 (.cells #[.int .i64 0, .slice none 0 0] 29)
    have O3 := O2.alloc (.cells #[.int .i64 0, .slice none 0 0] 29)
    clear P2 X2 Y2 R2 O2
    obtain ⟨r0, r1, r2, r3, r4, r5, rf⟩ := Has.facts6 R3
    go_wp2_with fail
    obtain ⟨z1, z3, _⟩ := fin_end (x0 := .int .i64 0) (x1 := .slice none 0 0) (x2 := .int .i64 0) (x3 := .slice none 0 0) (x4 := .int .i64 0) (x5 := .slice none 0 0) R3 rfl (by omega) O3
    refine bodyPost_ret (v := .tuple #[.agg #[.int .i64 0, .slice none 0 0, .int .i64 0, .slice none 0 0, .int .i64 0, .slice none 0 0], .int .i64 11]) (res_fin z1 rfl rfl) rfl ⟨HP.out _ _ (fin_bad _ _ (.inr ⟨HG.out, fun h => HL2.out h.1, rfl⟩)), z3⟩
  clear hz2
  have HV2 := Lib.hid (hv2.mono (Nat.zero_le _))
  have HL2 := Lib.hid hl2
  clear hv2 hl2
  have hdlt := Has.lt R2
  have P3 := Has.alloc P2 (.cells #[.int .i64 (andL pa pb).length, .slice B2 k2 d2] 29)
  have X3 := Has.alloc X2 (.cells #[.int .i64 (andL pa pb).length, .slice B2 k2 d2] 29)
  have Y3 := Has.alloc Y2 (.cells #[.int .i64 (andL pa pb).length, .slice B2 k2 d2] 29)
  have R3 := Has.alloc R2 (.cells #[.int .i64 (andL pa pb).length, .slice B2 k2 d2] 29)
  have O3 := O2.alloc (.cells #[.int .i64 (andL pa pb).length, .slice B2 k2 d2] 29)
  have HV23 := Lib.hid (HV2.out.inner ((Only.refl _ _).alloc (.cells #[.int .i64 (andL pa pb).length, .slice B2 k2 d2] 29)))
  clear P2 X2 Y2 R2 O2 HV2
  have D := Has.new w2 29 #[.int .i64 (andL pa pb).length, .slice B2 k2 d2]
  obtain ⟨x_0, x_1, x_f⟩ := Has.facts2 X3
  obtain ⟨d_0, d_1, d_f⟩ := Has.facts2 D
  go_wp2_with fail
  clear x_0 x_1 x_f d_0 d_1 d_f
  refine (bxor_any _ 0 0 _ _ (andL pa pb) x HV23.out (HVX.out.inner O3) (by rw [andL_len HL2.out]; exact LA.out)).mono ?_; rintro e w4 ⟨hz3, o4⟩
  have P4 := Only.has o4 P3 (fun f => f)
  have X4 := Only.has o4 X3 (fun f => f)
  have Y4 := Only.has o4 Y3 (fun f => f)
  have R4 := Only.has o4 R3 (fun f => f)
  have O4 := O3.trans o4
  have HV24 := Lib.hid (HV23.out.inner o4)
  have D4 := Only.has o4 D (fun f => f)
  clear P3 X3 Y3 R3 O3 HV23 D
  clear o4
  rcases zip_lit hz3 with ⟨hl3, B3, k3, d3, rfl, hv3⟩ | ⟨hl3, rfl⟩
  rotate_left
  · have HL3 := Lib.hid hl3
    clear hz3 hl3
    obtain ⟨d_0, d_1, d_f⟩ := Has.facts2 D4
    go_upto_region 8 with fail
    clear d_0 d_1 d_f
    have P5 := Has.off2 (b := w2.heap.size) P4 (by omega) (.int .i64 0) (.slice none 0 0)
    have X5 := Has.off2 (b := w2.heap.size) X4 (by omega) (.int .i64 0) (.slice none 0 0)
    have Y5 := Has.off2 (b := w2.heap.size) Y4 (by omega) (.int .i64 0) (.slice none 0 0)
    have R5 := Has.off2 (b := w2.heap.size) R4 (by omega) (.int .i64 0) (.slice none 0 0)
    have O5 := Only.then_ O4 (Only.put2 _ w2.heap.size (.int .i64 0) (.slice none 0 0)) (fun i hi e => absurd hi (by have : i = w2.heap.size := e; omega))
    have HV25 := Lib.hid (VL.putT HV24.out D4 (by decide) (Only.put2 _ _ (.int .i64 0) (.slice none 0 0)))
    have D5 := Has.put2 D4 rfl (.int .i64 0) (.slice none 0 0)
    clear P4 X4 Y4 R4 O4 HV24 D4
    generalize ((w4.setCell ⟨w2.heap.size, 0, none⟩ (.int .i64 0)).setCell ⟨w2.heap.size, 1, none⟩ (.slice none 0 0)) = w5 at *
    obtain ⟨r0, r1, r2, r3, r4, r5, rf⟩ := Has.facts6 R5
    go_wp2_with fail
    obtain ⟨z1, z3, _⟩ := fin_end (x0 := .int .i64 0) (x1 := .slice none 0 0) (x2 := .int .i64 0) (x3 := .slice none 0 0) (x4 := .int .i64 0) (x5 := .slice none 0 0) R5 rfl (by omega) O5
    refine bodyPost_ret (v := .tuple #[.agg #[.int .i64 0, .slice none 0 0, .int .i64 0, .slice none 0 0, .int .i64 0, .slice none 0 0], .int .i64 11]) (res_fin z1 rfl rfl) rfl ⟨HP.out _ _ (fin_bad _ _ (.inr ⟨HG.out, fun h => HL3.out (by rw [andL_len HL2.out]; exact h.2.1), rfl⟩)), z3⟩
  clear hz3
  have HV3 := Lib.hid (hv3.mono (Nat.zero_le _))
  have HL3 := Lib.hid hl3
  clear hv3 hl3
  obtain ⟨d_0, d_1, d_f⟩ := Has.facts2 D4
  go_upto_region 8 with fail
  clear d_0 d_1 d_f
  have P5 := Has.off2 (b := w2.heap.size) P4 (by omega) (.int .i64 (xorL (andL pa pb) x).length) (.slice B3 k3 d3)
  have X5 := Has.off2 (b := w2.heap.size) X4 (by omega) (.int .i64 (xorL (andL pa pb) x).length) (.slice B3 k3 d3)
  have Y5 := Has.off2 (b := w2.heap.size) Y4 (by omega) (.int .i64 (xorL (andL pa pb) x).length) (.slice B3 k3 d3)
  have R5 := Has.off2 (b := w2.heap.size) R4 (by omega) (.int .i64 (xorL (andL pa pb) x).length) (.slice B3 k3 d3)
  have O5 := Only.then_ O4 (Only.put2 _ w2.heap.size (.int .i64 (xorL (andL pa pb) x).length) (.slice B3 k3 d3)) (fun i hi e => absurd hi (by have : i = w2.heap.size := e; omega))
  have HV25 := Lib.hid (VL.putT HV24.out D4 (by decide) (Only.put2 _ _ (.int .i64 (xorL (andL pa pb) x).length) (.slice B3 k3 d3)))
  have D5 := Has.put2 D4 rfl (.int .i64 (xorL (andL pa pb) x).length) (.slice B3 k3 d3)
  have HV35 := Lib.hid (VL.putT HV3.out D4 (by decide) (Only.put2 _ _ (.int .i64 (xorL (andL pa pb) x).length) (.slice B3 k3 d3)))
  clear P4 X4 Y4 R4 O4 HV24 D4 HV3
  generalize ((w4.setCell ⟨w2.heap.size, 0, none⟩ (.int .i64 (xorL (andL pa pb) x).length)).setCell ⟨w2.heap.size, 1, none⟩ (.slice B3 k3 d3)) = w5 at *
  obtain ⟨y_0, y_1, y_f⟩ := Has.facts2 Y5
  obtain ⟨d_0, d_1, d_f⟩ := Has.facts2 D5
  go_wp2_with fail
  clear y_0 y_1 y_f d_0 d_1 d_f
  refine (bxor_any _ 0 0 _ _ (xorL (andL pa pb) x) y HV35.out (HVY.out.inner O5) (by rw [xorL_len HL3.out, andL_len HL2.out]; exact LA.out)).mono ?_; rintro e w6 ⟨hz4, o6⟩
  have P6 := Only.has o6 P5 (fun f => f)
  have X6 := Only.has o6 X5 (fun f => f)
  have Y6 := Only.has o6 Y5 (fun f => f)
  have R6 := Only.has o6 R5 (fun f => f)
  have O6 := O5.trans o6
  have HV26 := Lib.hid (HV25.out.inner o6)
  have D6 := Only.has o6 D5 (fun f => f)
  have HV36 := Lib.hid (HV35.out.inner o6)
  clear P5 X5 Y5 R5 O5 HV25 D5 HV35
  clear o6
  rcases zip_lit hz4 with ⟨hl4, B4, k4, d4, rfl, hv4⟩ | ⟨hl4, rfl⟩
  rotate_left
  · have HL4 := Lib.hid hl4
    clear hz4 hl4
    obtain ⟨d_0, d_1, d_f⟩ := Has.facts2 D6
    go_upto_region 11 with fail
    clear d_0 d_1 d_f
    have P7 := Has.off2 (b := w2.heap.size) P6 (by omega) (.int .i64 0) (.slice none 0 0)
    have X7 := Has.off2 (b := w2.heap.size) X6 (by omega) (.int .i64 0) (.slice none 0 0)
    have Y7 := Has.off2 (b := w2.heap.size) Y6 (by omega) (.int .i64 0) (.slice none 0 0)
    have R7 := Has.off2 (b := w2.heap.size) R6 (by omega) (.int .i64 0) (.slice none 0 0)
    have O7 := Only.then_ O6 (Only.put2 _ w2.heap.size (.int .i64 0) (.slice none 0 0)) (fun i hi e => absurd hi (by have : i = w2.heap.size := e; omega))
    have HV27 := Lib.hid (VL.putT HV26.out D6 (by decide) (Only.put2 _ _ (.int .i64 0) (.slice none 0 0)))
    have D7 := Has.put2 D6 rfl (.int .i64 0) (.slice none 0 0)
    have HV37 := Lib.hid (VL.putT HV36.out D6 (by decide) (Only.put2 _ _ (.int .i64 0) (.slice none 0 0)))
    clear P6 X6 Y6 R6 O6 HV26 D6 HV36
    generalize ((w6.setCell ⟨w2.heap.size, 0, none⟩ (.int .i64 0)).setCell ⟨w2.heap.size, 1, none⟩ (.slice none 0 0)) = w7 at *
    obtain ⟨r0, r1, r2, r3, r4, r5, rf⟩ := Has.facts6 R7
    go_wp2_with fail
    obtain ⟨z1, z3, _⟩ := fin_end (x0 := .int .i64 0) (x1 := .slice none 0 0) (x2 := .int .i64 0) (x3 := .slice none 0 0) (x4 := .int .i64 0) (x5 := .slice none 0 0) R7 rfl (by omega) O7
    refine bodyPost_ret (v := .tuple #[.agg #[.int .i64 0, .slice none 0 0, .int .i64 0, .slice none 0 0, .int .i64 0, .slice none 0 0], .int .i64 11]) (res_fin z1 rfl rfl) rfl ⟨HP.out _ _ (fin_bad _ _ (.inr ⟨HG.out, fun h => HL4.out (by rw [xorL_len HL3.out, andL_len HL2.out]; exact h.2.2), rfl⟩)), z3⟩
  clear hz4
  have HV4 := Lib.hid (hv4.mono (Nat.zero_le _))
  have HL4 := Lib.hid hl4
  clear hv4 hl4
  obtain ⟨d_0, d_1, d_f⟩ := Has.facts2 D6
  go_upto_region 11 with fail
  clear d_0 d_1 d_f
  have P7 := Has.off2 (b := w2.heap.size) P6 (by omega) (.int .i64 (xorL (xorL (andL pa pb) x) y).length) (.slice B4 k4 d4)
  have X7 := Has.off2 (b := w2.heap.size) X6 (by omega) (.int .i64 (xorL (xorL (andL pa pb) x) y).length) (.slice B4 k4 d4)
  have Y7 := Has.off2 (b := w2.heap.size) Y6 (by omega) (.int .i64 (xorL (xorL (andL pa pb) x) y).length) (.slice B4 k4 d4)
  have R7 := Has.off2 (b := w2.heap.size) R6 (by omega) (.int .i64 (xorL (xorL (andL pa pb) x) y).length) (.slice B4 k4 d4)
  have O7 := Only.then_ O6 (Only.put2 _ w2.heap.size (.int .i64 (xorL (xorL (andL pa pb) x) y).length) (.slice B4 k4 d4)) (fun i hi e => absurd hi (by have : i = w2.heap.size := e; omega))
  have HV27 := Lib.hid (VL.putT HV26.out D6 (by decide) (Only.put2 _ _ (.int .i64 (xorL (xorL (andL pa pb) x) y).length) (.slice B4 k4 d4)))
  have D7 := Has.put2 D6 rfl (.int .i64 (xorL (xorL (andL pa pb) x) y).length) (.slice B4 k4 d4)
  have HV37 := Lib.hid (VL.putT HV36.out D6 (by decide) (Only.put2 _ _ (.int .i64 (xorL (xorL (andL pa pb) x) y).length) (.slice B4 k4 d4)))
  have HV47 := Lib.hid (VL.putT HV4.out D6 (by decide) (Only.put2 _ _ (.int .i64 (xorL (xorL (andL pa pb) x) y).length) (.slice B4 k4 d4)))
  clear P6 X6 Y6 R6 O6 HV26 D6 HV36 HV4
  generalize ((w6.setCell ⟨w2.heap.size, 0, none⟩ (.int .i64 (xorL (xorL (andL pa pb) x) y).length)).setCell ⟨w2.heap.size, 1, none⟩ (.slice B4 k4 d4)) = w7 at *
  obtain ⟨p_0, p_1, p_2, p_3, p_4, p_5, p_f⟩ := Has.facts6 P7
  obtain ⟨d_0, d_1, d_f⟩ := Has.facts2 D7
  obtain ⟨r_0, r_1, r_2, r_3, r_4, r_5, r_f⟩ := Has.facts6 R7
  go_wp2_with fail
  obtain ⟨z1, z3, z4⟩ := fin_end (x0 := .int .i64 pa.length) (x1 := .slice A1 m1 c1) (x2 := .int .i64 pb.length) (x3 := .slice A2 m2 c2) (x4 := .int .i64 (xorL (xorL (andL pa pb) x) y).length) (x5 := .slice B4 k4 d4) R7 rfl (by omega) O7
  refine bodyPost_ret (v := .tuple #[.agg #[.int .i64 pa.length, .slice A1 m1 c1, .int .i64 pb.length, .slice A2 m2 c2, .int .i64 (xorL (xorL (andL pa pb) x) y).length, .slice B4 k4 d4], .int .i64 0]) (res_fin z1 rfl rfl) rfl ⟨HP.out _ _ (fin_good _ HG.out ⟨HL2.out, by rw [← andL_len HL2.out]; exact HL3.out, by rw [← andL_len HL2.out, ← xorL_len HL3.out]; exact HL4.out⟩ (z4 _ _ (HVA.out.inner O7)) (z4 _ _ (HVB.out.inner O7)) (z4 _ _ HV47.out)), z3⟩
end Go.Proofs.Ythkgjhjfgoglhaa
