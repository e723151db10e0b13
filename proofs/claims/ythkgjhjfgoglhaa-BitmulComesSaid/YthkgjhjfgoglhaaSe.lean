/- bitmul: Send. -/
import Derived.Test.YthkgjhjfgoglhaaSd
set_option linter.unusedSimpArgs false
set_option linter.unusedVariables false
namespace Go.Proofs.Ythkgjhjfgoglhaa
open Go.RowKit

def sendC (p : Pt) (x y : List Bool) : Int := if goodB p.b.length = true then (if x.length = y.length ∧ x.length = p.b.length then 0 else 11) else 2
def sendF (p : Pt) (x y : List Bool) : List Bool := if goodB p.b.length = true ∧ x.length = y.length ∧ x.length = p.b.length then xorL (xorL x y) p.b else []
def sendZ (p : Pt) (x y : List Bool) : List Bool := if goodB p.b.length = true ∧ x.length = y.length ∧ x.length = p.b.length then x else []
def SendPost (p : Pt) (x y : List Bool) (e : Ending) (W : World) : Prop := ∃ A1 k1 c1 A2 k2 c2, e = .returned (.tuple #[.agg #[.int .i64 (sendF p x y).length, .slice A1 k1 c1], .agg #[.int .i64 (sendZ p x y).length, .slice A2 k2 c2], .int .i64 (sendC p x y)]) ∧ VL W 0 (.agg #[.int .i64 (sendF p x y).length, .slice A1 k1 c1]) (sendF p x y) ∧ VL W 0 (.agg #[.int .i64 (sendZ p x y).length, .slice A2 k2 c2]) (sendZ p x y)
theorem send_bad {p : Pt} {x y : List Bool} (W : World) (c : Int) (h : (goodB p.b.length = false ∧ c = 2) ∨ (goodB p.b.length = true ∧ ¬ (x.length = y.length ∧ x.length = p.b.length) ∧ c = 11)) : SendPost p x y (.returned (.tuple #[.agg #[.int .i64 0, .slice none 0 0], .agg #[.int .i64 0, .slice none 0 0], .int .i64 c])) W := by
  have e1 : sendF p x y = [] := by unfold sendF; rcases h with ⟨h, _⟩ | ⟨h, h2, _⟩ <;> rw [if_neg (by simp [h]; try exact fun a b => h2 ⟨a, b⟩)]
  have e2 : sendZ p x y = [] := by unfold sendZ; rcases h with ⟨h, _⟩ | ⟨h, h2, _⟩ <;> rw [if_neg (by simp [h]; try exact fun a b => h2 ⟨a, b⟩)]
  have e3 : sendC p x y = c := by
    unfold sendC
    rcases h with ⟨h, rfl⟩ | ⟨h, h2, rfl⟩
    · rw [if_neg (by simp [h])]
    · rw [if_pos h, if_neg h2]
  unfold SendPost
  rw [e1, e2, e3]
  exact ⟨none, 0, 0, none, 0, 0, rfl, VL.zero _ _, VL.zero _ _⟩
theorem send_good {p : Pt} {x y : List Bool} (W : World) {A1 A2 : Option Addr} {k1 c1 k2 c2 : Nat} (h : goodB p.b.length = true) (h1 : x.length = y.length) (h2 : x.length = p.b.length) (v1 : VL W 0 (.agg #[.int .i64 (xorL (xorL x y) p.b).length, .slice A1 k1 c1]) (xorL (xorL x y) p.b)) (v2 : VL W 0 (.agg #[.int .i64 x.length, .slice A2 k2 c2]) x) : SendPost p x y (.returned (.tuple #[.agg #[.int .i64 (xorL (xorL x y) p.b).length, .slice A1 k1 c1], .agg #[.int .i64 x.length, .slice A2 k2 c2], .int .i64 0])) W := by
  have e1 : sendF p x y = xorL (xorL x y) p.b := by unfold sendF; rw [if_pos ⟨h, h1, h2⟩]
  have e2 : sendZ p x y = x := by unfold sendZ; rw [if_pos ⟨h, h1, h2⟩]
  have e3 : sendC p x y = 0 := by unfold sendC; rw [if_pos h, if_pos ⟨h1, h2⟩]
  unfold SendPost
  rw [e1, e2, e3]
  exact ⟨_, _, _, _, _, _, rfl, v1, v2⟩
theorem res_send {W : World} {b b' : Nat} {x0 x1 y0 y1 v : Value} {tm : Array Value} (h : Has W b 29 #[x0, x1]) (h' : Has W b' 29 #[y0, y1]) (h6 : tm.getD 6 undef = .pointer (some ⟨b, 0, none⟩)) (h7 : tm.getD 7 undef = .pointer (some ⟨b', 0, none⟩)) (h8 : tm.getD 8 undef = v) :
    (results Try.f15 tm).run Try.prog W = .ok (.tuple #[.agg #[x0, x1], .agg #[y0, y1], v]) W := by
  obtain ⟨c0, c1, _⟩ := h.facts2
  obtain ⟨d0, d1, _⟩ := h'.facts2
  simp only [Array.getD_eq_getD_getElem?] at h6 h7 h8
  simp [results, Try.results15, go_sem, h6, h7, h8, c0, c1, d0, d1]
theorem has_new4 (w : World) (o o2 o3 : Obj) (t : TypeId) (cs : Array Value) : Has ((((w.alloc o).alloc o2).alloc o3).alloc (.cells cs t)) (w.heap.size + 3) t cs := by
  have h := Has.new (((w.alloc o).alloc o2).alloc o3) t cs
  rwa [show (((w.alloc o).alloc o2).alloc o3).heap.size = w.heap.size + 3 by simp] at h
theorem has_new5 (w : World) (o o2 o3 o4 : Obj) (t : TypeId) (cs : Array Value) : Has (((((w.alloc o).alloc o2).alloc o3).alloc o4).alloc (.cells cs t)) (w.heap.size + 4) t cs := by
  have h := Has.new ((((w.alloc o).alloc o2).alloc o3).alloc o4) t cs
  rwa [show ((((w.alloc o).alloc o2).alloc o3).alloc o4).heap.size = w.heap.size + 4 by simp] at h
/-- Two result blocks are written, in either order. -/
theorem send_end {w W : World} {b1 b2 : Nat} {x0 x1 y0 y1 : Value} {cs1 cs2 : Array Value} (h1 : Has W b1 29 cs1) (h2 : Has W b2 29 cs2) (n1 : cs1.size = 2) (n2 : cs2.size = 2) (hne : b1 ≠ b2) (hb1 : w.heap.size ≤ b1) (hb2 : w.heap.size ≤ b2) (o : Only (fun _ => False) w W) :
    Has ((((W.setCell ⟨b1, 0, none⟩ x0).setCell ⟨b1, 1, none⟩ x1).setCell ⟨b2, 0, none⟩ y0).setCell ⟨b2, 1, none⟩ y1) b1 29 #[x0, x1] ∧ Has ((((W.setCell ⟨b1, 0, none⟩ x0).setCell ⟨b1, 1, none⟩ x1).setCell ⟨b2, 0, none⟩ y0).setCell ⟨b2, 1, none⟩ y1) b2 29 #[y0, y1]
    ∧ Only (fun _ => False) w ((((W.setCell ⟨b1, 0, none⟩ x0).setCell ⟨b1, 1, none⟩ x1).setCell ⟨b2, 0, none⟩ y0).setCell ⟨b2, 1, none⟩ y1)
    ∧ ∀ v l, VL W 0 v l → VL ((((W.setCell ⟨b1, 0, none⟩ x0).setCell ⟨b1, 1, none⟩ x1).setCell ⟨b2, 0, none⟩ y0).setCell ⟨b2, 1, none⟩ y1) 0 v l := by
  have k1 := Has.put2 h1 n1 x0 x1
  have k2 := Has.off2 h2 (Ne.symm hne) x0 x1
  refine ⟨Has.off2 k1 hne y0 y1, Has.put2 k2 n2 y0 y1, (o.then_ (Only.put2 W b1 x0 x1) (fun i hi e => absurd hi (by have : i = b1 := e; omega))).then_ (Only.put2 _ b2 y0 y1) (fun i hi e => absurd hi (by have : i = b2 := e; omega)), fun v l hv => ?_⟩
  exact (hv.putT h1 (by decide) (Only.put2 W b1 x0 x1)).putT k2 (by decide) (Only.put2 _ b2 y0 y1)
set_option maxRecDepth 100000 in
set_option maxHeartbeats 4000000 in
theorem send_any (w : World) (v vx vy : Value) (p : Pt) (x y : List Bool) (hv : PartV w 0 v p) (hx : VL w 0 vx x) (hy : VL w 0 vy y) (hl : x.length ≤ 4194304) : Calls Try.prog 15 #[v, vx, vy] w fun e w' => SendPost p x y e w' ∧ Only (fun _ => False) w w' := by
  obtain ⟨P, hP⟩ : ∃ P : Ending → World → Prop, P = fun e W => SendPost p x y e W := ⟨_, rfl⟩
  have HP := Lib.hid (show ∀ e W, SendPost p x y e W → P e W by intro e W h; rw [hP]; exact h)
  have hG : (fun (e : Ending) (w' : World) => SendPost p x y e w' ∧ Only (fun _ => False) w w') = fun e w' => P e w' ∧ Only (fun _ => False) w w' := by rw [hP]
  rw [hG]
  clear hG hP
  obtain ⟨pa, pb, pc⟩ := p
  obtain ⟨A1, m1, c1, A2, m2, c2, A3, m3, c3, rfl, ha, hb, hc⟩ := hv
  obtain ⟨AX, mx, cx, rfl⟩ := hx.shape
  obtain ⟨AY, my, cy, rfl⟩ := hy.shape
  simp only at *
  have HLB := Lib.hid (fun W (o : Only (fun _ => False) w W) => blen_any W 0 _ pb (hb.inner o))
  have HX1 := Lib.hid (fun W (o : Only (fun _ => False) w W) => bxor_any W 0 0 _ _ x y (hx.inner o) (hy.inner o) hl)
  have HVB := Lib.hid hb
  have HVX := Lib.hid hx
  have LX := Lib.hid hl
  clear ha hb hc hx hy hl
  generalize hW : (((((w.alloc (.cells #[.int .i64 pa.length, .slice A1 m1 c1, .int .i64 pb.length, .slice A2 m2 c2, .int .i64 pc.length, .slice A3 m3 c3] 34)).alloc (.cells #[.int .i64 x.length, .slice AX mx cx] 29)).alloc (.cells #[.int .i64 y.length, .slice AY my cy] 29)).alloc (.cells #[.int .i64 0, .slice none 0 0] 29)).alloc (.cells #[.int .i64 0, .slice none 0 0] 29)) = W5
  have HW := Lib.hid hW
  have P : Has W5 w.heap.size 34 #[.int .i64 pa.length, .slice A1 m1 c1, .int .i64 pb.length, .slice A2 m2 c2, .int .i64 pc.length, .slice A3 m3 c3] := by rw [← hW]; exact ((((Has.new _ _ _).alloc _).alloc _).alloc _).alloc _
  have X : Has W5 (w.heap.size + 1) 29 #[.int .i64 x.length, .slice AX mx cx] := by rw [← hW]; exact (((has_new2 _ _ _ _).alloc _).alloc _).alloc _
  have Y : Has W5 (w.heap.size + 2) 29 #[.int .i64 y.length, .slice AY my cy] := by rw [← hW]; exact ((has_new3 _ _ _ _ _).alloc _).alloc _
  have R : Has W5 (w.heap.size + 3) 29 #[.int .i64 0, .slice none 0 0] := by rw [← hW]; exact (has_new4 _ _ _ _ _ _).alloc _
  have S : Has W5 (w.heap.size + 4) 29 #[.int .i64 0, .slice none 0 0] := by rw [← hW]; exact has_new5 _ _ _ _ _ _ _
  have O : Only (fun _ => False) w W5 := by rw [← hW]; exact (((((Only.refl _ _).alloc _).alloc _).alloc _).alloc _).alloc _
  clear hW
  go_enter Try.func15, Try.ntmps15
  go_upto_region 1 with fail
  rw [HW.out]
  clear HW
  obtain ⟨p_0, p_1, p_2, p_3, p_4, p_5, p_f⟩ := Has.facts6 P
  go_wp2_with fail
  clear p_0 p_1 p_2 p_3 p_4 p_5 p_f
  refine (HLB.out _ O).mono ?_; rintro e w1 ⟨rfl, o1⟩
  have P1 := Only.has o1 P (fun f => f)
  have X1 := Only.has o1 X (fun f => f)
  have Y1 := Only.has o1 Y (fun f => f)
  have R1 := Only.has o1 R (fun f => f)
  have S1 := Only.has o1 S (fun f => f)
  have O1 := O.trans o1
  clear P X Y R S O
  clear o1
  go_wp2_with fail
  refine (bcheck_any _ _).mono ?_; rintro e w2 ⟨rfl, rfl⟩
  cases hg : goodB pb.length
  · have HG := Lib.hid hg
    clear hg
    obtain ⟨r0, r1, rf⟩ := Has.facts2 R1
    obtain ⟨s0, s1, sf⟩ := Has.facts2 S1
    go_wp2_with fail
    obtain ⟨z1, z2, z3, _⟩ := send_end (x0 := .int .i64 0) (x1 := .slice none 0 0) (y0 := .int .i64 0) (y1 := .slice none 0 0) R1 S1 rfl rfl (by omega) (by omega) (by omega) O1
    refine bodyPost_ret (v := .tuple #[.agg #[.int .i64 0, .slice none 0 0], .agg #[.int .i64 0, .slice none 0 0], .int .i64 2]) (res_send z1 z2 rfl rfl rfl) rfl ⟨HP.out _ _ (send_bad _ _ (.inl ⟨HG.out, rfl⟩)), z3⟩
  have HG := Lib.hid hg
  clear hg
  obtain ⟨x_0, x_1, x_f⟩ := Has.facts2 X1
  obtain ⟨y_0, y_1, y_f⟩ := Has.facts2 Y1
  go_wp2_with fail
  clear x_0 x_1 x_f y_0 y_1 y_f
  refine (HX1.out _ O1).mono ?_; rintro e w2 ⟨hz2, o2⟩
  have P2 := Only.has o2 P1 (fun f => f)
  have X2 := Only.has o2 X1 (fun f => f)
  have Y2 := Only.has o2 Y1 (fun f => f)
  have R2 := Only.has o2 R1 (fun f => f)
  have S2 := Only.has o2 S1 (fun f => f)
  have O2 := O1.trans o2
  clear P1 X1 Y1 R1 S1 O1
  clear o2
  rcases zip_lit hz2 with ⟨hl2, B2, k2, d2, rfl, hv2⟩ | ⟨hl2, rfl⟩
  rotate_left
  · have HL2 := Lib.hid hl2
    clear hz2 hl2
    have P3 := Has.alloc P2 (.cells #[.int .i64 0, .slice none 0 0] 29)
    have X3 := Has.alloc X2 (.cells #[.int .i64 0, .slice none 0 0] 29)
    have Y3 := Has.alloc Y2 (.cells #[.int .i64 0, .slice none 0 0] 29)
    have R3 := Has.alloc R2 (.cells #[.int .i64 0, .slice none 0 0] 29)
    have S3 := Has.alloc S2 (.cells #[.int .i64 0, .slice none 0 0] 29)
    have O3 := O2.alloc (.cells #[.int .i64 0, .slice none 0 0] 29)
    clear P2 X2 Y2 R2 S2 O2
    obtain ⟨r0, r1, rf⟩ := Has.facts2 R3
    obtain ⟨s0, s1, sf⟩ := Has.facts2 S3
    go_wp2_with fail
    obtain ⟨z1, z2, z3, _⟩ := send_end (x0 := .int .i64 0) (x1 := .slice none 0 0) (y0 := .int .i64 0) (y1 := .slice none 0 0) R3 S3 rfl rfl (by omega) (by omega) (by omega) O3
    refine bodyPost_ret (v := .tuple #[.agg #[.int .i64 0, .slice none 0 0], .agg #[.int .i64 0, .slice none 0 0], .int .i64 11]) (res_send z1 z2 rfl rfl rfl) rfl ⟨HP.out _ _ (send_bad _ _ (.inr ⟨HG.out, fun h => HL2.out h.1, rfl⟩)), z3⟩
  clear hz2
  have HD := Lib.hid (hv2.mono (Nat.zero_le _))
  have HL2 := Lib.hid hl2
  clear hv2 hl2
  have P3 := Has.alloc P2 (.cells #[.int .i64 (xorL x y).length, .slice B2 k2 d2] 29)
  have X3 := Has.alloc X2 (.cells #[.int .i64 (xorL x y).length, .slice B2 k2 d2] 29)
  have Y3 := Has.alloc Y2 (.cells #[.int .i64 (xorL x y).length, .slice B2 k2 d2] 29)
  have R3 := Has.alloc R2 (.cells #[.int .i64 (xorL x y).length, .slice B2 k2 d2] 29)
  have S3 := Has.alloc S2 (.cells #[.int .i64 (xorL x y).length, .slice B2 k2 d2] 29)
  have O3 := O2.alloc (.cells #[.int .i64 (xorL x y).length, .slice B2 k2 d2] 29)
  have HD3 := Lib.hid (HD.out.inner ((Only.refl _ _).alloc (.cells #[.int .i64 (xorL x y).length, .slice B2 k2 d2] 29)))
  clear P2 X2 Y2 R2 S2 O2 HD
  have D := Has.new w2 29 #[.int .i64 (xorL x y).length, .slice B2 k2 d2]
  obtain ⟨p_0, p_1, p_2, p_3, p_4, p_5, p_f⟩ := Has.facts6 P3
  obtain ⟨d_0, d_1, d_f⟩ := Has.facts2 D
  go_wp2_with fail
  clear p_0 p_1 p_2 p_3 p_4 p_5 p_f d_0 d_1 d_f
  refine (bxor_any _ 0 0 _ _ (xorL x y) pb HD3.out (HVB.out.inner O3) (by rw [xorL_len HL2.out]; exact LX.out)).mono ?_; rintro e w4 ⟨hz3, o4⟩
  have P4 := Only.has o4 P3 (fun f => f)
  have X4 := Only.has o4 X3 (fun f => f)
  have Y4 := Only.has o4 Y3 (fun f => f)
  have R4 := Only.has o4 R3 (fun f => f)
  have S4 := Only.has o4 S3 (fun f => f)
  have O4 := O3.trans o4
  have HD4 := Lib.hid (HD3.out.inner o4)
  have D4 := Only.has o4 D (fun f => f)
  clear P3 X3 Y3 R3 S3 O3 HD3 D
  clear o4
  rcases zip_lit hz3 with ⟨hl3, B3, k3, d3, rfl, hv3⟩ | ⟨hl3, rfl⟩
  rotate_left
  · have HL3 := Lib.hid hl3
    clear hz3 hl3
    have P5 := Has.alloc P4 (.cells #[.int .i64 0, .slice none 0 0] 29)
    have X5 := Has.alloc X4 (.cells #[.int .i64 0, .slice none 0 0] 29)
    have Y5 := Has.alloc Y4 (.cells #[.int .i64 0, .slice none 0 0] 29)
    have R5 := Has.alloc R4 (.cells #[.int .i64 0, .slice none 0 0] 29)
    have S5 := Has.alloc S4 (.cells #[.int .i64 0, .slice none 0 0] 29)
    have O5 := O4.alloc (.cells #[.int .i64 0, .slice none 0 0] 29)
    have HD5 := Lib.hid (HD4.out.inner ((Only.refl _ _).alloc (.cells #[.int .i64 0, .slice none 0 0] 29)))
    have D5 := Has.alloc D4 (.cells #[.int .i64 0, .slice none 0 0] 29)
    clear P4 X4 Y4 R4 S4 O4 HD4 D4
    obtain ⟨r0, r1, rf⟩ := Has.facts2 R5
    obtain ⟨s0, s1, sf⟩ := Has.facts2 S5
    go_wp2_with fail
    obtain ⟨z1, z2, z3, _⟩ := send_end (x0 := .int .i64 0) (x1 := .slice none 0 0) (y0 := .int .i64 0) (y1 := .slice none 0 0) R5 S5 rfl rfl (by omega) (by omega) (by omega) O5
    refine bodyPost_ret (v := .tuple #[.agg #[.int .i64 0, .slice none 0 0], .agg #[.int .i64 0, .slice none 0 0], .int .i64 11]) (res_send z1 z2 rfl rfl rfl) rfl ⟨HP.out _ _ (send_bad _ _ (.inr ⟨HG.out, fun h => HL3.out (by rw [xorL_len HL2.out]; exact h.2), rfl⟩)), z3⟩
  clear hz3
  have HF := Lib.hid (hv3.mono (Nat.zero_le _))
  have HL3 := Lib.hid hl3
  clear hv3 hl3
  have P5 := Has.alloc P4 (.cells #[.int .i64 (xorL (xorL x y) pb).length, .slice B3 k3 d3] 29)
  have X5 := Has.alloc X4 (.cells #[.int .i64 (xorL (xorL x y) pb).length, .slice B3 k3 d3] 29)
  have Y5 := Has.alloc Y4 (.cells #[.int .i64 (xorL (xorL x y) pb).length, .slice B3 k3 d3] 29)
  have R5 := Has.alloc R4 (.cells #[.int .i64 (xorL (xorL x y) pb).length, .slice B3 k3 d3] 29)
  have S5 := Has.alloc S4 (.cells #[.int .i64 (xorL (xorL x y) pb).length, .slice B3 k3 d3] 29)
  have O5 := O4.alloc (.cells #[.int .i64 (xorL (xorL x y) pb).length, .slice B3 k3 d3] 29)
  have HD5 := Lib.hid (HD4.out.inner ((Only.refl _ _).alloc (.cells #[.int .i64 (xorL (xorL x y) pb).length, .slice B3 k3 d3] 29)))
  have D5 := Has.alloc D4 (.cells #[.int .i64 (xorL (xorL x y) pb).length, .slice B3 k3 d3] 29)
  have HF5 := Lib.hid (HF.out.inner ((Only.refl _ _).alloc (.cells #[.int .i64 (xorL (xorL x y) pb).length, .slice B3 k3 d3] 29)))
  clear P4 X4 Y4 R4 S4 O4 HD4 D4 HF
  have F := Has.new w4 29 #[.int .i64 (xorL (xorL x y) pb).length, .slice B3 k3 d3]
  obtain ⟨x_0, x_1, x_f⟩ := Has.facts2 X5
  obtain ⟨f_0, f_1, f_f⟩ := Has.facts2 F
  obtain ⟨r_0, r_1, r_f⟩ := Has.facts2 R5
  obtain ⟨s_0, s_1, s_f⟩ := Has.facts2 S5
  go_upto_region 10 with fail
  go_region
  all_goals
    go_wp2_with fail
    obtain ⟨z1, z2, z3, z4⟩ := send_end (x0 := .int .i64 (xorL (xorL x y) pb).length) (x1 := .slice B3 k3 d3) (y0 := .int .i64 x.length) (y1 := .slice AX mx cx) (Has.drew R5) (Has.drew S5) rfl rfl (by omega) (by omega) (by omega) (Only.drew O5)
    refine bodyPost_ret (v := .tuple #[.agg #[.int .i64 (xorL (xorL x y) pb).length, .slice B3 k3 d3], .agg #[.int .i64 x.length, .slice AX mx cx], .int .i64 0]) (res_send z1 z2 rfl rfl rfl) rfl ⟨HP.out _ _ (send_good _ HG.out HL2.out (by rw [← xorL_len HL2.out]; exact HL3.out) (z4 _ _ (VL.inner HF5.out (Only.drew (Only.refl _ _)))) (z4 _ _ (VL.inner HVX.out (Only.drew O5)))), z3⟩
end Go.Proofs.Ythkgjhjfgoglhaa
