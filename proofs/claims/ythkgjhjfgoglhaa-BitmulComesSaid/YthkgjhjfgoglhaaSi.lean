/- bitmul: Receive. -/
import Derived.Test.YthkgjhjfgoglhaaSe
set_option linter.unusedSimpArgs false
set_option linter.unusedVariables false
namespace Go.Proofs.Ythkgjhjfgoglhaa
open Go.RowKit

/-- x came, y is what was sent: the arguments 'got', 'fix'. -/
def recvC (p : Pt) (x y : List Bool) : Int := if goodB p.a.length = true then (if p.a.length = y.length ∧ p.a.length = x.length then 0 else 11) else 2
def recvL (p : Pt) (x y : List Bool) : List Bool := if goodB p.a.length = true ∧ p.a.length = y.length ∧ p.a.length = x.length then xorL (andL p.a y) x else []
def RecvPost (p : Pt) (x y : List Bool) (e : Ending) (W : World) : Prop := ∃ A1 k1 c1, e = .returned (.tuple #[.agg #[.int .i64 (recvL p x y).length, .slice A1 k1 c1], .int .i64 (recvC p x y)]) ∧ VL W 0 (.agg #[.int .i64 (recvL p x y).length, .slice A1 k1 c1]) (recvL p x y)
theorem recv_bad {p : Pt} {x y : List Bool} (W : World) (c : Int) (h : (goodB p.a.length = false ∧ c = 2) ∨ (goodB p.a.length = true ∧ ¬ (p.a.length = y.length ∧ p.a.length = x.length) ∧ c = 11)) : RecvPost p x y (.returned (.tuple #[.agg #[.int .i64 0, .slice none 0 0], .int .i64 c])) W := by
  have e1 : recvL p x y = [] := by unfold recvL; rcases h with ⟨h, _⟩ | ⟨h, h2, _⟩ <;> rw [if_neg (by simp [h]; try exact fun a b => h2 ⟨a, b⟩)]
  have e3 : recvC p x y = c := by
    unfold recvC
    rcases h with ⟨h, rfl⟩ | ⟨h, h2, rfl⟩
    · rw [if_neg (by simp [h])]
    · rw [if_pos h, if_neg h2]
  unfold RecvPost
  rw [e1, e3]
  exact ⟨none, 0, 0, rfl, VL.zero _ _⟩
theorem recv_good {p : Pt} {x y : List Bool} (W : World) {A1 : Option Addr} {k1 c1 : Nat} (h : goodB p.a.length = true) (h1 : p.a.length = y.length) (h2 : p.a.length = x.length) (v1 : VL W 0 (.agg #[.int .i64 (xorL (andL p.a y) x).length, .slice A1 k1 c1]) (xorL (andL p.a y) x)) : RecvPost p x y (.returned (.tuple #[.agg #[.int .i64 (xorL (andL p.a y) x).length, .slice A1 k1 c1], .int .i64 0])) W := by
  have e1 : recvL p x y = xorL (andL p.a y) x := by unfold recvL; rw [if_pos ⟨h, h1, h2⟩]
  have e3 : recvC p x y = 0 := by unfold recvC; rw [if_pos h, if_pos ⟨h1, h2⟩]
  unfold RecvPost
  rw [e1, e3]
  exact ⟨_, _, _, rfl, v1⟩
theorem res_recv {W : World} {b : Nat} {x0 x1 v : Value} {tm : Array Value} (h : Has W b 29 #[x0, x1]) (h6 : tm.getD 6 undef = .pointer (some ⟨b, 0, none⟩)) (h7 : tm.getD 7 undef = v) :
    (results Try.f18 tm).run Try.prog W = .ok (.tuple #[.agg #[x0, x1], v]) W := by
  obtain ⟨c0, c1, _⟩ := h.facts2
  simp only [Array.getD_eq_getD_getElem?] at h6 h7
  simp [results, Try.results18, go_sem, h6, h7, c0, c1]
/-- A result block is written. -/
theorem recv_end {w W : World} {b1 : Nat} {x0 x1 : Value} {cs1 : Array Value} (h1 : Has W b1 29 cs1) (n1 : cs1.size = 2) (hb1 : w.heap.size ≤ b1) (o : Only (fun _ => False) w W) :
    Has ((W.setCell ⟨b1, 0, none⟩ x0).setCell ⟨b1, 1, none⟩ x1) b1 29 #[x0, x1] ∧ Only (fun _ => False) w ((W.setCell ⟨b1, 0, none⟩ x0).setCell ⟨b1, 1, none⟩ x1)
    ∧ ∀ v l, VL W 0 v l → VL ((W.setCell ⟨b1, 0, none⟩ x0).setCell ⟨b1, 1, none⟩ x1) 0 v l :=
  ⟨Has.put2 h1 n1 x0 x1, o.then_ (Only.put2 W b1 x0 x1) (fun i hi e => absurd hi (by have : i = b1 := e; omega)), fun v l hv => hv.putT h1 (by decide) (Only.put2 W b1 x0 x1)⟩
set_option maxRecDepth 100000 in
set_option maxHeartbeats 4000000 in
theorem recv_any (w : World) (v vx vy : Value) (p : Pt) (x y : List Bool) (hv : PartV w 0 v p) (hx : VL w 0 vx x) (hy : VL w 0 vy y) (hl : p.a.length ≤ 4194304) : Calls Try.prog 18 #[v, vx, vy] w fun e w' => RecvPost p x y e w' ∧ Only (fun _ => False) w w' := by
  obtain ⟨P, hP⟩ : ∃ P : Ending → World → Prop, P = fun e W => RecvPost p x y e W := ⟨_, rfl⟩
  have HP := Lib.hid (show ∀ e W, RecvPost p x y e W → P e W by intro e W h; rw [hP]; exact h)
  have hG : (fun (e : Ending) (w' : World) => RecvPost p x y e w' ∧ Only (fun _ => False) w w') = fun e w' => P e w' ∧ Only (fun _ => False) w w' := by rw [hP]
  rw [hG]
  clear hG hP
  obtain ⟨pa, pb, pc⟩ := p
  obtain ⟨A1, m1, c1, A2, m2, c2, A3, m3, c3, rfl, ha, hb, hc⟩ := hv
  obtain ⟨AX, mx, cx, rfl⟩ := hx.shape
  obtain ⟨AY, my, cy, rfl⟩ := hy.shape
  simp only at *
  have HLA := Lib.hid (fun W (o : Only (fun _ => False) w W) => blen_any W 0 _ pa (ha.inner o))
  have HA1 := Lib.hid (fun W (o : Only (fun _ => False) w W) => band_any W 0 0 _ _ pa y (ha.inner o) (hy.inner o) hl)
  have HVA := Lib.hid ha
  have HVB := Lib.hid hb
  have HVX := Lib.hid hx
  have HVY := Lib.hid hy
  have LA := Lib.hid hl
  clear ha hb hc hx hy hl
  generalize hW : ((((w.alloc (.cells #[.int .i64 pa.length, .slice A1 m1 c1, .int .i64 pb.length, .slice A2 m2 c2, .int .i64 pc.length, .slice A3 m3 c3] 34)).alloc (.cells #[.int .i64 x.length, .slice AX mx cx] 29)).alloc (.cells #[.int .i64 y.length, .slice AY my cy] 29)).alloc (.cells #[.int .i64 0, .slice none 0 0] 29)) = W5
  have HW := Lib.hid hW
  have P : Has W5 w.heap.size 34 #[.int .i64 pa.length, .slice A1 m1 c1, .int .i64 pb.length, .slice A2 m2 c2, .int .i64 pc.length, .slice A3 m3 c3] := by rw [← hW]; exact (((Has.new _ _ _).alloc _).alloc _).alloc _
  have X : Has W5 (w.heap.size + 1) 29 #[.int .i64 x.length, .slice AX mx cx] := by rw [← hW]; exact ((has_new2 _ _ _ _).alloc _).alloc _
  have Y : Has W5 (w.heap.size + 2) 29 #[.int .i64 y.length, .slice AY my cy] := by rw [← hW]; exact (has_new3 _ _ _ _ _).alloc _
  have R : Has W5 (w.heap.size + 3) 29 #[.int .i64 0, .slice none 0 0] := by rw [← hW]; exact has_new4 _ _ _ _ _ _
  have O : Only (fun _ => False) w W5 := by rw [← hW]; exact ((((Only.refl _ _).alloc _).alloc _).alloc _).alloc _
  clear hW
  go_enter Try.func18, Try.ntmps18
  go_upto_region 1 with fail
  rw [HW.out]
  clear HW
  obtain ⟨p_0, p_1, p_2, p_3, p_4, p_5, p_f⟩ := Has.facts6 P
  go_wp2_with fail
  clear p_0 p_1 p_2 p_3 p_4 p_5 p_f
  refine (HLA.out _ O).mono ?_; rintro e w1 ⟨rfl, o1⟩
  have P1 := Only.has o1 P (fun f => f)
  have X1 := Only.has o1 X (fun f => f)
  have Y1 := Only.has o1 Y (fun f => f)
  have R1 := Only.has o1 R (fun f => f)
  have O1 := O.trans o1
  clear P X Y R O
  clear o1
  go_wp2_with fail
  refine (bcheck_any _ _).mono ?_; rintro e w2 ⟨rfl, rfl⟩
  cases hg : goodB pa.length
  · have HG := Lib.hid hg
    clear hg
    obtain ⟨r0, r1, rf⟩ := Has.facts2 R1
    go_wp2_with fail
    obtain ⟨z1, z3, _⟩ := recv_end (x0 := .int .i64 0) (x1 := .slice none 0 0) R1 rfl (by omega) O1
    refine bodyPost_ret (v := .tuple #[.agg #[.int .i64 0, .slice none 0 0], .int .i64 2]) (res_recv z1 rfl rfl) rfl ⟨HP.out _ _ (recv_bad _ _ (.inl ⟨HG.out, rfl⟩)), z3⟩
  have HG := Lib.hid hg
  clear hg
  obtain ⟨p_0, p_1, p_2, p_3, p_4, p_5, p_f⟩ := Has.facts6 P1
  obtain ⟨y_0, y_1, y_f⟩ := Has.facts2 Y1
  go_wp2_with fail
  clear p_0 p_1 p_2 p_3 p_4 p_5 p_f y_0 y_1 y_f
  refine (HA1.out _ O1).mono ?_; rintro e w2 ⟨hz2, o2⟩
  have P2 := Only.has o2 P1 (fun f => f)
  have X2 := Only.has o2 X1 (fun f => f)
  have Y2 := Only.has o2 Y1 (fun f => f)
  have R2 := Only.has o2 R1 (fun f => f)
  have O2 := O1.trans o2
  clear P1 X1 Y1 R1 O1
  clear o2
  rcases zip_lit hz2 with ⟨hl2, B2, k2, d2, rfl, hv2⟩ | ⟨hl2, rfl⟩
  rotate_left
  · have HL2 := Lib.hid hl2
    clear hz2 hl2
    have P3 := Has.alloc P2 (.cells #[.int .i64 0, .slice none 0 0] 29)
    have X3 := Has.alloc X2 (.cells #[.int .i64 0, .slice none 0 0] 29)
    have Y3 := Has.alloc Y2 (.cells #[.int .i64 0, .slice none 0 0] 29)
    have R3 := Has.alloc R2 (.cells #[.int .i64 0, .slice none 0 0] 29)
    have O3 := O2.alloc (.cells #[.int .i64 0, .slice none 0 0] 29)
    clear P2 X2 Y2 R2 O2
    obtain ⟨r0, r1, rf⟩ := Has.facts2 R3
    go_wp2_with fail
    obtain ⟨z1, z3, _⟩ := recv_end (x0 := .int .i64 0) (x1 := .slice none 0 0) R3 rfl (by omega) O3
    refine bodyPost_ret (v := .tuple #[.agg #[.int .i64 0, .slice none 0 0], .int .i64 11]) (res_recv z1 rfl rfl) rfl ⟨HP.out _ _ (recv_bad _ _ (.inr ⟨HG.out, fun h => HL2.out h.1, rfl⟩)), z3⟩
  clear hz2
  have HV2 := Lib.hid (hv2.mono (Nat.zero_le _))
  have HL2 := Lib.hid hl2
  clear hv2 hl2
  have P3 := Has.alloc P2 (.cells #[.int .i64 (andL pa y).length, .slice B2 k2 d2] 29)
  have X3 := Has.alloc X2 (.cells #[.int .i64 (andL pa y).length, .slice B2 k2 d2] 29)
  have Y3 := Has.alloc Y2 (.cells #[.int .i64 (andL pa y).length, .slice B2 k2 d2] 29)
  have R3 := Has.alloc R2 (.cells #[.int .i64 (andL pa y).length, .slice B2 k2 d2] 29)
  have O3 := O2.alloc (.cells #[.int .i64 (andL pa y).length, .slice B2 k2 d2] 29)
  have HV23 := Lib.hid (HV2.out.inner ((Only.refl _ _).alloc (.cells #[.int .i64 (andL pa y).length, .slice B2 k2 d2] 29)))
  clear P2 X2 Y2 R2 O2 HV2
  have D := Has.new w2 29 #[.int .i64 (andL pa y).length, .slice B2 k2 d2]
  obtain ⟨x_0, x_1, x_f⟩ := Has.facts2 X3
  obtain ⟨d_0, d_1, d_f⟩ := Has.facts2 D
  go_wp2_with fail
  clear x_0 x_1 x_f d_0 d_1 d_f
  refine (bxor_any _ 0 0 _ _ (andL pa y) x HV23.out (HVX.out.inner O3) (by rw [andL_len HL2.out]; exact LA.out)).mono ?_; rintro e w4 ⟨hz3, o4⟩
  have P4 := Only.has o4 P3 (fun f => f)
  have X4 := Only.has o4 X3 (fun f => f)
  have Y4 := Only.has o4 Y3 (fun f => f)
  have R4 := Only.has o4 R3 (fun f => f)
  have O4 := O3.trans o4
  have HV24 := Lib.hid (HV23.out.inner o4)
  have D4 := Only.has o4 D (fun f => f)
  clear P3 X3 Y3 R3 O3 HV23 D
  clear o4
  rcases zip_lit hz3 with ⟨hl3, B3, k3, d3, rfl, hv3⟩ | ⟨hl3, rfl⟩
  rotate_left
  · have HL3 := Lib.hid hl3
    clear hz3 hl3
    obtain ⟨r0, r1, rf⟩ := Has.facts2 R4
    go_wp2_with fail
    obtain ⟨z1, z3, _⟩ := recv_end (x0 := .int .i64 0) (x1 := .slice none 0 0) R4 rfl (by omega) O4
    refine bodyPost_ret (v := .tuple #[.agg #[.int .i64 0, .slice none 0 0], .int .i64 11]) (res_recv z1 rfl rfl) rfl ⟨HP.out _ _ (recv_bad _ _ (.inr ⟨HG.out, fun h => HL3.out (by rw [andL_len HL2.out]; exact h.2), rfl⟩)), z3⟩
  have HV3 := Lib.hid (hv3.mono (Nat.zero_le _))
  have HL3 := Lib.hid hl3
  clear hv3 hl3 hz3
  obtain ⟨r_0, r_1, r_f⟩ := Has.facts2 R4
  go_wp2_with fail
  obtain ⟨z1, z3, z4⟩ := recv_end (x0 := .int .i64 (xorL (andL pa y) x).length) (x1 := .slice B3 k3 d3) R4 rfl (by omega) O4
  refine bodyPost_ret (v := .tuple #[.agg #[.int .i64 (xorL (andL pa y) x).length, .slice B3 k3 d3], .int .i64 0]) (res_recv z1 rfl rfl) rfl ⟨HP.out _ _ (recv_good _ HG.out HL2.out (by rw [← andL_len HL2.out]; exact HL3.out) (z4 _ _ HV3.out)), z3⟩
end Go.Proofs.Ythkgjhjfgoglhaa
