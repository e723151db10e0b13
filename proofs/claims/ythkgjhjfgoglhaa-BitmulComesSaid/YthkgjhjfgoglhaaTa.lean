/- The reference of layer 24: Send, Receive. -/
import Derived.Test.YthkgjhjfgoglhaaSi
import Derived.Test.YthkgjhjfgoglhaaBq
set_option linter.unusedSimpArgs false
set_option linter.unusedVariables false
namespace Go.Proofs.Ythkgjhjfgoglhaa
open Go.RowKit

def Odd3 (a b c r : List Bool) (B : Nat) (e : Ending) (W : World) : Prop := (b.length = a.length ∧ c.length = a.length ∧ ∃ A cc, e = .returned (.tuple #[.slice A r.length cc, .bool true]) ∧ Reads W (.slice A r.length cc) (bcellsB r) ∧ ∀ g, (Value.slice A r.length cc).ownBlock = some g → B ≤ g) ∨ (¬ (b.length = a.length ∧ c.length = a.length) ∧ e = .returned (.tuple #[.slice none 0 0, .bool false]))
theorem odd3_any (w : World) (g : Nat) (va vb vc : Value) (a b c : List Bool) (hg : Has w g 22 #[va, vb, vc]) (ha : Reads w va (bcellsB a)) (hb : Reads w vb (bcellsB b)) (hc : Reads w vc (bcellsB c)) (hl : a.length ≤ 4194304) :
    Calls Try.prog 28 #[.slice (some ⟨g, 0, none⟩) 3 3] w fun x w' => Odd3 a b c (xorL (xorL a b) c) w.heap.size x w' ∧ Only (fun _ => False) w w' := by
  refine (odd_any w g 3 3 #[va, vb, vc] [a, b, c] rfl (by omega) (by omega) hg (fun i hi => ?_) hl).mono ?_
  · match i, hi with
    | 0, _ => exact ⟨va, rfl, ha⟩
    | 1, _ => exact ⟨vb, rfl, hb⟩
    | 2, _ => exact ⟨vc, rfl, hc⟩
  · rintro x w' ⟨hp, o⟩
    refine ⟨?_, o⟩
    unfold OddPost at hp
    rw [(odd_three a b c).1] at hp
    by_cases h : b.length = a.length ∧ c.length = a.length
    · rw [if_pos (by simpa using h), (odd_three a b c).2 h.1 h.2] at hp
      obtain ⟨v, rfl, hv⟩ := hp
      have hr := Reads.ofOwn hv (by simp [bcellsB_length])
      obtain ⟨A, cc, rfl, _⟩ := hr.shape
      rw [bcellsB_length] at hr hv ⊢
      exact .inl ⟨h.1, h.2, A, cc, rfl, hr, fun g hg => own_ge2 hv hg⟩
    · rw [if_neg (by simpa using h)] at hp
      exact .inr ⟨h, hp⟩
def RSendPost (p : Pt) (x y : List Bool) (e : Ending) (W : World) : Prop := ∃ A1 c1 A2 c2, e = .returned (.tuple #[.slice A1 (sendF p x y).length c1, .slice A2 (sendZ p x y).length c2, .int .i64 (sendC p x y)]) ∧ Reads W (.slice A1 (sendF p x y).length c1) (bcellsB (sendF p x y)) ∧ Reads W (.slice A2 (sendZ p x y).length c2) (bcellsB (sendZ p x y))
theorem reads_nil (W : World) : Reads W (.slice none 0 0) (bcellsB []) := ⟨none, 0, rfl, .inl rfl⟩
theorem rsend_bad {p : Pt} {x y : List Bool} (W : World) (c : Int) (h : (goodB p.b.length = false ∧ c = 2) ∨ (goodB p.b.length = true ∧ ¬ (x.length = y.length ∧ x.length = p.b.length) ∧ c = 11)) : RSendPost p x y (.returned (.tuple #[.slice none 0 0, .slice none 0 0, .int .i64 c])) W := by
  have e1 : sendF p x y = [] := by unfold sendF; rcases h with ⟨h, _⟩ | ⟨h, h2, _⟩ <;> rw [if_neg (by simp [h]; try exact fun a b => h2 ⟨a, b⟩)]
  have e2 : sendZ p x y = [] := by unfold sendZ; rcases h with ⟨h, _⟩ | ⟨h, h2, _⟩ <;> rw [if_neg (by simp [h]; try exact fun a b => h2 ⟨a, b⟩)]
  have e3 : sendC p x y = c := by
    unfold sendC
    rcases h with ⟨h, rfl⟩ | ⟨h, h2, rfl⟩
    · rw [if_neg (by simp [h])]
    · rw [if_pos h, if_neg h2]
  unfold RSendPost
  rw [e1, e2, e3]
  exact ⟨none, 0, none, 0, rfl, reads_nil _, reads_nil _⟩
theorem rsend_good {p : Pt} {x y : List Bool} (W : World) {A1 A2 : Option Addr} {c1 c2 : Nat} (h : goodB p.b.length = true) (h1 : x.length = y.length) (h2 : x.length = p.b.length) (v1 : Reads W (.slice A1 (xorL (xorL x y) p.b).length c1) (bcellsB (xorL (xorL x y) p.b))) (v2 : Reads W (.slice A2 x.length c2) (bcellsB x)) : RSendPost p x y (.returned (.tuple #[.slice A1 (xorL (xorL x y) p.b).length c1, .slice A2 x.length c2, .int .i64 0])) W := by
  have e1 : sendF p x y = xorL (xorL x y) p.b := by unfold sendF; rw [if_pos ⟨h, h1, h2⟩]
  have e2 : sendZ p x y = x := by unfold sendZ; rw [if_pos ⟨h, h1, h2⟩]
  have e3 : sendC p x y = 0 := by unfold sendC; rw [if_pos h, if_pos ⟨h1, h2⟩]
  unfold RSendPost
  rw [e1, e2, e3]
  exact ⟨_, _, _, _, rfl, v1, v2⟩
set_option maxRecDepth 100000 in
set_option maxHeartbeats 4000000 in
theorem rsend_any (w : World) (v vx vy : Value) (p : Pt) (x y : List Bool) (hv : RefP w v p) (hx : Reads w vx (bcellsB x)) (hy : Reads w vy (bcellsB y)) (hl : x.length ≤ 4194304) : Calls Try.prog 17 #[v, vx, vy] w fun e w' => RSendPost p x y e w' ∧ Only (fun _ => False) w w' := by
  obtain ⟨P, hP⟩ : ∃ P : Ending → World → Prop, P = fun e W => RSendPost p x y e W := ⟨_, rfl⟩
  have HP := Lib.hid (show ∀ e W, RSendPost p x y e W → P e W by intro e W h; rw [hP]; exact h)
  have hG : (fun (e : Ending) (w' : World) => RSendPost p x y e w' ∧ Only (fun _ => False) w w') = fun e w' => P e w' ∧ Only (fun _ => False) w w' := by rw [hP]
  rw [hG]
  clear hG hP
  obtain ⟨pa, pb, pc⟩ := p
  obtain ⟨sa, sb, sc, rfl, ra, rb, rc⟩ := hv
  simp only at *
  obtain ⟨A1, k1, rfl, -⟩ := ra.shape
  obtain ⟨A2, k2, rfl, -⟩ := rb.shape
  obtain ⟨A3, k3, rfl, -⟩ := rc.shape
  obtain ⟨AX, kx, rfl, -⟩ := hx.shape
  obtain ⟨AY, ky, rfl, -⟩ := hy.shape
  simp only [bcellsB_length] at *
  have HRA := Lib.hid (fun W (o : Only (fun _ => False) w W) => ra.inner o)
  have HRB := Lib.hid (fun W (o : Only (fun _ => False) w W) => rb.inner o)
  have HRX := Lib.hid (fun W (o : Only (fun _ => False) w W) => hx.inner o)
  have HRY := Lib.hid (fun W (o : Only (fun _ => False) w W) => hy.inner o)
  have HL := Lib.hid hl
  clear ra rb rc hx hy hl
  generalize hW : (w.alloc (.cells #[.slice A1 pa.length k1, .slice A2 pb.length k2, .slice A3 pc.length k3] 24)) = W5
  have P := (show Has W5 w.heap.size 24 #[.slice A1 pa.length k1, .slice A2 pb.length k2, .slice A3 pc.length k3] by rw [← hW]; exact Has.new _ _ _)
  have O : Only (fun _ => False) w W5 := by rw [← hW]; exact (Only.refl _ _).alloc _
  have HW := Lib.hid hW
  clear hW
  go_enter Try.func17, Try.ntmps17
  go_upto_region 1 with fail
  rw [HW.out]
  clear HW
  obtain ⟨p_0, p_1, p_2, p_f⟩ := Has.facts3 P
  go_wp2_with fail
  refine (rgood_any _ _).mono ?_; rintro e w2 ⟨rfl, rfl⟩
  cases hg : goodB pb.length
  · have HG := Lib.hid hg
    clear hg
    go_wp2_with fail
    go_ret3
    exact ⟨HP.out _ _ (rsend_bad _ _ (.inl ⟨HG.out, rfl⟩)), O⟩
  have HG := Lib.hid hg
  clear hg
  go_wp2_with fail
  refine (odd3_any _ W5.heap.size _ _ _ x y pb (Has.new _ _ _) (HRX.out _ (O.alloc _)) (HRY.out _ (O.alloc _)) (HRB.out _ (O.alloc _)) HL.out).mono ?_; rintro e w3 ⟨hp3, o3⟩
  have O3 := (O.alloc _).trans o3
  clear o3
  rcases hp3 with ⟨h1, h2, A4, c4, rfl, r4, -⟩ | ⟨h1, rfl⟩
  · have H1 := Lib.hid h1
    have H2 := Lib.hid h2
    have R4 := Lib.hid r4
    clear h1 h2 r4
    go_wp2_with fail
    go_ret3
    exact ⟨HP.out _ _ (rsend_good _ HG.out H1.out.symm H2.out.symm R4.out (HRX.out _ O3)), O3⟩
  · have H1 := Lib.hid h1
    clear h1
    go_wp2_with fail
    go_ret3
    exact ⟨HP.out _ _ (rsend_bad _ _ (.inr ⟨HG.out, fun h => H1.out ⟨h.1.symm, h.2.symm⟩, rfl⟩)), O3⟩
def RRecvPost (p : Pt) (x y : List Bool) (e : Ending) (W : World) : Prop := ∃ A1 c1, e = .returned (.tuple #[.slice A1 (recvL p x y).length c1, .int .i64 (recvC p x y)]) ∧ Reads W (.slice A1 (recvL p x y).length c1) (bcellsB (recvL p x y))
theorem rrecv_bad {p : Pt} {x y : List Bool} (W : World) (c : Int) (h : (goodB p.a.length = false ∧ c = 2) ∨ (goodB p.a.length = true ∧ ¬ (p.a.length = y.length ∧ p.a.length = x.length) ∧ c = 11)) : RRecvPost p x y (.returned (.tuple #[.slice none 0 0, .int .i64 c])) W := by
  have e1 : recvL p x y = [] := by unfold recvL; rcases h with ⟨h, _⟩ | ⟨h, h2, _⟩ <;> rw [if_neg (by simp [h]; try exact fun a b => h2 ⟨a, b⟩)]
  have e3 : recvC p x y = c := by
    unfold recvC
    rcases h with ⟨h, rfl⟩ | ⟨h, h2, rfl⟩
    · rw [if_neg (by simp [h])]
    · rw [if_pos h, if_neg h2]
  unfold RRecvPost
  rw [e1, e3]
  exact ⟨none, 0, rfl, reads_nil _⟩
theorem rrecv_good {p : Pt} {x y : List Bool} (W : World) {A1 : Option Addr} {c1 : Nat} (h : goodB p.a.length = true) (h1 : p.a.length = y.length) (h2 : p.a.length = x.length) (v1 : Reads W (.slice A1 (xorL (andL p.a y) x).length c1) (bcellsB (xorL (andL p.a y) x))) : RRecvPost p x y (.returned (.tuple #[.slice A1 (xorL (andL p.a y) x).length c1, .int .i64 0])) W := by
  have e1 : recvL p x y = xorL (andL p.a y) x := by unfold recvL; rw [if_pos ⟨h, h1, h2⟩]
  have e3 : recvC p x y = 0 := by unfold recvC; rw [if_pos h, if_pos ⟨h1, h2⟩]
  unfold RRecvPost
  rw [e1, e3]
  exact ⟨_, _, rfl, v1⟩
theorem ne_nat {a b : Nat} (h : a ≠ b) : ((a : Int) != (b : Int)) = true := by
  have : (a : Int) ≠ (b : Int) := by omega
  simpa using this
theorem ne_nat' {a : Nat} : ((a : Int) != (a : Int)) = false := by simp
theorem ne_nat2 {a b : Nat} (h : a ≠ b) : (a != b) = true := by simpa using h
set_option maxRecDepth 100000 in
set_option maxHeartbeats 4000000 in
theorem rrecv_any (w : World) (v vx vy : Value) (p : Pt) (x y : List Bool) (hv : RefP w v p) (hx : Reads w vx (bcellsB x)) (hy : Reads w vy (bcellsB y)) (hl : p.a.length ≤ 4194304) : Calls Try.prog 19 #[v, vx, vy] w fun e w' => RRecvPost p x y e w' ∧ Only (fun _ => False) w w' := by
  obtain ⟨P, hP⟩ : ∃ P : Ending → World → Prop, P = fun e W => RRecvPost p x y e W := ⟨_, rfl⟩
  have HP := Lib.hid (show ∀ e W, RRecvPost p x y e W → P e W by intro e W h; rw [hP]; exact h)
  have hG : (fun (e : Ending) (w' : World) => RRecvPost p x y e w' ∧ Only (fun _ => False) w w') = fun e w' => P e w' ∧ Only (fun _ => False) w w' := by rw [hP]
  rw [hG]
  clear hG hP
  obtain ⟨pa, pb, pc⟩ := p
  obtain ⟨sa, sb, sc, rfl, ra, rb, rc⟩ := hv
  simp only at *
  obtain ⟨A1, k1, rfl, -⟩ := ra.shape
  obtain ⟨A2, k2, rfl, -⟩ := rb.shape
  obtain ⟨A3, k3, rfl, -⟩ := rc.shape
  obtain ⟨AX, kx, rfl, -⟩ := hx.shape
  obtain ⟨AY, ky, rfl, -⟩ := hy.shape
  simp only [bcellsB_length] at *
  have HRA := Lib.hid (fun W (o : Only (fun _ => False) w W) => ra.inner o)
  have HRB := Lib.hid (fun W (o : Only (fun _ => False) w W) => rb.inner o)
  have HRX := Lib.hid (fun W (o : Only (fun _ => False) w W) => hx.inner o)
  have HRY := Lib.hid (fun W (o : Only (fun _ => False) w W) => hy.inner o)
  have HL := Lib.hid hl
  clear ra rb rc hx hy hl
  generalize hW : (w.alloc (.cells #[.slice A1 pa.length k1, .slice A2 pb.length k2, .slice A3 pc.length k3] 24)) = W5
  have P := (show Has W5 w.heap.size 24 #[.slice A1 pa.length k1, .slice A2 pb.length k2, .slice A3 pc.length k3] by rw [← hW]; exact Has.new _ _ _)
  have O : Only (fun _ => False) w W5 := by rw [← hW]; exact (Only.refl _ _).alloc _
  have HW := Lib.hid hW
  clear hW
  go_enter Try.func19, Try.ntmps19
  go_upto_region 1 with fail
  rw [HW.out]
  clear HW
  obtain ⟨p_0, p_1, p_2, p_f⟩ := Has.facts3 P
  go_wp2_with fail
  refine (rgood_any _ _).mono ?_; rintro e w2 ⟨rfl, rfl⟩
  cases hg : goodB pa.length
  · have HG := Lib.hid hg
    clear hg
    go_wp2_with fail
    go_ret2
    exact ⟨HP.out _ _ (rrecv_bad _ _ (.inl ⟨HG.out, rfl⟩)), O⟩
  have HG := Lib.hid hg
  clear hg
  have hways : pa.length = y.length ∧ pa.length = x.length ∨ ¬ pa.length = y.length ∨ (pa.length = y.length ∧ ¬ pa.length = x.length) := by omega
  rcases hways with ⟨h1, h2⟩ | h1 | ⟨h1, h2⟩
  rotate_left
  · have H1 := Lib.hid h1
    have g1 := ne_nat (a := y.length) (b := pa.length) (fun e => h1 e.symm)
    have g2 := ne_nat2 (a := y.length) (b := pa.length) (fun e => h1 e.symm)
    clear h1
    generalize y.length = ny at g1 g2 ⊢
    generalize pa.length = na at g1 g2 p_0 ⊢
    go_wp2_with fail
    go_ret2
    exact ⟨HP.out _ _ (rrecv_bad _ _ (.inr ⟨HG.out, fun h => H1.out h.1, rfl⟩)), O⟩
  · have H2 := Lib.hid h2
    have H1 := Lib.hid h1
    rw [← h1] at *
    have g1 := ne_nat (a := x.length) (b := pa.length) (fun e => h2 e.symm)
    have g2 := ne_nat2 (a := x.length) (b := pa.length) (fun e => h2 e.symm)
    clear h1 h2
    generalize x.length = nx at g1 g2 ⊢
    generalize pa.length = na at g1 g2 p_0 ⊢
    go_wp2_with fail
    go_ret2
    exact ⟨HP.out _ _ (rrecv_bad _ _ (.inr ⟨HG.out, fun h => H2.out h.2, rfl⟩)), O⟩
  have H1 := Lib.hid h1
  have H2 := Lib.hid h2
  have HB := Lib.hid (fun W (o : Only (fun _ => False) w W) => both_any W _ _ pa y (HRA.out W o) (HRY.out W o) HL.out (by rw [← H1.out]; exact HL.out))
  have g1 : ((y.length : Int) != (pa.length : Int)) = false := by rw [← h1]; simp
  have g2 : ((x.length : Int) != (pa.length : Int)) = false := by rw [← h2]; simp
  have g3 : (y.length != pa.length) = false := by rw [← h1]; simp
  have g4 : (x.length != pa.length) = false := by rw [← h2]; simp
  clear h1 h2
  go_wp2_with fail
  refine (HB.out _ O).mono ?_; rintro e w3 ⟨⟨u3, rfl, hu3⟩, o3⟩
  rw [both_and H1.out] at hu3
  have hr3 := Reads.ofOwn hu3 (by simp [bcellsB_length])
  obtain ⟨A3', k3', rfl, -⟩ := hr3.shape
  have O3 := O.trans o3
  have HR3 := Lib.hid hr3
  clear hr3 hu3 o3
  rw [bcellsB_length] at HR3
  simp only [bcellsB_length]
  go_wp2_with fail
  refine (odd2_any _ w3.heap.size _ _ (andL pa y) x (Has.new _ _ _) (HR3.out.inner ((Only.refl _ _).alloc _)) (HRX.out _ (O3.alloc _)) (by rw [andL_len H1.out]; exact HL.out)).mono ?_; rintro e w4 ⟨hp4, o4⟩
  have O4 := (O3.alloc _).trans o4
  rcases hp4 with ⟨l4, A4, c4, rfl, r4⟩ | ⟨l4, rfl⟩
  rotate_left
  · exact absurd (by rw [andL_len H1.out]; exact H2.out) l4
  clear o4 l4
  have V4 := Lib.hid (Reads.ofOwn r4 (by simp [bcellsB_length]))
  clear r4
  go_wp2_with fail
  go_ret2
  exact ⟨HP.out _ _ (rrecv_good _ HG.out H1.out H2.out V4.out), O4⟩
end Go.Proofs.Ythkgjhjfgoglhaa

