/- The law trefoillaw24.BitmulSides: its walk. -/
import Derived.Test.YthkgjhjfgoglhaaTb
import Derived.Test.YthkgjhjfgoglhaaTc
set_option linter.unusedSimpArgs false
set_option linter.unusedVariables false
namespace Go.Proofs.Ythkgjhjfgoglhaa
open Go.RowKit

theorem vec_any0 (w : World) (a : Value) (l : List Bool) (ha : Reads w a (bcellsB l)) (hl : l.length ≤ 4194304) : Calls Try.prog 16 #[a] w fun x w' => (∃ A k c, x = .returned (.agg #[.int .i64 l.length, .slice A k c]) ∧ VL w' 0 (.agg #[.int .i64 l.length, .slice A k c]) l) ∧ Only (fun _ => False) w w' := by
  refine (vec_any w a l ha hl).mono ?_
  rintro x w' ⟨⟨v, rfl, hv⟩, o⟩
  obtain ⟨A, k, c, rfl⟩ := hv.shape
  exact ⟨⟨A, k, c, rfl, hv.mono (Nat.zero_le _)⟩, o⟩
theorem of_any0 (w : World) (v : Value) (p : Pt) (h : RefP w v p) (h1 : p.a.length ≤ 4194304) (h2 : p.b.length ≤ 4194304) (h3 : p.c.length ≤ 4194304) : Calls Try.prog 9 #[v] w fun x w' => (∃ A1 k1 c1 A2 k2 c2 A3 k3 c3, x = .returned (.agg #[.int .i64 p.a.length, .slice A1 k1 c1, .int .i64 p.b.length, .slice A2 k2 c2, .int .i64 p.c.length, .slice A3 k3 c3]) ∧ PartV w' 0 (.agg #[.int .i64 p.a.length, .slice A1 k1 c1, .int .i64 p.b.length, .slice A2 k2 c2, .int .i64 p.c.length, .slice A3 k3 c3]) p) ∧ Only (fun _ => False) w w' := by
  refine (of_any w v p h h1 h2 h3).mono ?_
  rintro x w' ⟨⟨u, rfl, hu⟩, o⟩
  obtain ⟨A1, k1, c1, A2, k2, c2, A3, k3, c3, rfl⟩ := hu.lit
  exact ⟨⟨A1, k1, c1, A2, k2, c2, A3, k3, c3, rfl, hu.mono (Nat.zero_le _)⟩, o⟩
theorem sides_len (p : Pt) (x y : List Bool) (h1 : p.a.length ≤ 300) (h2 : x.length ≤ 300) : (sendF p x y).length ≤ 300 ∧ (sendZ p x y).length ≤ 300 ∧ (recvL p x y).length ≤ 300 ∧ (finP p x y).a.length ≤ 300 ∧ (finP p x y).b.length ≤ 300 ∧ (finP p x y).c.length ≤ 300 := by
  have e1 : (sendF p x y).length ≤ 300 := by
    unfold sendF
    split
    · rename_i h
      rw [xorL_len (by rw [xorL_len h.2.1]; exact h.2.2), xorL_len h.2.1]; exact h2
    · simp
  have e2 : (sendZ p x y).length ≤ 300 := by
    unfold sendZ
    split
    · exact h2
    · simp
  have e3 : (recvL p x y).length ≤ 300 := by
    unfold recvL
    split
    · rename_i h
      rw [xorL_len (by rw [andL_len h.2.1]; exact h.2.2), andL_len h.2.1]; exact h1
    · simp
  refine ⟨e1, e2, e3, ?_⟩
  unfold finP
  split
  · rename_i h
    obtain ⟨_, a, b, c⟩ := h
    have l1 := andL_len a
    have l2 := xorL_len (l := andL p.a p.b) (m := x) (by omega)
    have l3 := xorL_len (l := xorL (andL p.a p.b) x) (m := y) (by omega)
    simp only
    refine ⟨h1, by omega, by omega⟩
  · simp
set_option maxRecDepth 100000 in
set_option maxHeartbeats 8000000 in
theorem sidesLaw_any (w : World) (vp vx vy : Value) (p : Pt) (x y : List Bool) (hv : RefP w vp p) (hx : Reads w vx (bcellsB x)) (hy : Reads w vy (bcellsB y)) : Calls Try.prog 4 #[vp, vx, vy] w fun x w' => x = .returned (.bool true) ∧ Only (fun _ => False) w w' := by
  have HRP := Lib.hid (fun W (o : Only (fun _ => False) w W) => hv.inner o)
  obtain ⟨sa, sb, sc, rfl, ra, rb, rc⟩ := hv
  obtain ⟨A1, k1, rfl, -⟩ := ra.shape
  obtain ⟨A2, k2, rfl, -⟩ := rb.shape
  obtain ⟨A3, k3, rfl, -⟩ := rc.shape
  obtain ⟨AX, kx, rfl, -⟩ := hx.shape
  obtain ⟨AY, ky, rfl, -⟩ := hy.shape
  simp only [bcellsB_length] at *
  have HRX := Lib.hid (fun W (o : Only (fun _ => False) w W) => hx.inner o)
  have HRY := Lib.hid (fun W (o : Only (fun _ => False) w W) => hy.inner o)
  clear ra rb rc hx hy
  generalize hW : (w.alloc (.cells #[.slice A1 p.a.length k1, .slice A2 p.b.length k2, .slice A3 p.c.length k3] 24)) = W5
  have P := (show Has W5 w.heap.size 24 #[.slice A1 p.a.length k1, .slice A2 p.b.length k2, .slice A3 p.c.length k3] by rw [← hW]; exact Has.new _ _ _)
  have O := (show Only (fun _ => False) w W5 by rw [← hW]; exact (Only.refl _ _).alloc _)
  have HW := Lib.hid hW
  clear hW
  go_enter Try.func4, Try.ntmps4
  go_upto_region 1 with fail
  rw [HW.out]
  clear HW
  obtain ⟨p_0, p_1, p_2⟩ := part_facts P
  go_wp2_with fail
  clear p_0 p_1 p_2
  refine (short_any _ _ p (HRP.out _ O)).mono ?_; rintro e w1 ⟨rfl, o1⟩
  have P1 := Only.has o1 P (fun f => f)
  have O1 := O.trans o1
  clear P O
  clear o1
  cases hsp : shortB p
  · clear hsp
    go_wp2_with fail
    refine (awake_any _).mono ?_; rintro e w9 ⟨rfl, o9⟩
    go_wp2_with fail
    go_ret
    exact ⟨rfl, O1.trans o9⟩
  by_cases hlx : (x.length : Int) > 300
  · clear hsp
    go_wp2_with fail
    refine (awake_any _).mono ?_; rintro e w9 ⟨rfl, o9⟩
    go_wp2_with fail
    go_ret
    exact ⟨rfl, O1.trans o9⟩
  by_cases hly : (y.length : Int) > 300
  · clear hsp
    go_wp2_with fail
    refine (awake_any _).mono ?_; rintro e w9 ⟨rfl, o9⟩
    go_wp2_with fail
    go_ret
    exact ⟨rfl, O1.trans o9⟩
  have HL := Lib.hid (show p.a.length ≤ 300 ∧ p.b.length ≤ 300 ∧ p.c.length ≤ 300 ∧ x.length ≤ 300 ∧ y.length ≤ 300 from by
    have h : p.a.length ≤ 300 ∧ p.b.length ≤ 300 ∧ p.c.length ≤ 300 := by unfold shortB at hsp; simpa [and_assoc] using hsp
    exact ⟨h.1, h.2.1, h.2.2, by omega, by omega⟩)
  clear hsp
  have HOF := Lib.hid (fun W (o : Only (fun _ => False) w W) => of_any0 W _ p (HRP.out W o) (by have := HL.out; omega) (by have := HL.out; omega) (by have := HL.out; omega))
  have HVX := Lib.hid (fun W (o : Only (fun _ => False) w W) => vec_any0 W _ x (HRX.out W o) (by have := HL.out; omega))
  have HVY := Lib.hid (fun W (o : Only (fun _ => False) w W) => vec_any0 W _ y (HRY.out W o) (by have := HL.out; omega))
  have hlx' : decide ((x.length : Int) > 300) = false := by simpa using hlx
  have hly' : decide ((y.length : Int) > 300) = false := by simpa using hly
  obtain ⟨p_0, p_1, p_2⟩ := part_facts P1
  go_wp2_with fail
  clear hlx hly hlx' hly'
  clear p_0 p_1 p_2
  refine (HOF.out _ O1).mono ?_; rintro e w2 ⟨⟨F1, F2, F3, F4, F5, F6, F7, F8, F9, rfl, hf⟩, o2⟩
  have P2 := Only.has o2 P1 (fun f => f)
  have O2 := O1.trans o2
  clear P1 O1
  clear o2
  have HF1 := Lib.hid hf
  clear hf
  go_wp2_with fail
  refine (HVX.out _ O2).mono ?_; rintro e w3 ⟨⟨X1, X2, X3, rfl, hf⟩, o3⟩
  have P3 := Only.has o3 P2 (fun f => f)
  have O3 := O2.trans o3
  have HF13 := Lib.hid (HF1.out.inner o3)
  clear P2 O2 HF1
  clear o3
  have HX1 := Lib.hid hf
  clear hf
  go_wp2_with fail
  refine (HVY.out _ O3).mono ?_; rintro e w4 ⟨⟨Y1, Y2, Y3, rfl, hf⟩, o4⟩
  have P4 := Only.has o4 P3 (fun f => f)
  have O4 := O3.trans o4
  have HF14 := Lib.hid (HF13.out.inner o4)
  have HX14 := Lib.hid (HX1.out.inner o4)
  clear P3 O3 HF13 HX1
  clear o4
  have HY1 := Lib.hid hf
  clear hf
  go_wp2_with fail
  refine (send_any _ _ _ _ p x y HF14.out HX14.out HY1.out (by have := HL.out; omega)).mono ?_; rintro e w5 ⟨⟨S1, S2, S3, S4, S5, S6, rfl, hs1, hs2⟩, o5⟩
  have P5 := Only.has o5 P4 (fun f => f)
  have O5 := O4.trans o5
  have HF15 := Lib.hid (HF14.out.inner o5)
  have HX15 := Lib.hid (HX14.out.inner o5)
  have HY15 := Lib.hid (HY1.out.inner o5)
  clear P4 O4 HF14 HX14 HY1
  clear o5
  clear HF15 HX15 HY15
  have V7 := Lib.hid hs1
  have V8 := Lib.hid hs2
  clear hs1 hs2
  have P6 := Has.alloc P5 (.cells #[.int .i64 (sendF p x y).length, .slice S1 S2 S3] 29)
  have O6 := O5.alloc (.cells #[.int .i64 (sendF p x y).length, .slice S1 S2 S3] 29)
  have V76 := Lib.hid (V7.out.inner ((Only.refl _ _).alloc (.cells #[.int .i64 (sendF p x y).length, .slice S1 S2 S3] 29)))
  have V86 := Lib.hid (V8.out.inner ((Only.refl _ _).alloc (.cells #[.int .i64 (sendF p x y).length, .slice S1 S2 S3] 29)))
  clear P5 O5 V7 V8
  have B7 := Has.new w5 29 #[.int .i64 (sendF p x y).length, .slice S1 S2 S3]
  have P7 := Has.alloc P6 (.cells #[.int .i64 (sendZ p x y).length, .slice S4 S5 S6] 29)
  have O7 := O6.alloc (.cells #[.int .i64 (sendZ p x y).length, .slice S4 S5 S6] 29)
  have V77 := Lib.hid (V76.out.inner ((Only.refl _ _).alloc (.cells #[.int .i64 (sendZ p x y).length, .slice S4 S5 S6] 29)))
  have V87 := Lib.hid (V86.out.inner ((Only.refl _ _).alloc (.cells #[.int .i64 (sendZ p x y).length, .slice S4 S5 S6] 29)))
  have B77 := Has.alloc B7 (.cells #[.int .i64 (sendZ p x y).length, .slice S4 S5 S6] 29)
  clear P6 O6 V76 V86 B7
  have B8 := has_new2 w5 (.cells #[.int .i64 (sendF p x y).length, .slice S1 S2 S3] 29) 29 #[.int .i64 (sendZ p x y).length, .slice S4 S5 S6]
  obtain ⟨p_0, p_1, p_2⟩ := part_facts P7
  go_wp2_with fail
  clear p_0 p_1 p_2
  refine (rsend_any _ _ _ _ p x y (HRP.out _ O7) (HRX.out _ O7) (HRY.out _ O7) (by have := HL.out; omega)).mono ?_; rintro e w8 ⟨⟨T1, T2, T3, T4, rfl, hs1, hs2⟩, o8⟩
  have P8 := Only.has o8 P7 (fun f => f)
  have O8 := O7.trans o8
  have V78 := Lib.hid (V77.out.inner o8)
  have V88 := Lib.hid (V87.out.inner o8)
  have B78 := Only.has o8 B77 (fun f => f)
  have B88 := Only.has o8 B8 (fun f => f)
  clear P7 O7 V77 V87 B77 B8
  clear o8
  have R10 := Lib.hid hs1
  clear hs1
  have R11 := Lib.hid hs2
  clear hs2
  obtain ⟨p_0, p_1, p_2⟩ := part_facts P8
  go_wp2_with fail
  clear p_0 p_1 p_2
  refine (HOF.out _ O8).mono ?_; rintro e w9 ⟨⟨F1, F2, F3, F4, F5, F6, F7, F8, F9, rfl, hf⟩, o9⟩
  have P9 := Only.has o9 P8 (fun f => f)
  have O9 := O8.trans o9
  have V79 := Lib.hid (V78.out.inner o9)
  have V89 := Lib.hid (V88.out.inner o9)
  have B79 := Only.has o9 B78 (fun f => f)
  have B89 := Only.has o9 B88 (fun f => f)
  have R109 := Lib.hid (R10.out.inner o9)
  have R119 := Lib.hid (R11.out.inner o9)
  clear P8 O8 V78 V88 B78 B88 R10 R11
  clear o9
  have HF2 := Lib.hid hf
  clear hf
  go_wp2_with fail
  refine (HVX.out _ O9).mono ?_; rintro e w10 ⟨⟨X1, X2, X3, rfl, hf⟩, o10⟩
  have P10 := Only.has o10 P9 (fun f => f)
  have O10 := O9.trans o10
  have V710 := Lib.hid (V79.out.inner o10)
  have V810 := Lib.hid (V89.out.inner o10)
  have B710 := Only.has o10 B79 (fun f => f)
  have B810 := Only.has o10 B89 (fun f => f)
  have R1010 := Lib.hid (R109.out.inner o10)
  have R1110 := Lib.hid (R119.out.inner o10)
  have HF210 := Lib.hid (HF2.out.inner o10)
  clear P9 O9 V79 V89 B79 B89 R109 R119 HF2
  clear o10
  have HX2 := Lib.hid hf
  clear hf
  go_wp2_with fail
  refine (HVY.out _ O10).mono ?_; rintro e w11 ⟨⟨Y1, Y2, Y3, rfl, hf⟩, o11⟩
  have P11 := Only.has o11 P10 (fun f => f)
  have O11 := O10.trans o11
  have V711 := Lib.hid (V710.out.inner o11)
  have V811 := Lib.hid (V810.out.inner o11)
  have B711 := Only.has o11 B710 (fun f => f)
  have B811 := Only.has o11 B810 (fun f => f)
  have R1011 := Lib.hid (R1010.out.inner o11)
  have R1111 := Lib.hid (R1110.out.inner o11)
  have HF211 := Lib.hid (HF210.out.inner o11)
  have HX211 := Lib.hid (HX2.out.inner o11)
  clear P10 O10 V710 V810 B710 B810 R1010 R1110 HF210 HX2
  clear o11
  have HY2 := Lib.hid hf
  clear hf
  go_wp2_with fail
  refine (recv_any _ _ _ _ p x y HF211.out HX211.out HY2.out (by have := HL.out; omega)).mono ?_; rintro e w12 ⟨⟨U1, U2, U3, rfl, hs1⟩, o12⟩
  have P12 := Only.has o12 P11 (fun f => f)
  have O12 := O11.trans o12
  have V712 := Lib.hid (V711.out.inner o12)
  have V812 := Lib.hid (V811.out.inner o12)
  have B712 := Only.has o12 B711 (fun f => f)
  have B812 := Only.has o12 B811 (fun f => f)
  have R1012 := Lib.hid (R1011.out.inner o12)
  have R1112 := Lib.hid (R1111.out.inner o12)
  have HF212 := Lib.hid (HF211.out.inner o12)
  have HX212 := Lib.hid (HX211.out.inner o12)
  have HY212 := Lib.hid (HY2.out.inner o12)
  clear P11 O11 V711 V811 B711 B811 R1011 R1111 HF211 HX211 HY2
  clear o12
  clear HF212 HX212 HY212
  have V13 := Lib.hid hs1
  clear hs1
  have P13 := Has.alloc P12 (.cells #[.int .i64 (recvL p x y).length, .slice U1 U2 U3] 29)
  have O13 := O12.alloc (.cells #[.int .i64 (recvL p x y).length, .slice U1 U2 U3] 29)
  have V713 := Lib.hid (V712.out.inner ((Only.refl _ _).alloc (.cells #[.int .i64 (recvL p x y).length, .slice U1 U2 U3] 29)))
  have V813 := Lib.hid (V812.out.inner ((Only.refl _ _).alloc (.cells #[.int .i64 (recvL p x y).length, .slice U1 U2 U3] 29)))
  have B713 := Has.alloc B712 (.cells #[.int .i64 (recvL p x y).length, .slice U1 U2 U3] 29)
  have B813 := Has.alloc B812 (.cells #[.int .i64 (recvL p x y).length, .slice U1 U2 U3] 29)
  have R1013 := Lib.hid (R1012.out.inner ((Only.refl _ _).alloc (.cells #[.int .i64 (recvL p x y).length, .slice U1 U2 U3] 29)))
  have R1113 := Lib.hid (R1112.out.inner ((Only.refl _ _).alloc (.cells #[.int .i64 (recvL p x y).length, .slice U1 U2 U3] 29)))
  have V1313 := Lib.hid (V13.out.inner ((Only.refl _ _).alloc (.cells #[.int .i64 (recvL p x y).length, .slice U1 U2 U3] 29)))
  clear P12 O12 V712 V812 B712 B812 R1012 R1112 V13
  have B13 := Has.new w12 29 #[.int .i64 (recvL p x y).length, .slice U1 U2 U3]
  obtain ⟨p_0, p_1, p_2⟩ := part_facts P13
  go_wp2_with fail
  clear p_0 p_1 p_2
  refine (rrecv_any _ _ _ _ p x y (HRP.out _ O13) (HRX.out _ O13) (HRY.out _ O13) (by have := HL.out; omega)).mono ?_; rintro e w14 ⟨⟨T5, T6, rfl, hs1⟩, o14⟩
  have P14 := Only.has o14 P13 (fun f => f)
  have O14 := O13.trans o14
  have V714 := Lib.hid (V713.out.inner o14)
  have V814 := Lib.hid (V813.out.inner o14)
  have B714 := Only.has o14 B713 (fun f => f)
  have B814 := Only.has o14 B813 (fun f => f)
  have R1014 := Lib.hid (R1013.out.inner o14)
  have R1114 := Lib.hid (R1113.out.inner o14)
  have V1314 := Lib.hid (V1313.out.inner o14)
  have B1314 := Only.has o14 B13 (fun f => f)
  clear P13 O13 V713 V813 B713 B813 R1013 R1113 V1313 B13
  clear o14
  have R15 := Lib.hid hs1
  clear hs1
  obtain ⟨p_0, p_1, p_2⟩ := part_facts P14
  go_wp2_with fail
  clear p_0 p_1 p_2
  refine (HOF.out _ O14).mono ?_; rintro e w15 ⟨⟨F1, F2, F3, F4, F5, F6, F7, F8, F9, rfl, hf⟩, o15⟩
  have P15 := Only.has o15 P14 (fun f => f)
  have O15 := O14.trans o15
  have V715 := Lib.hid (V714.out.inner o15)
  have V815 := Lib.hid (V814.out.inner o15)
  have B715 := Only.has o15 B714 (fun f => f)
  have B815 := Only.has o15 B814 (fun f => f)
  have R1015 := Lib.hid (R1014.out.inner o15)
  have R1115 := Lib.hid (R1114.out.inner o15)
  have V1315 := Lib.hid (V1314.out.inner o15)
  have B1315 := Only.has o15 B1314 (fun f => f)
  have R1515 := Lib.hid (R15.out.inner o15)
  clear P14 O14 V714 V814 B714 B814 R1014 R1114 V1314 B1314 R15
  clear o15
  have HF3 := Lib.hid hf
  clear hf
  go_wp2_with fail
  refine (HVX.out _ O15).mono ?_; rintro e w16 ⟨⟨X1, X2, X3, rfl, hf⟩, o16⟩
  have P16 := Only.has o16 P15 (fun f => f)
  have O16 := O15.trans o16
  have V716 := Lib.hid (V715.out.inner o16)
  have V816 := Lib.hid (V815.out.inner o16)
  have B716 := Only.has o16 B715 (fun f => f)
  have B816 := Only.has o16 B815 (fun f => f)
  have R1016 := Lib.hid (R1015.out.inner o16)
  have R1116 := Lib.hid (R1115.out.inner o16)
  have V1316 := Lib.hid (V1315.out.inner o16)
  have B1316 := Only.has o16 B1315 (fun f => f)
  have R1516 := Lib.hid (R1515.out.inner o16)
  have HF316 := Lib.hid (HF3.out.inner o16)
  clear P15 O15 V715 V815 B715 B815 R1015 R1115 V1315 B1315 R1515 HF3
  clear o16
  have HX3 := Lib.hid hf
  clear hf
  go_wp2_with fail
  refine (HVY.out _ O16).mono ?_; rintro e w17 ⟨⟨Y1, Y2, Y3, rfl, hf⟩, o17⟩
  have P17 := Only.has o17 P16 (fun f => f)
  have O17 := O16.trans o17
  have V717 := Lib.hid (V716.out.inner o17)
  have V817 := Lib.hid (V816.out.inner o17)
  have B717 := Only.has o17 B716 (fun f => f)
  have B817 := Only.has o17 B816 (fun f => f)
  have R1017 := Lib.hid (R1016.out.inner o17)
  have R1117 := Lib.hid (R1116.out.inner o17)
  have V1317 := Lib.hid (V1316.out.inner o17)
  have B1317 := Only.has o17 B1316 (fun f => f)
  have R1517 := Lib.hid (R1516.out.inner o17)
  have HF317 := Lib.hid (HF316.out.inner o17)
  have HX317 := Lib.hid (HX3.out.inner o17)
  clear P16 O16 V716 V816 B716 B816 R1016 R1116 V1316 B1316 R1516 HF316 HX3
  clear o17
  have HY3 := Lib.hid hf
  clear hf
  go_wp2_with fail
  refine (fin_any _ _ _ _ p x y HF317.out HX317.out HY3.out (by have := HL.out; omega)).mono ?_; rintro e w18 ⟨⟨uf, rfl, hs1⟩, o18⟩
  have P18 := Only.has o18 P17 (fun f => f)
  have O18 := O17.trans o18
  have V718 := Lib.hid (V717.out.inner o18)
  have V818 := Lib.hid (V817.out.inner o18)
  have B718 := Only.has o18 B717 (fun f => f)
  have B818 := Only.has o18 B817 (fun f => f)
  have R1018 := Lib.hid (R1017.out.inner o18)
  have R1118 := Lib.hid (R1117.out.inner o18)
  have V1318 := Lib.hid (V1317.out.inner o18)
  have B1318 := Only.has o18 B1317 (fun f => f)
  have R1518 := Lib.hid (R1517.out.inner o18)
  have HF318 := Lib.hid (HF317.out.inner o18)
  have HX318 := Lib.hid (HX317.out.inner o18)
  have HY318 := Lib.hid (HY3.out.inner o18)
  clear P17 O17 V717 V817 B717 B817 R1017 R1117 V1317 B1317 R1517 HF317 HX317 HY3
  clear o18
  clear HF318 HX318 HY318
  obtain ⟨G1, g1, g2, G2, g3, g4, G3, g5, g6, rfl⟩ := hs1.lit
  have V17 := Lib.hid hs1
  clear hs1
  have P19 := Has.alloc P18 (.cells #[.int .i64 (finP p x y).a.length, .slice G1 g1 g2, .int .i64 (finP p x y).b.length, .slice G2 g3 g4, .int .i64 (finP p x y).c.length, .slice G3 g5 g6] 34)
  have O19 := O18.alloc (.cells #[.int .i64 (finP p x y).a.length, .slice G1 g1 g2, .int .i64 (finP p x y).b.length, .slice G2 g3 g4, .int .i64 (finP p x y).c.length, .slice G3 g5 g6] 34)
  have V719 := Lib.hid (V718.out.inner ((Only.refl _ _).alloc (.cells #[.int .i64 (finP p x y).a.length, .slice G1 g1 g2, .int .i64 (finP p x y).b.length, .slice G2 g3 g4, .int .i64 (finP p x y).c.length, .slice G3 g5 g6] 34)))
  have V819 := Lib.hid (V818.out.inner ((Only.refl _ _).alloc (.cells #[.int .i64 (finP p x y).a.length, .slice G1 g1 g2, .int .i64 (finP p x y).b.length, .slice G2 g3 g4, .int .i64 (finP p x y).c.length, .slice G3 g5 g6] 34)))
  have B719 := Has.alloc B718 (.cells #[.int .i64 (finP p x y).a.length, .slice G1 g1 g2, .int .i64 (finP p x y).b.length, .slice G2 g3 g4, .int .i64 (finP p x y).c.length, .slice G3 g5 g6] 34)
  have B819 := Has.alloc B818 (.cells #[.int .i64 (finP p x y).a.length, .slice G1 g1 g2, .int .i64 (finP p x y).b.length, .slice G2 g3 g4, .int .i64 (finP p x y).c.length, .slice G3 g5 g6] 34)
  have R1019 := Lib.hid (R1018.out.inner ((Only.refl _ _).alloc (.cells #[.int .i64 (finP p x y).a.length, .slice G1 g1 g2, .int .i64 (finP p x y).b.length, .slice G2 g3 g4, .int .i64 (finP p x y).c.length, .slice G3 g5 g6] 34)))
  have R1119 := Lib.hid (R1118.out.inner ((Only.refl _ _).alloc (.cells #[.int .i64 (finP p x y).a.length, .slice G1 g1 g2, .int .i64 (finP p x y).b.length, .slice G2 g3 g4, .int .i64 (finP p x y).c.length, .slice G3 g5 g6] 34)))
  have V1319 := Lib.hid (V1318.out.inner ((Only.refl _ _).alloc (.cells #[.int .i64 (finP p x y).a.length, .slice G1 g1 g2, .int .i64 (finP p x y).b.length, .slice G2 g3 g4, .int .i64 (finP p x y).c.length, .slice G3 g5 g6] 34)))
  have B1319 := Has.alloc B1318 (.cells #[.int .i64 (finP p x y).a.length, .slice G1 g1 g2, .int .i64 (finP p x y).b.length, .slice G2 g3 g4, .int .i64 (finP p x y).c.length, .slice G3 g5 g6] 34)
  have R1519 := Lib.hid (R1518.out.inner ((Only.refl _ _).alloc (.cells #[.int .i64 (finP p x y).a.length, .slice G1 g1 g2, .int .i64 (finP p x y).b.length, .slice G2 g3 g4, .int .i64 (finP p x y).c.length, .slice G3 g5 g6] 34)))
  have V1719 := Lib.hid (V17.out.inner ((Only.refl _ _).alloc (.cells #[.int .i64 (finP p x y).a.length, .slice G1 g1 g2, .int .i64 (finP p x y).b.length, .slice G2 g3 g4, .int .i64 (finP p x y).c.length, .slice G3 g5 g6] 34)))
  clear P18 O18 V718 V818 B718 B818 R1018 R1118 V1318 B1318 R1518 V17
  have B17 := Has.new w18 34 #[.int .i64 (finP p x y).a.length, .slice G1 g1 g2, .int .i64 (finP p x y).b.length, .slice G2 g3 g4, .int .i64 (finP p x y).c.length, .slice G3 g5 g6]
  obtain ⟨p_0, p_1, p_2⟩ := part_facts P19
  go_wp2_with fail
  clear p_0 p_1 p_2
  refine (rfin_any _ _ _ _ p x y (HRP.out _ O19) (HRX.out _ O19) (HRY.out _ O19) (by have := HL.out; omega)).mono ?_; rintro e w20 ⟨⟨M1, M2, M3, M4, M5, M6, rfl, hs1, hs2, hs3⟩, o20⟩
  have P20 := Only.has o20 P19 (fun f => f)
  have O20 := O19.trans o20
  have V720 := Lib.hid (V719.out.inner o20)
  have V820 := Lib.hid (V819.out.inner o20)
  have B720 := Only.has o20 B719 (fun f => f)
  have B820 := Only.has o20 B819 (fun f => f)
  have R1020 := Lib.hid (R1019.out.inner o20)
  have R1120 := Lib.hid (R1119.out.inner o20)
  have V1320 := Lib.hid (V1319.out.inner o20)
  have B1320 := Only.has o20 B1319 (fun f => f)
  have R1520 := Lib.hid (R1519.out.inner o20)
  have V1720 := Lib.hid (V1719.out.inner o20)
  have B1720 := Only.has o20 B17 (fun f => f)
  clear P19 O19 V719 V819 B719 B819 R1019 R1119 V1319 B1319 R1519 V1719 B17
  clear o20
  have Ra := Lib.hid hs1
  clear hs1
  have Rb := Lib.hid hs2
  clear hs2
  have Rc := Lib.hid hs3
  clear hs3
  clear P20
  have O21 := O20.alloc (.cells #[.slice M1 (finP p x y).a.length M2, .slice M3 (finP p x y).b.length M4, .slice M5 (finP p x y).c.length M6] 24)
  have V721 := Lib.hid (V720.out.inner ((Only.refl _ _).alloc (.cells #[.slice M1 (finP p x y).a.length M2, .slice M3 (finP p x y).b.length M4, .slice M5 (finP p x y).c.length M6] 24)))
  have V821 := Lib.hid (V820.out.inner ((Only.refl _ _).alloc (.cells #[.slice M1 (finP p x y).a.length M2, .slice M3 (finP p x y).b.length M4, .slice M5 (finP p x y).c.length M6] 24)))
  have B721 := Has.alloc B720 (.cells #[.slice M1 (finP p x y).a.length M2, .slice M3 (finP p x y).b.length M4, .slice M5 (finP p x y).c.length M6] 24)
  have B821 := Has.alloc B820 (.cells #[.slice M1 (finP p x y).a.length M2, .slice M3 (finP p x y).b.length M4, .slice M5 (finP p x y).c.length M6] 24)
  have R1021 := Lib.hid (R1020.out.inner ((Only.refl _ _).alloc (.cells #[.slice M1 (finP p x y).a.length M2, .slice M3 (finP p x y).b.length M4, .slice M5 (finP p x y).c.length M6] 24)))
  have R1121 := Lib.hid (R1120.out.inner ((Only.refl _ _).alloc (.cells #[.slice M1 (finP p x y).a.length M2, .slice M3 (finP p x y).b.length M4, .slice M5 (finP p x y).c.length M6] 24)))
  have V1321 := Lib.hid (V1320.out.inner ((Only.refl _ _).alloc (.cells #[.slice M1 (finP p x y).a.length M2, .slice M3 (finP p x y).b.length M4, .slice M5 (finP p x y).c.length M6] 24)))
  have B1321 := Has.alloc B1320 (.cells #[.slice M1 (finP p x y).a.length M2, .slice M3 (finP p x y).b.length M4, .slice M5 (finP p x y).c.length M6] 24)
  have R1521 := Lib.hid (R1520.out.inner ((Only.refl _ _).alloc (.cells #[.slice M1 (finP p x y).a.length M2, .slice M3 (finP p x y).b.length M4, .slice M5 (finP p x y).c.length M6] 24)))
  have V1721 := Lib.hid (V1720.out.inner ((Only.refl _ _).alloc (.cells #[.slice M1 (finP p x y).a.length M2, .slice M3 (finP p x y).b.length M4, .slice M5 (finP p x y).c.length M6] 24)))
  have B1721 := Has.alloc B1720 (.cells #[.slice M1 (finP p x y).a.length M2, .slice M3 (finP p x y).b.length M4, .slice M5 (finP p x y).c.length M6] 24)
  have Ra21 := Lib.hid (Ra.out.inner ((Only.refl _ _).alloc (.cells #[.slice M1 (finP p x y).a.length M2, .slice M3 (finP p x y).b.length M4, .slice M5 (finP p x y).c.length M6] 24)))
  have Rb21 := Lib.hid (Rb.out.inner ((Only.refl _ _).alloc (.cells #[.slice M1 (finP p x y).a.length M2, .slice M3 (finP p x y).b.length M4, .slice M5 (finP p x y).c.length M6] 24)))
  have Rc21 := Lib.hid (Rc.out.inner ((Only.refl _ _).alloc (.cells #[.slice M1 (finP p x y).a.length M2, .slice M3 (finP p x y).b.length M4, .slice M5 (finP p x y).c.length M6] 24)))
  clear O20 V720 V820 B720 B820 R1020 R1120 V1320 B1320 R1520 V1720 B1720 Ra Rb Rc
  have B19 := Has.new w20 24 #[.slice M1 (finP p x y).a.length M2, .slice M3 (finP p x y).b.length M4, .slice M5 (finP p x y).c.length M6]
  have HLF := Lib.hid (sides_len p x y (by have := HL.out; omega) (by have := HL.out; omega))
  have HCS : Hid (∀ l : List Bool, l.length ≤ 4611686018427387904 → True) := Lib.hid (fun _ _ => trivial)
  generalize hF : sendF p x y = lF at *
  generalize hZ : sendZ p x y = lZ at *
  generalize hR : recvL p x y = lR at *
  generalize hQ : finP p x y = lQ at *
  generalize sendC p x y = cS at *
  generalize recvC p x y = cR at *
  generalize finC p x y = cF at *
  clear hF hZ hR hQ HCS
  obtain ⟨b7_0, b7_1, b7_f⟩ := Has.facts2 B721
  go_wp2_with fail
  clear b7_0 b7_1 b7_f
  refine (bools_reads _ _ lF V721.out (by have := HLF.out; omega)).mono ?_; rintro e w22 ⟨⟨g9, rfl, hs1⟩, o22⟩
  have O22 := O21.trans o22
  have V722 := Lib.hid (V721.out.inner o22)
  have V822 := Lib.hid (V821.out.inner o22)
  have B722 := Only.has o22 B721 (fun f => f)
  have B822 := Only.has o22 B821 (fun f => f)
  have R1022 := Lib.hid (R1021.out.inner o22)
  have R1122 := Lib.hid (R1121.out.inner o22)
  have V1322 := Lib.hid (V1321.out.inner o22)
  have B1322 := Only.has o22 B1321 (fun f => f)
  have R1522 := Lib.hid (R1521.out.inner o22)
  have V1722 := Lib.hid (V1721.out.inner o22)
  have B1722 := Only.has o22 B1721 (fun f => f)
  have Ra22 := Lib.hid (Ra21.out.inner o22)
  have Rb22 := Lib.hid (Rb21.out.inner o22)
  have Rc22 := Lib.hid (Rc21.out.inner o22)
  have B1922 := Only.has o22 B19 (fun f => f)
  clear O21 V721 V821 B721 B821 R1021 R1121 V1321 B1321 R1521 V1721 B1721 Ra21 Rb21 Rc21 B19
  clear o22
  go_wp2_with fail
  refine (same_eq _ _ _ lF hs1 R1022.out (by have := HLF.out; omega)).mono ?_; rintro e w23 ⟨rfl, o23⟩
  have O23 := O22.trans o23
  have V723 := Lib.hid (V722.out.inner o23)
  have V823 := Lib.hid (V822.out.inner o23)
  have B723 := Only.has o23 B722 (fun f => f)
  have B823 := Only.has o23 B822 (fun f => f)
  have R1023 := Lib.hid (R1022.out.inner o23)
  have R1123 := Lib.hid (R1122.out.inner o23)
  have V1323 := Lib.hid (V1322.out.inner o23)
  have B1323 := Only.has o23 B1322 (fun f => f)
  have R1523 := Lib.hid (R1522.out.inner o23)
  have V1723 := Lib.hid (V1722.out.inner o23)
  have B1723 := Only.has o23 B1722 (fun f => f)
  have Ra23 := Lib.hid (Ra22.out.inner o23)
  have Rb23 := Lib.hid (Rb22.out.inner o23)
  have Rc23 := Lib.hid (Rc22.out.inner o23)
  have B1923 := Only.has o23 B1922 (fun f => f)
  clear O22 V722 V822 B722 B822 R1022 R1122 V1322 B1322 R1522 V1722 B1722 Ra22 Rb22 Rc22 B1922
  clear o23
  clear hs1
  obtain ⟨b8_0, b8_1, b8_f⟩ := Has.facts2 B823
  go_wp2_with fail
  clear b8_0 b8_1 b8_f
  refine (bools_reads _ _ lZ V823.out (by have := HLF.out; omega)).mono ?_; rintro e w24 ⟨⟨g9, rfl, hs1⟩, o24⟩
  have O24 := O23.trans o24
  have V724 := Lib.hid (V723.out.inner o24)
  have V824 := Lib.hid (V823.out.inner o24)
  have B724 := Only.has o24 B723 (fun f => f)
  have B824 := Only.has o24 B823 (fun f => f)
  have R1024 := Lib.hid (R1023.out.inner o24)
  have R1124 := Lib.hid (R1123.out.inner o24)
  have V1324 := Lib.hid (V1323.out.inner o24)
  have B1324 := Only.has o24 B1323 (fun f => f)
  have R1524 := Lib.hid (R1523.out.inner o24)
  have V1724 := Lib.hid (V1723.out.inner o24)
  have B1724 := Only.has o24 B1723 (fun f => f)
  have Ra24 := Lib.hid (Ra23.out.inner o24)
  have Rb24 := Lib.hid (Rb23.out.inner o24)
  have Rc24 := Lib.hid (Rc23.out.inner o24)
  have B1924 := Only.has o24 B1923 (fun f => f)
  clear O23 V723 V823 B723 B823 R1023 R1123 V1323 B1323 R1523 V1723 B1723 Ra23 Rb23 Rc23 B1923
  clear o24
  go_wp2_with fail
  refine (same_eq _ _ _ lZ hs1 R1124.out (by have := HLF.out; omega)).mono ?_; rintro e w25 ⟨rfl, o25⟩
  have O25 := O24.trans o25
  have V725 := Lib.hid (V724.out.inner o25)
  have V825 := Lib.hid (V824.out.inner o25)
  have B725 := Only.has o25 B724 (fun f => f)
  have B825 := Only.has o25 B824 (fun f => f)
  have R1025 := Lib.hid (R1024.out.inner o25)
  have R1125 := Lib.hid (R1124.out.inner o25)
  have V1325 := Lib.hid (V1324.out.inner o25)
  have B1325 := Only.has o25 B1324 (fun f => f)
  have R1525 := Lib.hid (R1524.out.inner o25)
  have V1725 := Lib.hid (V1724.out.inner o25)
  have B1725 := Only.has o25 B1724 (fun f => f)
  have Ra25 := Lib.hid (Ra24.out.inner o25)
  have Rb25 := Lib.hid (Rb24.out.inner o25)
  have Rc25 := Lib.hid (Rc24.out.inner o25)
  have B1925 := Only.has o25 B1924 (fun f => f)
  clear O24 V724 V824 B724 B824 R1024 R1124 V1324 B1324 R1524 V1724 B1724 Ra24 Rb24 Rc24 B1924
  clear o25
  clear hs1
  obtain ⟨b13_0, b13_1, b13_f⟩ := Has.facts2 B1325
  go_wp2_with fail
  clear b13_0 b13_1 b13_f
  refine (bools_reads _ _ lR V1325.out (by have := HLF.out; omega)).mono ?_; rintro e w26 ⟨⟨g9, rfl, hs1⟩, o26⟩
  have O26 := O25.trans o26
  have V726 := Lib.hid (V725.out.inner o26)
  have V826 := Lib.hid (V825.out.inner o26)
  have B726 := Only.has o26 B725 (fun f => f)
  have B826 := Only.has o26 B825 (fun f => f)
  have R1026 := Lib.hid (R1025.out.inner o26)
  have R1126 := Lib.hid (R1125.out.inner o26)
  have V1326 := Lib.hid (V1325.out.inner o26)
  have B1326 := Only.has o26 B1325 (fun f => f)
  have R1526 := Lib.hid (R1525.out.inner o26)
  have V1726 := Lib.hid (V1725.out.inner o26)
  have B1726 := Only.has o26 B1725 (fun f => f)
  have Ra26 := Lib.hid (Ra25.out.inner o26)
  have Rb26 := Lib.hid (Rb25.out.inner o26)
  have Rc26 := Lib.hid (Rc25.out.inner o26)
  have B1926 := Only.has o26 B1925 (fun f => f)
  clear O25 V725 V825 B725 B825 R1025 R1125 V1325 B1325 R1525 V1725 B1725 Ra25 Rb25 Rc25 B1925
  clear o26
  go_wp2_with fail
  refine (same_eq _ _ _ lR hs1 R1526.out (by have := HLF.out; omega)).mono ?_; rintro e w27 ⟨rfl, o27⟩
  have O27 := O26.trans o27
  have V727 := Lib.hid (V726.out.inner o27)
  have V827 := Lib.hid (V826.out.inner o27)
  have B727 := Only.has o27 B726 (fun f => f)
  have B827 := Only.has o27 B826 (fun f => f)
  have R1027 := Lib.hid (R1026.out.inner o27)
  have R1127 := Lib.hid (R1126.out.inner o27)
  have V1327 := Lib.hid (V1326.out.inner o27)
  have B1327 := Only.has o27 B1326 (fun f => f)
  have R1527 := Lib.hid (R1526.out.inner o27)
  have V1727 := Lib.hid (V1726.out.inner o27)
  have B1727 := Only.has o27 B1726 (fun f => f)
  have Ra27 := Lib.hid (Ra26.out.inner o27)
  have Rb27 := Lib.hid (Rb26.out.inner o27)
  have Rc27 := Lib.hid (Rc26.out.inner o27)
  have B1927 := Only.has o27 B1926 (fun f => f)
  clear O26 V726 V826 B726 B826 R1026 R1126 V1326 B1326 R1526 V1726 B1726 Ra26 Rb26 Rc26 B1926
  clear o27
  clear hs1
  obtain ⟨b17_0, b17_1, b17_2, b17_3, b17_4, b17_5, b17_f⟩ := Has.facts6 B1727
  obtain ⟨b19_0, b19_1, b19_2⟩ := part_facts B1927
  go_wp2_with fail
  clear b17_0 b17_1 b17_2 b17_3 b17_4 b17_5 b17_f b19_0 b19_1 b19_2
  refine (lsame_any _ _ _ lQ V1727.out ⟨_, _, _, rfl, Ra27.out, Rb27.out, Rc27.out⟩ (by have := HLF.out; omega) (by have := HLF.out; omega) (by have := HLF.out; omega)).mono ?_; rintro e w28 ⟨rfl, o28⟩
  have O28 := O27.trans o28
  have V728 := Lib.hid (V727.out.inner o28)
  have V828 := Lib.hid (V827.out.inner o28)
  have B728 := Only.has o28 B727 (fun f => f)
  have B828 := Only.has o28 B827 (fun f => f)
  have R1028 := Lib.hid (R1027.out.inner o28)
  have R1128 := Lib.hid (R1127.out.inner o28)
  have V1328 := Lib.hid (V1327.out.inner o28)
  have B1328 := Only.has o28 B1327 (fun f => f)
  have R1528 := Lib.hid (R1527.out.inner o28)
  have V1728 := Lib.hid (V1727.out.inner o28)
  have B1728 := Only.has o28 B1727 (fun f => f)
  have Ra28 := Lib.hid (Ra27.out.inner o28)
  have Rb28 := Lib.hid (Rb27.out.inner o28)
  have Rc28 := Lib.hid (Rc27.out.inner o28)
  have B1928 := Only.has o28 B1927 (fun f => f)
  clear O27 V727 V827 B727 B827 R1027 R1127 V1327 B1327 R1527 V1727 B1727 Ra27 Rb27 Rc27 B1927
  clear o28
  go_wp2_with fail
  refine (awake_any _).mono ?_; rintro e w9 ⟨rfl, o9⟩
  go_wp2_with fail
  go_ret
  exact ⟨rfl, O28.trans o9⟩
end Go.Proofs.Ythkgjhjfgoglhaa
