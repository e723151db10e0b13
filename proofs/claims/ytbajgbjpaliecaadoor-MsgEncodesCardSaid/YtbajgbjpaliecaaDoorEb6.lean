/- The reference of layer 10: Encode, of shares, and of every kind. -/
import Derived.Test.YtbajgbjpaliecaaDoorEb1
import Derived.Test.YtbajgbjpaliecaaDoorEb2
import Derived.Test.YtbajgbjpaliecaaDoorEb3
import Derived.Test.YtbajgbjpaliecaaDoorMp6
set_option linter.unusedSimpArgs false
set_option linter.unusedVariables false
namespace Go.Proofs.YtbajgbjpaliecaaDoor
open Go.RowKit Go.Lib

set_option maxRecDepth 100000 in
set_option maxHeartbeats 8000000 in
theorem rencode6 (w : World) (m : Mg) (vw vs : Value) (h : MgAt w m vw vs) (hs : m.Short) (hc : m.check = 0) (hk : m.kind = 6) : Calls Tryd.prog 8 #[.agg (m.cells vw vs).toArray] w fun e w' => e = .returned (.tuple #[.string (strOfNums (m.kind :: m.body)), .int .i64 0]) ∧ Only (fun _ => False) w w' := by
  have hcc := good_class (by omega) hc
  have hn := nums_range hcc
  obtain ⟨h24, hfit⟩ := good6 hk hc
  have hwd := widths_range hcc
  have B0 := Has.new w 32 (m.cells vw vs).toArray
  have O0 := (Only.refl (fun _ => False) w).alloc (.cells (m.cells vw vs).toArray 32)
  have hsz : (m.cells vw vs).toArray.size = 82 := by simpa using Mg.cells_length h.ok vw vs
  have HF := Lib.hid (fun W (h2 : Has W w.heap.size 32 (m.cells vw vs).toArray) => mf_of h2 h.ok)
  have HRC := Lib.hid (fun W (o : Only (fun _ => False) w W) => rmcheck_any W m vw vs (h.only o) hs)
  rw [hc] at HRC
  have HU0 := Lib.hid (fun W => u8r_any W m.kind)
  rw [hk] at HU0
  have HWD := Lib.hid (fun W => rwidths_any W m.c)
  have HFIN := Lib.hid (show strOfNums (m.kind :: m.body) = strOfNums [6] ++ strOfNums (beB m.batch 4) ++ strOfNums m.c.nums ++ strOfNums (beB m.shares.length 4) ++ strOfNums (m.shares.flatMap (shB m.c)) by rw [hk, body6 hk, show ∀ l : List Int, (6 : Int) :: l = [6] ++ l from fun _ => rfl]; simp only [nums_app, ByteArray.append_assoc])
  rw [HFIN.out]
  have z0 : (strOfNums [6]).size ≤ 1 := by rw [nums_size]; exact Nat.le_refl _
  have z1 : (strOfNums (beB m.batch 4)).size ≤ 4 := by rw [nums_size, beB_length]; exact Nat.le_refl _
  have z2 : (strOfNums m.c.nums).size ≤ 5 := by rw [nums_size]; exact Nat.le_refl _
  have z3 : (strOfNums (beB m.shares.length 4)).size ≤ 4 := by rw [nums_size, beB_length]; exact Nat.le_refl _
  have HP1 := Lib.hid (fun W => u32r_any W m.batch h.ok.batch.1 h.ok.batch.2)
  have HP2 := Lib.hid (fun W => rput_any W m.c hn)
  have HP3 := Lib.hid (fun W => u32r_any W (m.shares.length : Int) (by omega) (by omega))
  obtain ⟨As, cs, rfl, hA⟩ := h.shares
  have HA := Lib.hid hA
  have HK := Lib.hid hk
  have HCC := Lib.hid hcc
  have HFIT := Lib.hid hfit
  have hul : IntKind.u32.wrap (m.shares.length : Int) = (m.shares.length : Int) := by rw [IntKind.wrap_u32]; omega
  clear hs hc HFIN hA hcc hfit
  generalize strOfNums [6] = a0 at *
  generalize strOfNums (beB m.batch 4) = a1 at *
  generalize strOfNums m.c.nums = a2 at *
  generalize strOfNums (beB m.shares.length 4) = a3 at *
  have hadd0 := fun W => run_string_add_sum (P := Tryd.prog) (w := W) (a0) (a1) (by omega)
  have hadd1 := fun W => run_string_add_sum (P := Tryd.prog) (w := W) (a0 ++ a1) (a2) (by simp only [ByteArray.size_append]; omega)
  have hadd2 := fun W => run_string_add_sum (P := Tryd.prog) (w := W) (a0 ++ a1 ++ a2) (a3) (by simp only [ByteArray.size_append]; omega)
  generalize (m.cells vw (.slice As m.shares.length cs)).toArray = css at *
  go_enter Tryd.func8, Tryd.ntmps8
  go_wp2_with fail
  refine wp_load_box rfl rfl B0 Tryd.underlying32 (by rw [rmsg_info, hsz]) ?_
  go_wp2_with fail
  refine (HRC.out _ O0).mono ?_; rintro e w1 ⟨rfl, o1⟩
  have B1 := o1.has B0 (fun f => f)
  obtain ⟨f0, -, -, -, -, -, -, -, -, -, -, -, -, -, -, -, -, -⟩ := HF.out _ B1
  rw [HK.out] at f0
  go_wp2_with fail
  refine (HU0.out _).mono ?_; rintro e w2 ⟨rfl, o2⟩
  have B2 := o2.has B1 (fun f => f)
  have O2 := (O0.trans o1).trans o2
  clear f0
  obtain ⟨g0, g1, -, -, g4, g5, g6, g7, g8, -, -, -, -, -, -, -, -, g81⟩ := HF.out _ B2
  rw [HK.out] at g0
  go_wp2_with fail
  have X0 : Only (fun _ => False) w2 w2.drew := (Only.refl _ _).drew
  go_region_held3 (fun W => W.cell? ⟨w.heap.size, 1, none⟩ = some (.int .u32 m.batch) ∧ W.cell? ⟨w.heap.size, 4, none⟩ = some (.int .i64 m.c.kind) ∧ W.cell? ⟨w.heap.size, 5, none⟩ = some (.int .i64 m.c.bits) ∧ W.cell? ⟨w.heap.size, 6, none⟩ = some (.int .i64 m.c.m) ∧ W.cell? ⟨w.heap.size, 7, none⟩ = some (.int .i64 m.c.k) ∧ W.cell? ⟨w.heap.size, 8, none⟩ = some (.int .i64 m.c.n) ∧ W.cell? ⟨w.heap.size, 81, none⟩ = some (.slice As m.shares.length cs) ∧ Only (fun _ => False) w2 W)
    (first | exact ⟨Only.cell X3 g1 (fun f => f), Only.cell X3 g4 (fun f => f), Only.cell X3 g5 (fun f => f), Only.cell X3 g6 (fun f => f), Only.cell X3 g7 (fun f => f), Only.cell X3 g8 (fun f => f), Only.cell X3 g81 (fun f => f), X3⟩ | exact ⟨Only.cell X2 g1 (fun f => f), Only.cell X2 g4 (fun f => f), Only.cell X2 g5 (fun f => f), Only.cell X2 g6 (fun f => f), Only.cell X2 g7 (fun f => f), Only.cell X2 g8 (fun f => f), Only.cell X2 g81 (fun f => f), X2⟩ | exact ⟨Only.cell X1 g1 (fun f => f), Only.cell X1 g4 (fun f => f), Only.cell X1 g5 (fun f => f), Only.cell X1 g6 (fun f => f), Only.cell X1 g7 (fun f => f), Only.cell X1 g8 (fun f => f), Only.cell X1 g81 (fun f => f), X1⟩ | exact ⟨Only.cell X0 g1 (fun f => f), Only.cell X0 g4 (fun f => f), Only.cell X0 g5 (fun f => f), Only.cell X0 g6 (fun f => f), Only.cell X0 g7 (fun f => f), Only.cell X0 g8 (fun f => f), Only.cell X0 g81 (fun f => f), X0⟩)
    (first
    | (go_at_call_of 19 (Value.int IntKind.u32 m.batch); refine (HP1.out _).mono ?_; rintro e wx1 ⟨rfl, ox1⟩; have X1 := X0.trans ox1)
    | (go_at_call 20; refine (HP2.out _).mono ?_; rintro e wx2 ⟨rfl, ox2⟩; have X2 := X1.trans ox2)
    | (go_at_call 19; refine (HP3.out _).mono ?_; rintro e wx3 ⟨rfl, ox3⟩; have X3 := X2.trans ox3))
  rename_i hS
  have XX := hS.2.2.2.2.2.2.2
  have O3 := O2.trans XX
  have B3 := XX.has B2 (fun f => f)
  clear hS g0 g1 g4 g5 g6 g7 g8 g81 hadd0 hadd1 hadd2
  obtain ⟨g0, -, -, -, g4, g5, g6, g7, g8, -, -, -, -, -, -, -, -, g81⟩ := HF.out _ B3
  go_wp2_with fail
  refine (HWD.out _).mono ?_; rintro e w4 ⟨gw, rfl, hgw, o4⟩
  have HG4 := Lib.hid hgw
  have B4 := o4.has B3 (fun f => f)
  have O4 := O3.trans o4
  have HO4 := Lib.hid O4
  have HB4 := Lib.hid B4
  clear hgw g0 g4 g5 g6 g7 g8 g81 O3 B3 B2 B1 O2 O0 B0 XX o1 o2
  go_wp2_with fail
  obtain ⟨P, hP⟩ : ∃ P : ByteArray, P = a0 ++ a1 ++ a2 ++ a3 := ⟨_, rfl⟩
  rw [← hP]
  have HPP := Lib.hid hP
  have zP : P.size ≤ 14 := by rw [hP]; simp only [ByteArray.size_append]; omega
  clear hP z0 z1 z2 z3
  go_loopw [4, 6] (fun s i W => ∃ (k : Nat) (z : ByteArray), k ≤ m.shares.length ∧ i = .int .i64 k ∧ s = .string z ∧ z = P ++ strOfNums ((m.shares.take k).flatMap (shB m.c)) ∧ Only (fun _ => False) w4 W) (fun _ i _ => m.shares.length - (intOf i).toNat)
  case atStart => exact ⟨0, _, by omega, rfl, rfl, by rw [show strOfNums ((m.shares.take 0).flatMap (shB m.c)) = ⟨#[]⟩ by simp; rfl]; exact (ByteArray.append_empty).symm, Only.refl _ _⟩
  case round =>
    obtain ⟨k, z, hk, rfl, rfl, hz, ho⟩ := hrel
    have HZ := Lib.hid hz
    have HO := Lib.hid ho
    have g81 := (HF.out _ (ho.has HB4.out (fun f => f))).c81
    obtain ⟨q0, q1, q2⟩ := sh3 (ho.has HG4.out (fun f => f))
    clear hz ho
    have hlt' : k < m.shares.length ∨ k = m.shares.length := by omega
    rcases hlt' with hlt | rfl
    · obtain ⟨ad, va, vb, vc, rfl, x0, x1, x2, hsh⟩ := HA.out k hlt
      have oo := HO4.out.trans HO.out
      have c0 := oo.cell x0 (fun f => f)
      have c1 := row_cell (by decide) (oo.cell x1 (fun f => f))
      have c2 := row_cell (by decide) (oo.cell x2 (fun f => f))
      have hf := HFIT.out _ (List.getElem_mem hlt)
      have hlens := fits_len HCC.out hf
      have hzs : z.size ≤ 30000 := by
        have := shs_len HCC.out (m.shares.take k) (fun s hs => HFIT.out s (List.mem_of_mem_take hs))
        rw [List.length_take] at this
        rw [HZ.out, ByteArray.size_append, nums_size]
        omega
      have HSN := Lib.hid (shs_snoc m.c m.shares k hlt)
      have hk0 : (0 : Int) ≤ (k : Int) := by omega
      have hk1 : (k : Int) < (m.shares.length : Int) := by omega
      have HSH := Lib.hid hsh
      obtain ⟨A1, e1, ea, -⟩ := hsh.a
      obtain ⟨A2, e2, eb, -⟩ := hsh.b
      obtain ⟨A3, e3, ec, -⟩ := hsh.c
      subst ea eb ec
      clear x0 x1 x2 hsh hf
      generalize m.shares[k] = s at *
      obtain ⟨la, lb, lc⟩ := hlens
      obtain ⟨⟨p1, p2⟩, ⟨p3, p4⟩, ⟨p5, p6⟩⟩ := hwd
      have HW1 := Lib.hid (fun W (o : Only (fun _ => False) wr W) => rwords_any W m.c.widths.1 _ s.a (HSH.out.a.only (oo.trans o)) HSH.out.xa p1 p2 (by omega))
      have HW2 := Lib.hid (fun W (o : Only (fun _ => False) wr W) => rwords_any W m.c.widths.2.1 _ s.b (HSH.out.b.only (oo.trans o)) HSH.out.xb p3 p4 (by omega))
      have HW3 := Lib.hid (fun W (o : Only (fun _ => False) wr W) => rwords_any W m.c.widths.2.2 _ s.c (HSH.out.c.only (oo.trans o)) HSH.out.xc p5 p6 (by omega))
      have y1 : (strOfNums (wB m.c.widths.1 s.a)).size ≤ 292 := by rw [nums_size]; exact wB_len (by omega) p2 la
      have y2 : (strOfNums (wB m.c.widths.2.1 s.b)).size ≤ 292 := by rw [nums_size]; exact wB_len (by omega) p4 lb
      have y3 : (strOfNums (wB m.c.widths.2.2 s.c)).size ≤ 292 := by rw [nums_size]; exact wB_len (by omega) p6 lc
      have HSB := Lib.hid (show strOfNums (shB m.c s) = strOfNums (wB m.c.widths.1 s.a) ++ strOfNums (wB m.c.widths.2.1 s.b) ++ strOfNums (wB m.c.widths.2.2 s.c) by unfold shB; rw [nums_app, nums_app])
      have HOO := Lib.hid oo
      clear oo p1 p2 p3 p4 p5 p6 la lb lc
      generalize strOfNums (wB m.c.widths.1 s.a) = b1 at *
      generalize strOfNums (wB m.c.widths.2.1 s.b) = b2 at *
      generalize strOfNums (wB m.c.widths.2.2 s.c) = b3 at *
      generalize s.a.length = n1 at *
      generalize s.b.length = n2 at *
      generalize s.c.length = n3 at *
      generalize m.c.widths.1 = d1 at *
      generalize m.c.widths.2.1 = d2 at *
      generalize m.c.widths.2.2 = d3 at *
      have hadd0 := fun W => run_string_add_sum (P := Tryd.prog) (w := W) (z) (b1) (by omega)
      have hadd1 := fun W => run_string_add_sum (P := Tryd.prog) (w := W) (z ++ b1) (b2) (by simp only [ByteArray.size_append]; omega)
      have hadd2 := fun W => run_string_add_sum (P := Tryd.prog) (w := W) (z ++ b1 ++ b2) (b3) (by simp only [ByteArray.size_append]; omega)
      go_wp2_with fail
      have X0 : Only (fun _ => False) wr wr.drew := (Only.refl _ _).drew
      go_region_held3 (fun W => (W.cell? ⟨gw, 0, none⟩ = some (.int .i64 d1) ∧ W.cell? ⟨gw, 1, none⟩ = some (.int .i64 d2) ∧ W.cell? ⟨gw, 2, none⟩ = some (.int .i64 d3)) ∧ W.cell? ⟨w.heap.size, 81, none⟩ = some (.slice (some ad) m.shares.length cs) ∧ (W.cell? (ad.add (k * 3)) = some (.slice A1 n1 e1) ∧ W.cell? ⟨(ad.add (k * 3)).block, (ad.add (k * 3)).off + 1, none⟩ = some (.slice A2 n2 e2) ∧ W.cell? ⟨(ad.add (k * 3)).block, (ad.add (k * 3)).off + 2, none⟩ = some (.slice A3 n3 e3)) ∧ Only (fun _ => False) wr W)
        (first | exact ⟨⟨Only.cell X3 q0 (fun f => f), Only.cell X3 q1 (fun f => f), Only.cell X3 q2 (fun f => f)⟩, Only.cell X3 g81 (fun f => f), ⟨Only.cell X3 c0 (fun f => f), Only.cell X3 c1 (fun f => f), Only.cell X3 c2 (fun f => f)⟩, X3⟩ | exact ⟨⟨Only.cell X2 q0 (fun f => f), Only.cell X2 q1 (fun f => f), Only.cell X2 q2 (fun f => f)⟩, Only.cell X2 g81 (fun f => f), ⟨Only.cell X2 c0 (fun f => f), Only.cell X2 c1 (fun f => f), Only.cell X2 c2 (fun f => f)⟩, X2⟩ | exact ⟨⟨Only.cell X1 q0 (fun f => f), Only.cell X1 q1 (fun f => f), Only.cell X1 q2 (fun f => f)⟩, Only.cell X1 g81 (fun f => f), ⟨Only.cell X1 c0 (fun f => f), Only.cell X1 c1 (fun f => f), Only.cell X1 c2 (fun f => f)⟩, X1⟩ | exact ⟨⟨Only.cell X0 q0 (fun f => f), Only.cell X0 q1 (fun f => f), Only.cell X0 q2 (fun f => f)⟩, Only.cell X0 g81 (fun f => f), ⟨Only.cell X0 c0 (fun f => f), Only.cell X0 c1 (fun f => f), Only.cell X0 c2 (fun f => f)⟩, X0⟩)
        (first
        | (go_at_call_of 22 (Value.slice A1 n1 e1); refine (HW1.out _ X0).mono ?_; rintro e wx1 ⟨rfl, ox1⟩; have X1 := X0.trans ox1)
        | (go_at_call_of 22 (Value.slice A2 n2 e2); refine (HW2.out _ X1).mono ?_; rintro e wx2 ⟨rfl, ox2⟩; have X2 := X1.trans ox2)
        | (go_at_call_of 22 (Value.slice A3 n3 e3); refine (HW3.out _ X2).mono ?_; rintro e wx3 ⟨rfl, ox3⟩; have X3 := X2.trans ox3))
      rename_i hS
      have HX := Lib.hid (HO.out.trans hS.2.2.2)
      clear hS hadd0 hadd1 hadd2
      go_wp2_with fail
      go_roundw
      case rel =>
        refine ⟨k + 1, _, by omega, by go_num, rfl, ?_, HX.out⟩
        rw [HSN.out, nums_app, HSB.out, HZ.out]
        simp only [ByteArray.append_assoc]
      case measure => simp only [intOf]; omega
    · go_wp2_with fail
      go_ret2
      refine ⟨?_, HO4.out.trans HO.out⟩
      rw [HZ.out, List.take_length, HPP.out]
      rfl
theorem rencode_any (w : World) (m : Mg) (vw vs : Value) (h : MgAt w m vw vs) (hs : m.Short) (hc : m.check = 0) : Calls Tryd.prog 8 #[.agg (m.cells vw vs).toArray] w fun e w' => e = .returned (.tuple #[.string (strOfNums (m.kind :: m.body)), .int .i64 0]) ∧ Only (fun _ => False) w w' := by
  have hk : m.kind = 1 ∨ m.kind = 2 ∨ m.kind = 3 ∨ m.kind = 4 ∨ m.kind = 5 ∨ m.kind = 6 ∨ m.kind = 7 ∨ m.kind = 8 ∨ m.kind = 9 ∨ m.kind = 10 ∨ m.kind = 11 ∨ m.kind = 12 ∨ m.kind = 13 := by
    have := good_kind hc
    omega
  rcases hk with hk | hk | hk | hk | hk | hk | hk | hk | hk | hk | hk | hk | hk
  · exact rencode1 w m vw vs h hs hc hk
  · exact rencode2 w m vw vs h hs hc hk
  · exact rencode3 w m vw vs h hs hc hk
  · exact rencode4 w m vw vs h hs hc hk
  · exact rencode5 w m vw vs h hs hc hk
  · exact rencode6 w m vw vs h hs hc hk
  · exact rencode7 w m vw vs h hs hc hk
  · exact rencode8 w m vw vs h hs hc hk
  · exact rencode9 w m vw vs h hs hc hk
  · exact rencode10 w m vw vs h hs hc hk
  · exact rencode11 w m vw vs h hs hc hk
  · exact rencode12 w m vw vs h hs hc hk
  · exact rencode13 w m vw vs h hs hc hk
set_option maxRecDepth 100000 in
set_option maxHeartbeats 2000000 in
theorem rencode_bad10 (w : World) (m : Mg) (vw vs : Value) (h : MgAt w m vw vs) (hs : m.Short) (hc : m.check ≠ 0) : Calls Tryd.prog 8 #[.agg (m.cells vw vs).toArray] w fun e w' => e = .returned (.tuple #[.string ⟨#[]⟩, .int .i64 m.check]) ∧ Only (fun _ => False) w w' := by
  have B0 := Has.new w 32 (m.cells vw vs).toArray
  have O0 := (Only.refl (fun _ => False) w).alloc (.cells (m.cells vw vs).toArray 32)
  have hsz : (m.cells vw vs).toArray.size = 82 := by simpa using Mg.cells_length h.ok vw vs
  have HRC := Lib.hid (fun W (o : Only (fun _ => False) w W) => rmcheck_any W m vw vs (h.only o) hs)
  have h1 : (m.check != 0) = true := by simpa using hc
  generalize (m.cells vw vs).toArray = cs at *
  generalize m.check = x at *
  clear h hs hc
  go_enter Tryd.func8, Tryd.ntmps8
  go_wp2_with fail
  refine wp_load_box rfl rfl B0 Tryd.underlying32 (by rw [rmsg_info, hsz]) ?_
  go_wp2_with fail
  refine (HRC.out _ O0).mono ?_; rintro e w1 ⟨rfl, o1⟩
  have B1 := o1.has B0 (fun f => f)
  go_wp2_with fail
  refine wp_load_box rfl rfl B1 Tryd.underlying32 (by rw [rmsg_info, hsz]) ?_
  go_wp2_with fail
  refine (HRC.out _ (O0.trans o1)).mono ?_; rintro e w2 ⟨rfl, o2⟩
  go_wp2_with fail
  go_ret2
  exact ⟨rfl, (O0.trans o1).trans o2⟩
end Go.Proofs.YtbajgbjpaliecaaDoor
