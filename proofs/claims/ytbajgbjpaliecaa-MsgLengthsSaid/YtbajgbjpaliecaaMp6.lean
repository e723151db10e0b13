/- msg.putShares; msg.put of shares, and of every kind; msg.Encode. -/
import Derived.Test.YtbajgbjpaliecaaMp1
import Derived.Test.YtbajgbjpaliecaaMp2
import Derived.Test.YtbajgbjpaliecaaMp3
set_option linter.unusedSimpArgs false
set_option linter.unusedVariables false
namespace Go.Proofs.Ytbajgbjpaliecaa
open Go.RowKit

theorem good6 {m : Mg} (hk : m.kind = 6) (hc : m.check = 0) : m.shares.length ≤ 24 ∧ ∀ s ∈ m.shares, m.c.fits s = true := by
  have h1 := good_class (by omega) hc
  rw [Mg.check6 hk] at hc
  unfold sharesC at hc
  rw [if_neg (by simpa using h1)] at hc
  split at hc
  · omega
  · split at hc
    · rename_i a b
      exact ⟨by omega, List.all_eq_true.1 b⟩
    · omega
theorem sizes_36 {c : Cl} (h : c.check = 0) : (0 ≤ c.sizes.1 ∧ c.sizes.1 ≤ 36) ∧ (0 ≤ c.sizes.2.1 ∧ c.sizes.2.1 ≤ 36) ∧ (0 ≤ c.sizes.2.2 ∧ c.sizes.2.2 ≤ 36) := by
  obtain ⟨kind, bits, m, k, n⟩ := c
  rcases Cl.good h with ⟨rfl, hm, hk2, hn, hb⟩ | ⟨rfl | rfl, rfl, rfl, rfl, hb⟩ | ⟨rfl, rfl, rfl, rfl, rfl⟩
  · simp only [Cl.sizes, h]
    simp
    exact ⟨prod6 hm hk2, prod6 hk2 hn, prod6 hm hn⟩
  all_goals
    simp only [Cl.sizes, h]
    simp
theorem fits_len {c : Cl} (h : c.check = 0) {s : Sh} (hf : c.fits s = true) : s.a.length ≤ 36 ∧ s.b.length ≤ 36 ∧ s.c.length ≤ 36 := by
  unfold Cl.fits at hf
  rw [if_pos h] at hf
  simp only [fitsB, Bool.and_eq_true, decide_eq_true_eq] at hf
  obtain ⟨⟨⟨a, _⟩, ⟨b, _⟩⟩, ⟨d, _⟩⟩ := hf
  have := sizes_36 h
  omega
theorem wB_len {width : Int} {l : List Int} (h0 : 0 ≤ width) (h1 : width ≤ 64) (hl : l.length ≤ 36) : (wB width l).length ≤ 292 := by
  unfold wB
  rw [List.length_append, beB_length, wordsB_length]
  have : l.length * ((width + 7) / 8).toNat ≤ 36 * 8 := Nat.mul_le_mul hl (by omega)
  omega
theorem shB_len {c : Cl} (h : c.check = 0) {s : Sh} (hf : c.fits s = true) : (shB c s).length ≤ 900 := by
  obtain ⟨a, b, d⟩ := fits_len h hf
  obtain ⟨w1, w2, w3⟩ := widths_range h
  unfold shB
  rw [List.length_append, List.length_append]
  have := wB_len (width := c.widths.1) (by omega) (by omega) a
  have := wB_len (width := c.widths.2.1) (by omega) (by omega) b
  have := wB_len (width := c.widths.2.2) (by omega) (by omega) d
  omega
theorem shs_len {c : Cl} (h : c.check = 0) : ∀ (l : List Sh), (∀ s ∈ l, c.fits s = true) → (l.flatMap (shB c)).length ≤ 900 * l.length
  | [], _ => by simp
  | s :: l, hf => by
    have h1 := shB_len h (hf s (by simp))
    have h2 := shs_len h l (fun x hx => hf x (by simp [hx]))
    simp only [List.flatMap_cons, List.length_append, List.length_cons]
    omega
theorem shs_snoc (c : Cl) (l : List Sh) (k : Nat) (h : k < l.length) : (l.take (k + 1)).flatMap (shB c) = (l.take k).flatMap (shB c) ++ shB c l[k] := by
  rw [List.take_succ_eq_append_getElem h, List.flatMap_append]
  simp
set_option maxRecDepth 100000 in
set_option maxHeartbeats 4000000 in
theorem putshares_any (w0 w : World) (p base : Nat) (v : Value) (bs : List Int) (m : Mg) (vw vs : Value) (hw : WAt w p base v bs) (h : MgAt w0 m vw vs) (o : Only (fun _ => False) w0 w) (hp0 : w0.heap.size ≤ p) (hb0 : w0.heap.size ≤ base) (hc : m.check = 0) (hl : bs.length ≤ 200) (hk : m.kind = 6) :
    Calls Try.prog 49 #[.pointer (some ⟨p, 0, none⟩), .agg (m.cells vw vs).toArray] w fun e w' => e = .returned (.tuple #[]) ∧ ∃ v', WAt w' p base v' (bs ++ (m.c.nums ++ beB m.shares.length 4 ++ m.shares.flatMap (shB m.c))) ∧ WStep p v.ownBlock w w' v'.ownBlock := by
  have hcc := good_class (by omega) hc
  have hn := nums_range hcc
  obtain ⟨h24, hfit⟩ := good6 hk hc
  have hwd := widths_range hcc
  have H0 := hw.alloc (.cells (m.cells vw vs).toArray 39)
  have B0 := Has.new w 39 (m.cells vw vs).toArray
  have S0 : WStep p v.ownBlock w (w.alloc (.cells (m.cells vw vs).toArray 39)) v.ownBlock := ⟨(Only.refl _ _).alloc _, .inl rfl⟩
  have hsz : (m.cells vw vs).toArray.size = 82 := by simpa using Mg.cells_length h.ok vw vs
  have HF := Lib.hid (fun W (h2 : Has W w.heap.size 39 (m.cells vw vs).toArray) => mf_of h2 h.ok)
  have HWD := Lib.hid (fun W => swidths_any W m.c)
  obtain ⟨As, cs, rfl, hA⟩ := h.shares
  have HA := Lib.hid hA
  have HHW := Lib.hid hw
  have HCC := Lib.hid hcc
  have HFIT := Lib.hid hfit
  have hnl : m.c.nums.length = 5 := rfl
  have HNL := Lib.hid hnl
  clear hA hcc hfit hnl h
  generalize (m.cells vw (.slice As m.shares.length cs)).toArray = css at *
  obtain ⟨-, -, -, -, f4, f5, f6, f7, f8, -, -, -, -, -, -, -, -, -⟩ := HF.out _ B0
  have w1 : IntKind.u32.wrap (m.shares.length : Int) = (m.shares.length : Int) := by rw [IntKind.wrap_u32]; omega
  go_enter Try.func49, Try.ntmps49
  go_wp2_with fail
  refine (sput_any _ p base _ _ m.c H0 hn (by omega)).mono ?_
  rintro e w1 ⟨rfl, v1, H1, S1⟩
  have B1 := H0.keeps S1 B0 (by decide) (by decide)
  clear f4 f5 f6 f7 f8
  obtain ⟨-, -, -, -, -, -, -, -, -, -, -, -, -, -, -, -, -, f81⟩ := HF.out _ B1
  go_wp2_with fail
  refine (u32_any _ p base _ _ (m.shares.length : Int) H1 (by omega) (by omega) (by rw [List.length_append, HNL.out]; omega)).mono ?_
  rintro e w2 ⟨rfl, v2, H2, S2⟩
  have B2 := H1.keeps S2 B1 (by decide) (by decide)
  clear f81
  obtain ⟨-, -, -, -, f4, f5, f6, f7, f8, -, -, -, -, -, -, -, -, -⟩ := HF.out _ B2
  go_wp2_with fail
  refine (HWD.out _).mono ?_
  rintro e w3 ⟨rfl, o3⟩
  have H3 := H2.only o3 (fun f => f) (fun _ _ f => f)
  have B3 := o3.has B2 (fun f => f)
  have S3 : WStep p v2.ownBlock w2 w3 v2.ownBlock := ⟨o3.mono (fun _ _ f => f.elim), .inl rfl⟩
  have SS := (S0.trans S1).trans (S2.trans S3)
  clear f4 f5 f6 f7 f8
  obtain ⟨-, -, -, -, -, -, -, -, -, -, -, -, -, -, -, -, -, f81⟩ := HF.out _ B3
  go_wp2_with fail
  go_loopw [29] (fun i W => ∃ (k : Nat) (u : Value), k ≤ m.shares.length ∧ i = .int .i64 k ∧ WAt W p base u (bs ++ m.c.nums ++ beB m.shares.length 4 ++ (m.shares.take k).flatMap (shB m.c)) ∧ WStep p v.ownBlock w W u.ownBlock) (fun i _ => m.shares.length - (intOf i).toNat)
  case atStart => exact ⟨0, v2, by omega, rfl, by simpa using H3, SS⟩
  case round =>
    clear H0 H1 H2 H3 B0 B1 B2 B3 S0 S1 S2 S3 SS f81 o3
    obtain ⟨k, u, hk, rfl, hW, hS⟩ := hrel
    have hlt' : k < m.shares.length ∨ k = m.shares.length := by omega
    rcases hlt' with hlt | rfl
    · obtain ⟨ad, va, vb, vc, rfl, x0, x1, x2, hsh⟩ := HA.out k hlt
      have HOO := Lib.hid (hS.inner HHW.out o hp0 hb0)
      have c0 := HOO.out.cell x0 (fun f => f)
      have c1 := row_cell (by decide) (HOO.out.cell x1 (fun f => f))
      have c2 := row_cell (by decide) (HOO.out.cell x2 (fun f => f))
      have hf := HFIT.out _ (List.getElem_mem hlt)
      have hlens := fits_len HCC.out hf
      have hbs : (bs ++ m.c.nums ++ beB m.shares.length 4 ++ (m.shares.take k).flatMap (shB m.c)).length ≤ 30000 := by
        have := shs_len HCC.out (m.shares.take k) (fun s hs => HFIT.out s (List.mem_of_mem_take hs))
        rw [List.length_take] at this
        simp only [List.length_append, beB_length, HNL.out]
        omega
      have HSN := Lib.hid (shs_snoc m.c m.shares k hlt)
      have hk1 : (k : Int) < (m.shares.length : Int) := by omega
      have HSH := Lib.hid hsh
      obtain ⟨A1, e1, ea, -⟩ := hsh.a
      obtain ⟨A2, e2, eb, -⟩ := hsh.b
      obtain ⟨A3, e3, ec, -⟩ := hsh.c
      subst ea eb ec
      clear x0 x1 x2 hsh hf
      generalize m.shares[k] = s at *
      obtain ⟨la, lb, lc⟩ := hlens
      go_upto_region 7 with fail
      have N1 := Has.new wr 51 #[.slice A1 s.a.length e1, .slice A2 s.b.length e2, .slice A3 s.c.length e3]
      have hW1 := hW.alloc (.cells #[.slice A1 s.a.length e1, .slice A2 s.b.length e2, .slice A3 s.c.length e3] 51)
      have S1 : WStep p v.ownBlock w (wr.alloc (.cells #[.slice A1 s.a.length e1, .slice A2 s.b.length e2, .slice A3 s.c.length e3] 51)) u.ownBlock := hS.trans ⟨(Only.refl _ _).alloc _, .inl rfl⟩
      obtain ⟨z0, z1, z2⟩ := sh3 N1
      obtain ⟨⟨p1, p2⟩, ⟨p3, p4⟩, ⟨p5, p6⟩⟩ := hwd
      go_wp2_with fail
      refine (pwords_any w0 _ p base _ _ _ s.a ((m.c.widths.1 + 7) / 8).toNat m.c.widths.1 hW1 HSH.out.a (S1.inner HHW.out o hp0 hb0) hp0 hb0 HSH.out.xa (by omega) (by omega) (by omega) (by omega) (by omega)).mono ?_
      rintro e w4 ⟨rfl, v4, H4, S4⟩
      have N4 := hW1.keeps S4 N1 (by decide) (by decide)
      have T4 := S1.trans S4
      have L4 := wB_len (width := m.c.widths.1) (by omega) (by omega) la
      clear z0 z1 z2 c0 c1 c2 hW hW1 hS N1
      obtain ⟨z0, z1, z2⟩ := sh3 N4
      go_wp2_with fail
      refine (pwords_any w0 _ p base _ _ _ s.b ((m.c.widths.2.1 + 7) / 8).toNat m.c.widths.2.1 H4 HSH.out.b (T4.inner HHW.out o hp0 hb0) hp0 hb0 HSH.out.xb (by omega) (by omega) (by omega) (by omega) (by rw [List.length_append]; unfold wB at L4; omega)).mono ?_
      rintro e w5 ⟨rfl, v5, H5, S5⟩
      have N5 := H4.keeps S5 N4 (by decide) (by decide)
      have T5 := T4.trans S5
      have L5 := wB_len (width := m.c.widths.2.1) (by omega) (by omega) lb
      clear z0 z1 z2
      obtain ⟨z0, z1, z2⟩ := sh3 N5
      go_wp2_with fail
      refine (pwords_any w0 _ p base _ _ _ s.c ((m.c.widths.2.2 + 7) / 8).toNat m.c.widths.2.2 H5 HSH.out.c (T5.inner HHW.out o hp0 hb0) hp0 hb0 HSH.out.xc (by omega) (by omega) (by omega) (by omega) (by rw [List.length_append, List.length_append]; unfold wB at L4 L5; omega)).mono ?_
      rintro e w6 ⟨rfl, v6, H6, S6⟩
      have T6 := T5.trans S6
      have HH6 := Lib.hid H6
      clear z0 z1 z2 H4 H5 H6 N4 N5 L4 L5
      go_wp2_with fail
      go_roundw
      case rel =>
        refine ⟨k + 1, v6, by omega, by go_num, ?_, T6⟩
        rw [HSN.out]
        have := HH6.out
        simpa only [shB, wB, List.append_assoc] using this
      case measure => simp only [intOf]; omega
    · go_wp2_with fail
      go_end0
      rw [List.take_length] at hW
      refine ⟨rfl, u, ?_, hS⟩
      simpa only [List.append_assoc] using hW
set_option maxRecDepth 100000 in
set_option maxHeartbeats 4000000 in
theorem mput6 (w0 w : World) (p base : Nat) (v : Value) (bs : List Int) (m : Mg) (vw vs : Value) (hw : WAt w p base v bs) (h : MgAt w0 m vw vs) (o : Only (fun _ => False) w0 w) (hp0 : w0.heap.size ≤ p) (hb0 : w0.heap.size ≤ base) (hc : m.check = 0) (hl : bs.length ≤ 100) (hk : m.kind = 6) :
    Calls Try.prog 30 #[.pointer (some ⟨p, 0, none⟩), .agg (m.cells vw vs).toArray] w fun e w' => e = .returned (.tuple #[]) ∧ ∃ v', WAt w' p base v' (bs ++ m.body) ∧ WStep p v.ownBlock w w' v'.ownBlock := by
  have H0 := hw.alloc (.cells (m.cells vw vs).toArray 39)
  have B0 := Has.new w 39 (m.cells vw vs).toArray
  have S0 : WStep p v.ownBlock w (w.alloc (.cells (m.cells vw vs).toArray 39)) v.ownBlock := ⟨(Only.refl _ _).alloc _, .inl rfl⟩
  have hsz : (m.cells vw vs).toArray.size = 82 := by simpa using Mg.cells_length h.ok vw vs
  have HF := Lib.hid (fun W (h2 : Has W w.heap.size 39 (m.cells vw vs).toArray) => mf_of h2 h.ok)
  have HP := Lib.hid (fun W v2 bs2 (a : WAt W p base v2 bs2) b c => putshares_any w0 W p base v2 bs2 m vw vs a h b hp0 hb0 hc c hk)
  have HBD := Lib.hid (body6 hk)
  have HK := Lib.hid hk
  generalize hcs : (m.cells vw vs).toArray = cs at *
  clear hcs
  obtain ⟨f0, f1, -, -, -, -, -, -, -, -, -, -, -, -, -, -, -, -⟩ := HF.out _ B0
  rw [HK.out] at f0
  go_enter Try.func30, Try.ntmps30
  go_wp2_with fail
  refine (u32_any _ p base _ _ m.batch H0 h.ok.batch.1 h.ok.batch.2 (by omega)).mono ?_
  rintro e w1 ⟨rfl, v1, H1, S1⟩
  have B1 := H0.keeps S1 B0 (by decide) (by decide)
  have T1 := S0.trans S1
  clear f0 f1
  go_wp2_with fail
  refine wp_load_msg rfl rfl B1 hsz ?_
  go_wp2_with fail
  refine (HP.out _ _ _ H1 (T1.inner hw o hp0 hb0) (by rw [List.length_append, beB_length]; omega)).mono ?_
  rintro e w2 ⟨rfl, v2, H2, S2⟩
  go_wp2_with fail
  go_end0
  refine ⟨rfl, v2, ?_, T1.trans S2⟩
  rw [HBD.out]
  simpa only [List.append_assoc] using H2
theorem mput_any (w0 w : World) (p base : Nat) (v : Value) (bs : List Int) (m : Mg) (vw vs : Value) (hw : WAt w p base v bs) (h : MgAt w0 m vw vs) (o : Only (fun _ => False) w0 w) (hp0 : w0.heap.size ≤ p) (hb0 : w0.heap.size ≤ base) (hc : m.check = 0) (hl : bs.length ≤ 100) :
    Calls Try.prog 30 #[.pointer (some ⟨p, 0, none⟩), .agg (m.cells vw vs).toArray] w fun e w' => e = .returned (.tuple #[]) ∧ ∃ v', WAt w' p base v' (bs ++ m.body) ∧ WStep p v.ownBlock w w' v'.ownBlock := by
  have hk : m.kind = 1 ∨ m.kind = 2 ∨ m.kind = 3 ∨ m.kind = 4 ∨ m.kind = 5 ∨ m.kind = 6 ∨ m.kind = 7 ∨ m.kind = 8 ∨ m.kind = 9 ∨ m.kind = 10 ∨ m.kind = 11 ∨ m.kind = 12 ∨ m.kind = 13 := by
    have := good_kind hc
    omega
  rcases hk with hk | hk | hk | hk | hk | hk | hk | hk | hk | hk | hk | hk | hk
  · exact mput1 w0 w p base v bs m vw vs hw h o hp0 hb0 hc hl hk
  · exact mput2 w0 w p base v bs m vw vs hw h o hp0 hb0 hc hl hk
  · exact mput3 w0 w p base v bs m vw vs hw h o hp0 hb0 hc hl hk
  · exact mput4 w0 w p base v bs m vw vs hw h o hp0 hb0 hc hl hk
  · exact mput5 w0 w p base v bs m vw vs hw h o hp0 hb0 hc hl hk
  · exact mput6 w0 w p base v bs m vw vs hw h o hp0 hb0 hc hl hk
  · exact mput7 w0 w p base v bs m vw vs hw h o hp0 hb0 hc hl hk
  · exact mput8 w0 w p base v bs m vw vs hw h o hp0 hb0 hc hl hk
  · exact mput9 w0 w p base v bs m vw vs hw h o hp0 hb0 hc hl hk
  · exact mput10 w0 w p base v bs m vw vs hw h o hp0 hb0 hc hl hk
  · exact mput11 w0 w p base v bs m vw vs hw h o hp0 hb0 hc hl hk
  · exact mput12 w0 w p base v bs m vw vs hw h o hp0 hb0 hc hl hk
  · exact mput13 w0 w p base v bs m vw vs hw h o hp0 hb0 hc hl hk
set_option maxRecDepth 100000 in
set_option maxHeartbeats 2000000 in
theorem encode_ok (w : World) (m : Mg) (vw vs : Value) (h : MgAt w m vw vs) (hs : m.Short) (hc : m.check = 0) : Calls Try.prog 14 #[.agg (m.cells vw vs).toArray] w fun e w' => e = .returned (.tuple #[.string (strOfNums (m.kind :: m.body)), .nilIface]) ∧ Only (fun _ => False) w w' := by
  have B0 := Has.new w 39 (m.cells vw vs).toArray
  have O0 := (Only.refl (fun _ => False) w).alloc (.cells (m.cells vw vs).toArray 39)
  have hsz : (m.cells vw vs).toArray.size = 82 := by simpa using Mg.cells_length h.ok vw vs
  have HF := Lib.hid (fun W (h2 : Has W w.heap.size 39 (m.cells vw vs).toArray) => mf_of h2 h.ok)
  have HC := Lib.hid (fun W (o : Only (fun _ => False) w W) => mcheck_any W m vw vs (h.only o) hs)
  rw [hc] at HC
  have hkd := good_kind hc
  have HP := Lib.hid (fun W p v2 bs2 (a : WAt W p w.heap.size v2 bs2) b c d => mput_any w W p w.heap.size v2 bs2 m vw vs a h b c (Nat.le_refl _) hc d)
  generalize hcs : (m.cells vw vs).toArray = cs at *
  clear hcs
  have hwk : IntKind.u8.wrap m.kind = m.kind := by rw [IntKind.wrap_u8]; omega
  go_enter Try.func14, Try.ntmps14
  go_wp2_with fail
  refine wp_load_msg rfl rfl B0 hsz ?_
  go_wp2_with fail
  refine (HC.out _ O0).mono ?_
  rintro e w1 ⟨rfl, o1⟩
  have B1 := (o1.has B0 (fun f => f)).alloc (.cells #[.slice none 0 0] 68)
  have O1 := (O0.trans o1).alloc (.cells #[.slice none 0 0] 68)
  have hp : w.heap.size ≤ w1.heap.size := (O0.trans o1).size
  have H1 : WAt (w1.alloc (.cells #[.slice none 0 0] 68)) w1.heap.size w.heap.size (.slice none 0 0) [] := ⟨Has.new _ _ _, World.ownsRow_nil _ _ _ _, by simp; omega⟩
  obtain ⟨f0, -, -, -, -, -, -, -, -, -, -, -, -, -, -, -, -, -⟩ := HF.out _ B1
  go_wp2_with fail
  refine (u8_any _ w1.heap.size w.heap.size _ _ m.kind H1 (by omega) (by omega) (by simp)).mono ?_
  rintro e w2 ⟨rfl, v2, H2, S2⟩
  have B2 := H1.keeps S2 B1 (by decide) (by decide)
  have hO2 := S2.inner H1 O1 hp (Nat.le_refl _)
  clear f0
  go_wp2_with fail
  refine wp_load_msg rfl rfl B2 hsz ?_
  go_wp2_with fail
  refine (HP.out _ _ _ _ H2 hO2 hp (by simp)).mono ?_
  rintro e w3 ⟨rfl, v3, H3, S3⟩
  have hO3 := (S2.trans S3).inner H1 O1 hp (Nat.le_refl _)
  go_wp2_with fail
  refine (bytes_any _ _ _ _ _ H3).mono ?_
  rintro e w4 ⟨rfl, rfl⟩
  go_wp2_with fail
  go_ret2
  exact ⟨rfl, hO3⟩
end Go.Proofs.Ytbajgbjpaliecaa
