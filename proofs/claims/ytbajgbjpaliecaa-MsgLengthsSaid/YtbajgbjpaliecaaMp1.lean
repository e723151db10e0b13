/- msg.put, kind by kind. -/
import Derived.Test.YtbajgbjpaliecaaMp
set_option linter.unusedSimpArgs false
set_option linter.unusedVariables false
namespace Go.Proofs.Ytbajgbjpaliecaa
open Go.RowKit

set_option maxRecDepth 100000 in
set_option maxHeartbeats 4000000 in
theorem mput1 (w0 w : World) (p base : Nat) (v : Value) (bs : List Int) (m : Mg) (vw vs : Value) (hw : WAt w p base v bs) (h : MgAt w0 m vw vs) (o : Only (fun _ => False) w0 w) (hp0 : w0.heap.size ≤ p) (hb0 : w0.heap.size ≤ base) (hc : m.check = 0) (hl : bs.length ≤ 100) (hk : m.kind = 1) : Calls Try.prog 30 #[.pointer (some ⟨p, 0, none⟩), .agg (m.cells vw vs).toArray] w fun e w' => e = .returned (.tuple #[]) ∧ ∃ v', WAt w' p base v' (bs ++ m.body) ∧ WStep p v.ownBlock w w' v'.ownBlock := by
  have hn := nums_range (good_class (by omega) hc)
  have H0 := hw.alloc (.cells (m.cells vw vs).toArray 39)
  have B0 := Has.new w 39 (m.cells vw vs).toArray
  have S0 : WStep p v.ownBlock w (w.alloc (.cells (m.cells vw vs).toArray 39)) v.ownBlock := ⟨(Only.refl _ _).alloc _, .inl rfl⟩
  have hsz : (m.cells vw vs).toArray.size = 82 := by simpa using Mg.cells_length h.ok vw vs
  have HF := Lib.hid (fun W (h2 : Has W w.heap.size 39 (m.cells vw vs).toArray) => mf_of h2 h.ok)
  have HBD := Lib.hid (show m.body = beB m.batch 4 ++ m.c.nums ++ beB m.count 4 ++ beB m.opened 4 from body1 hk)
  have HK := Lib.hid hk
  generalize hcs : (m.cells vw vs).toArray = cs at *
  clear hcs
  obtain ⟨f0, f1, -, -, -, -, -, -, -, -, -, -, -, -, -, -, -, -⟩ := HF.out _ B0
  rw [HK.out] at f0
  go_enter Try.func30, Try.ntmps30
  go_wp2_with fail
  refine (u32_any _ p base _ _ m.batch H0 h.ok.batch.1 h.ok.batch.2 (by first | omega | (simp only [List.length_append, beB_length, List.length_cons, List.length_nil, nums_length]; omega))).mono ?_
  rintro e w1 ⟨rfl, v1, H1, S1⟩
  have B1 := H0.keeps S1 B0 (by decide) (by decide)
  clear f0 f1
  obtain ⟨-, -, -, -, f4, f5, f6, f7, f8, -, -, -, -, -, -, -, -, -⟩ := HF.out _ B1
  go_wp2_with fail
  refine (sput_any _ p base _ _ m.c H1 hn (by first | omega | (simp only [List.length_append, beB_length, List.length_cons, List.length_nil, nums_length]; omega))).mono ?_
  rintro e w2 ⟨rfl, v2, H2, S2⟩
  have B2 := H1.keeps S2 B1 (by decide) (by decide)
  clear f4 f5 f6 f7 f8
  obtain ⟨-, -, -, -, -, -, -, -, -, f9, -, -, -, -, -, -, -, -⟩ := HF.out _ B2
  go_wp2_with fail
  refine (u32_any _ p base _ _ m.count H2 h.ok.count.1 h.ok.count.2 (by first | omega | (simp only [List.length_append, beB_length, List.length_cons, List.length_nil, nums_length]; omega))).mono ?_
  rintro e w3 ⟨rfl, v3, H3, S3⟩
  have B3 := H2.keeps S3 B2 (by decide) (by decide)
  clear f9
  obtain ⟨-, -, -, -, -, -, -, -, -, -, f10, -, -, -, -, -, -, -⟩ := HF.out _ B3
  go_wp2_with fail
  refine (u32_any _ p base _ _ m.opened H3 h.ok.opened.1 h.ok.opened.2 (by first | omega | (simp only [List.length_append, beB_length, List.length_cons, List.length_nil, nums_length]; omega))).mono ?_
  rintro e w4 ⟨rfl, v4, H4, S4⟩
  have B4 := H3.keeps S4 B3 (by decide) (by decide)
  go_wp2_with fail
  go_end0
  refine ⟨rfl, v4, ?_, ((((S0.trans S1).trans S2).trans S3).trans S4)⟩
  rw [HBD.out]
  try simp only [← List.append_assoc]
  exact H4
set_option maxRecDepth 100000 in
set_option maxHeartbeats 4000000 in
theorem mput2 (w0 w : World) (p base : Nat) (v : Value) (bs : List Int) (m : Mg) (vw vs : Value) (hw : WAt w p base v bs) (h : MgAt w0 m vw vs) (o : Only (fun _ => False) w0 w) (hp0 : w0.heap.size ≤ p) (hb0 : w0.heap.size ≤ base) (hc : m.check = 0) (hl : bs.length ≤ 100) (hk : m.kind = 2) : Calls Try.prog 30 #[.pointer (some ⟨p, 0, none⟩), .agg (m.cells vw vs).toArray] w fun e w' => e = .returned (.tuple #[]) ∧ ∃ v', WAt w' p base v' (bs ++ m.body) ∧ WStep p v.ownBlock w w' v'.ownBlock := by
  obtain ⟨q1, q2, q3⟩ := good2 hk hc
  have H0 := hw.alloc (.cells (m.cells vw vs).toArray 39)
  have B0 := Has.new w 39 (m.cells vw vs).toArray
  have S0 : WStep p v.ownBlock w (w.alloc (.cells (m.cells vw vs).toArray 39)) v.ownBlock := ⟨(Only.refl _ _).alloc _, .inl rfl⟩
  have hsz : (m.cells vw vs).toArray.size = 82 := by simpa using Mg.cells_length h.ok vw vs
  have HF := Lib.hid (fun W (h2 : Has W w.heap.size 39 (m.cells vw vs).toArray) => mf_of h2 h.ok)
  have HBD := Lib.hid (show m.body = beB m.batch 4 ++ beB m.chunk 4 ++ beB m.from_ 8 ++ beB m.count 4 ++ ofStr m.data from body2 hk)
  have HK := Lib.hid hk
  generalize hcs : (m.cells vw vs).toArray = cs at *
  clear hcs
  obtain ⟨f0, f1, -, -, -, -, -, -, -, -, -, -, -, -, -, -, -, -⟩ := HF.out _ B0
  rw [HK.out] at f0
  go_enter Try.func30, Try.ntmps30
  go_wp2_with fail
  refine (u32_any _ p base _ _ m.batch H0 h.ok.batch.1 h.ok.batch.2 (by first | omega | (simp only [List.length_append, beB_length, List.length_cons, List.length_nil, nums_length]; omega))).mono ?_
  rintro e w1 ⟨rfl, v1, H1, S1⟩
  have B1 := H0.keeps S1 B0 (by decide) (by decide)
  clear f0 f1
  obtain ⟨-, -, f2, -, -, -, -, -, -, -, -, -, -, -, -, -, -, -⟩ := HF.out _ B1
  go_wp2_with fail
  refine (u32_any _ p base _ _ m.chunk H1 h.ok.chunk.1 h.ok.chunk.2 (by first | omega | (simp only [List.length_append, beB_length, List.length_cons, List.length_nil, nums_length]; omega))).mono ?_
  rintro e w2 ⟨rfl, v2, H2, S2⟩
  have B2 := H1.keeps S2 B1 (by decide) (by decide)
  clear f2
  obtain ⟨-, -, -, f3, -, -, -, -, -, -, -, -, -, -, -, -, -, -⟩ := HF.out _ B2
  go_wp2_with fail
  refine (u64_any _ p base _ _ m.from_ H2 h.ok.from_.1 h.ok.from_.2 (by first | omega | (simp only [List.length_append, beB_length, List.length_cons, List.length_nil, nums_length]; omega))).mono ?_
  rintro e w3 ⟨rfl, v3, H3, S3⟩
  have B3 := H2.keeps S3 B2 (by decide) (by decide)
  clear f3
  obtain ⟨-, -, -, -, -, -, -, -, -, f9, -, -, -, -, -, -, -, -⟩ := HF.out _ B3
  go_wp2_with fail
  refine (u32_any _ p base _ _ m.count H3 h.ok.count.1 h.ok.count.2 (by first | omega | (simp only [List.length_append, beB_length, List.length_cons, List.length_nil, nums_length]; omega))).mono ?_
  rintro e w4 ⟨rfl, v4, H4, S4⟩
  have B4 := H3.keeps S4 B3 (by decide) (by decide)
  clear f9
  obtain ⟨-, -, -, -, -, -, -, -, -, -, -, -, -, -, f14, -, -, -⟩ := HF.out _ B4
  go_wp2_with fail
  refine (raw_any _ p base _ _ m.data H4 (by omega) (by first | omega | (simp only [List.length_append, beB_length, List.length_cons, List.length_nil, nums_length]; omega))).mono ?_
  rintro e w5 ⟨rfl, v5, H5, S5⟩
  have B5 := H4.keeps S5 B4 (by decide) (by decide)
  go_wp2_with fail
  go_end0
  refine ⟨rfl, v5, ?_, (((((S0.trans S1).trans S2).trans S3).trans S4).trans S5)⟩
  rw [HBD.out]
  try simp only [← List.append_assoc]
  exact H5
set_option maxRecDepth 100000 in
set_option maxHeartbeats 4000000 in
theorem mput3 (w0 w : World) (p base : Nat) (v : Value) (bs : List Int) (m : Mg) (vw vs : Value) (hw : WAt w p base v bs) (h : MgAt w0 m vw vs) (o : Only (fun _ => False) w0 w) (hp0 : w0.heap.size ≤ p) (hb0 : w0.heap.size ≤ base) (hc : m.check = 0) (hl : bs.length ≤ 100) (hk : m.kind = 3) : Calls Try.prog 30 #[.pointer (some ⟨p, 0, none⟩), .agg (m.cells vw vs).toArray] w fun e w' => e = .returned (.tuple #[]) ∧ ∃ v', WAt w' p base v' (bs ++ m.body) ∧ WStep p v.ownBlock w w' v'.ownBlock := by
  obtain ⟨q1, q2, q3⟩ := good3 hk hc
  have HSI := Lib.hid (show (m.width + 7) / 8 = (((m.width + 7) / 8).toNat : Int) by omega)
  have H0 := hw.alloc (.cells (m.cells vw vs).toArray 39)
  have B0 := Has.new w 39 (m.cells vw vs).toArray
  have S0 : WStep p v.ownBlock w (w.alloc (.cells (m.cells vw vs).toArray 39)) v.ownBlock := ⟨(Only.refl _ _).alloc _, .inl rfl⟩
  have hsz : (m.cells vw vs).toArray.size = 82 := by simpa using Mg.cells_length h.ok vw vs
  have HF := Lib.hid (fun W (h2 : Has W w.heap.size 39 (m.cells vw vs).toArray) => mf_of h2 h.ok)
  obtain ⟨Aw, cw, rfl, -⟩ := h.words
  have HBD := Lib.hid (show m.body = beB m.batch 4 ++ beB m.chunk 4 ++ [m.width] ++ (beB m.words.length 4 ++ wordsB m.words ((m.width + 7) / 8).toNat) from body3 hk)
  have HK := Lib.hid hk
  generalize hcs : (m.cells (.slice Aw m.words.length cw) vs).toArray = cs at *
  clear hcs
  obtain ⟨f0, f1, -, -, -, -, -, -, -, -, -, -, -, -, -, -, -, -⟩ := HF.out _ B0
  rw [HK.out] at f0
  go_enter Try.func30, Try.ntmps30
  go_wp2_with fail
  refine (u32_any _ p base _ _ m.batch H0 h.ok.batch.1 h.ok.batch.2 (by first | omega | (simp only [List.length_append, beB_length, List.length_cons, List.length_nil, nums_length]; omega))).mono ?_
  rintro e w1 ⟨rfl, v1, H1, S1⟩
  have B1 := H0.keeps S1 B0 (by decide) (by decide)
  clear f0 f1
  obtain ⟨-, -, f2, -, -, -, -, -, -, -, -, -, -, -, -, -, -, -⟩ := HF.out _ B1
  go_wp2_with fail
  refine (u32_any _ p base _ _ m.chunk H1 h.ok.chunk.1 h.ok.chunk.2 (by first | omega | (simp only [List.length_append, beB_length, List.length_cons, List.length_nil, nums_length]; omega))).mono ?_
  rintro e w2 ⟨rfl, v2, H2, S2⟩
  have B2 := H1.keeps S2 B1 (by decide) (by decide)
  clear f2
  obtain ⟨-, -, -, -, -, -, -, -, -, -, -, -, -, -, -, f15, -, -⟩ := HF.out _ B2
  go_wp2_with fail
  refine (u8_any _ p base _ _ m.width H2 h.ok.width.1 h.ok.width.2 (by first | omega | (simp only [List.length_append, beB_length, List.length_cons, List.length_nil, nums_length]; omega))).mono ?_
  rintro e w3 ⟨rfl, v3, H3, S3⟩
  have B3 := H2.keeps S3 B2 (by decide) (by decide)
  clear f15
  obtain ⟨-, -, -, -, -, -, -, -, -, -, -, -, -, -, -, f15, f16, -⟩ := HF.out _ B3
  go_wp2_with fail
  have SS3 := (((S0.trans S1).trans S2).trans S3)
  refine (pwords_any w0 _ p base _ _ _ m.words _ m.width H3 h.words (SS3.inner hw o hp0 hb0) hp0 hb0 h.ok.words HSI.out (by omega) (by omega) (by omega) (by first | omega | (simp only [List.length_append, beB_length, List.length_cons, List.length_nil, nums_length]; omega))).mono ?_
  rintro e w4 ⟨rfl, v4, H4, S4⟩
  have B4 := H3.keeps S4 B3 (by decide) (by decide)
  go_wp2_with fail
  go_end0
  refine ⟨rfl, v4, ?_, ((((S0.trans S1).trans S2).trans S3).trans S4)⟩
  rw [HBD.out]
  try simp only [← List.append_assoc]
  simpa only [← List.append_assoc] using H4
set_option maxRecDepth 100000 in
set_option maxHeartbeats 4000000 in
theorem mput4 (w0 w : World) (p base : Nat) (v : Value) (bs : List Int) (m : Mg) (vw vs : Value) (hw : WAt w p base v bs) (h : MgAt w0 m vw vs) (o : Only (fun _ => False) w0 w) (hp0 : w0.heap.size ≤ p) (hb0 : w0.heap.size ≤ base) (hc : m.check = 0) (hl : bs.length ≤ 100) (hk : m.kind = 4) : Calls Try.prog 30 #[.pointer (some ⟨p, 0, none⟩), .agg (m.cells vw vs).toArray] w fun e w' => e = .returned (.tuple #[]) ∧ ∃ v', WAt w' p base v' (bs ++ m.body) ∧ WStep p v.ownBlock w w' v'.ownBlock := by
  have H0 := hw.alloc (.cells (m.cells vw vs).toArray 39)
  have B0 := Has.new w 39 (m.cells vw vs).toArray
  have S0 : WStep p v.ownBlock w (w.alloc (.cells (m.cells vw vs).toArray 39)) v.ownBlock := ⟨(Only.refl _ _).alloc _, .inl rfl⟩
  have hsz : (m.cells vw vs).toArray.size = 82 := by simpa using Mg.cells_length h.ok vw vs
  have HF := Lib.hid (fun W (h2 : Has W w.heap.size 39 (m.cells vw vs).toArray) => mf_of h2 h.ok)
  have HCV := Lib.hid (fun W (h2 : Has W w.heap.size 39 (m.cells vw vs).toArray) => conv_32 h2 17 m.dig h.ok.dig (by intro i hi; have := (cells_mid h.ok vw vs).1 i (.int .u8 (m.dig.getD i 0)) (by simp [u8s, List.getD_eq_getElem?_getD, List.getElem?_eq_getElem (show i < m.dig.length by rw [h.ok.dig]; exact hi)]); exact this))
  have HSZ := Lib.hid (show (strOfNums m.dig).size = 32 by rw [strOfNums_size, h.ok.dig])
  have HOS := Lib.hid (of_str_nums m.dig h.ok.xd)
  have HBD := Lib.hid (show m.body = beB m.batch 4 ++ m.dig from body4 hk)
  have HK := Lib.hid hk
  generalize hcs : (m.cells vw vs).toArray = cs at *
  clear hcs
  obtain ⟨f0, f1, -, -, -, -, -, -, -, -, -, -, -, -, -, -, -, -⟩ := HF.out _ B0
  rw [HK.out] at f0
  go_enter Try.func30, Try.ntmps30
  go_wp2_with fail
  refine (u32_any _ p base _ _ m.batch H0 h.ok.batch.1 h.ok.batch.2 (by first | omega | (simp only [List.length_append, beB_length, List.length_cons, List.length_nil, nums_length]; omega))).mono ?_
  rintro e w1 ⟨rfl, v1, H1, S1⟩
  have B1 := H0.keeps S1 B0 (by decide) (by decide)
  clear f0 f1
  have hcv := HCV.out _ B1
  go_wp2_with fail
  refine (raw_any _ p base _ _ (strOfNums m.dig) H1 (by rw [HSZ.out]; omega) (by first | omega | (simp only [List.length_append, beB_length, List.length_cons, List.length_nil, nums_length]; omega))).mono ?_
  rintro e w2 ⟨rfl, v2, H2, S2⟩
  have B2 := H1.keeps S2 B1 (by decide) (by decide)
  go_wp2_with fail
  go_end0
  refine ⟨rfl, v2, ?_, ((S0.trans S1).trans S2)⟩
  rw [HBD.out]
  rw [HOS.out] at H2
  try simp only [← List.append_assoc]
  exact H2
end Go.Proofs.Ytbajgbjpaliecaa
