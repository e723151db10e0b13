/- msg.put, kind by kind. -/
import Derived.Test.YtbajgbjpaliecaaMp
set_option linter.unusedSimpArgs false
set_option linter.unusedVariables false
namespace Go.Proofs.Ytbajgbjpaliecaa
open Go.RowKit

set_option maxRecDepth 100000 in
set_option maxHeartbeats 4000000 in
theorem mput5 (w0 w : World) (p base : Nat) (v : Value) (bs : List Int) (m : Mg) (vw vs : Value) (hw : WAt w p base v bs) (h : MgAt w0 m vw vs) (o : Only (fun _ => False) w0 w) (hp0 : w0.heap.size ≤ p) (hb0 : w0.heap.size ≤ base) (hc : m.check = 0) (hl : bs.length ≤ 100) (hk : m.kind = 5) : Calls Try.prog 30 #[.pointer (some ⟨p, 0, none⟩), .agg (m.cells vw vs).toArray] w fun e w' => e = .returned (.tuple #[]) ∧ ∃ v', WAt w' p base v' (bs ++ m.body) ∧ WStep p v.ownBlock w w' v'.ownBlock := by
  have H0 := hw.alloc (.cells (m.cells vw vs).toArray 39)
  have B0 := Has.new w 39 (m.cells vw vs).toArray
  have S0 : WStep p v.ownBlock w (w.alloc (.cells (m.cells vw vs).toArray 39)) v.ownBlock := ⟨(Only.refl _ _).alloc _, .inl rfl⟩
  have hsz : (m.cells vw vs).toArray.size = 82 := by simpa using Mg.cells_length h.ok vw vs
  have HF := Lib.hid (fun W (h2 : Has W w.heap.size 39 (m.cells vw vs).toArray) => mf_of h2 h.ok)
  have HCV := Lib.hid (fun W (h2 : Has W w.heap.size 39 (m.cells vw vs).toArray) => conv_32 h2 49 m.seed h.ok.seed (by intro i hi; have := (cells_mid h.ok vw vs).2 i (.int .u8 (m.seed.getD i 0)) (by simp [u8s, List.getD_eq_getElem?_getD, List.getElem?_eq_getElem (show i < m.seed.length by rw [h.ok.seed]; exact hi)]); exact this))
  have HSZ := Lib.hid (show (strOfNums m.seed).size = 32 by rw [strOfNums_size, h.ok.seed])
  have HOS := Lib.hid (of_str_nums m.seed h.ok.xs)
  have HBD := Lib.hid (show m.body = beB m.batch 4 ++ m.seed from body5 hk)
  have HK := Lib.hid hk
  generalize hcs : (m.cells vw vs).toArray = cs at *
  clear hcs
  obtain ⟨f0, f1, -, -, -, -, -, -, -, -, -, -, -, -, -, -, -, -⟩ := HF.out _ B0
  rw [HK.out] at f0
  go_enter Try.func30, Try.ntmps30
  go_wp2_with fail
  refine (u32_any _ p base _ _ m.batch H0 h.ok.batch.1 h.ok.batch.2 (by first | omega | (simp only [List.length_append, beB_length, List.length_cons, List.length_nil, nums_length]; omega))).mono ?_
  rintro e w1 ⟨rfl, v1, H1, S1⟩
  have B1 := H0.keeps S1 B0 (by decide) (by decide)
  clear f0 f1
  have hcv := HCV.out _ B1
  go_wp2_with fail
  refine (raw_any _ p base _ _ (strOfNums m.seed) H1 (by rw [HSZ.out]; omega) (by first | omega | (simp only [List.length_append, beB_length, List.length_cons, List.length_nil, nums_length]; omega))).mono ?_
  rintro e w2 ⟨rfl, v2, H2, S2⟩
  have B2 := H1.keeps S2 B1 (by decide) (by decide)
  go_wp2_with fail
  go_end0
  refine ⟨rfl, v2, ?_, ((S0.trans S1).trans S2)⟩
  rw [HBD.out]
  rw [HOS.out] at H2
  try simp only [← List.append_assoc]
  exact H2
set_option maxRecDepth 100000 in
set_option maxHeartbeats 4000000 in
theorem mput7 (w0 w : World) (p base : Nat) (v : Value) (bs : List Int) (m : Mg) (vw vs : Value) (hw : WAt w p base v bs) (h : MgAt w0 m vw vs) (o : Only (fun _ => False) w0 w) (hp0 : w0.heap.size ≤ p) (hb0 : w0.heap.size ≤ base) (hc : m.check = 0) (hl : bs.length ≤ 100) (hk : m.kind = 7) : Calls Try.prog 30 #[.pointer (some ⟨p, 0, none⟩), .agg (m.cells vw vs).toArray] w fun e w' => e = .returned (.tuple #[]) ∧ ∃ v', WAt w' p base v' (bs ++ m.body) ∧ WStep p v.ownBlock w w' v'.ownBlock := by
  have H0 := hw.alloc (.cells (m.cells vw vs).toArray 39)
  have B0 := Has.new w 39 (m.cells vw vs).toArray
  have S0 : WStep p v.ownBlock w (w.alloc (.cells (m.cells vw vs).toArray 39)) v.ownBlock := ⟨(Only.refl _ _).alloc _, .inl rfl⟩
  have hsz : (m.cells vw vs).toArray.size = 82 := by simpa using Mg.cells_length h.ok vw vs
  have HF := Lib.hid (fun W (h2 : Has W w.heap.size 39 (m.cells vw vs).toArray) => mf_of h2 h.ok)
  have HBD := Lib.hid (show m.body = beB m.batch 4 ++ [m.code] from body7 hk)
  have HK := Lib.hid hk
  generalize hcs : (m.cells vw vs).toArray = cs at *
  clear hcs
  obtain ⟨f0, f1, -, -, -, -, -, -, -, -, -, -, -, -, -, -, -, -⟩ := HF.out _ B0
  rw [HK.out] at f0
  go_enter Try.func30, Try.ntmps30
  go_wp2_with fail
  refine (u32_any _ p base _ _ m.batch H0 h.ok.batch.1 h.ok.batch.2 (by first | omega | (simp only [List.length_append, beB_length, List.length_cons, List.length_nil, nums_length]; omega))).mono ?_
  rintro e w1 ⟨rfl, v1, H1, S1⟩
  have B1 := H0.keeps S1 B0 (by decide) (by decide)
  clear f0 f1
  obtain ⟨-, -, -, -, -, -, -, -, -, -, -, -, -, f13, -, -, -, -⟩ := HF.out _ B1
  go_wp2_with fail
  refine (u8_any _ p base _ _ m.code H1 h.ok.code.1 h.ok.code.2 (by first | omega | (simp only [List.length_append, beB_length, List.length_cons, List.length_nil, nums_length]; omega))).mono ?_
  rintro e w2 ⟨rfl, v2, H2, S2⟩
  have B2 := H1.keeps S2 B1 (by decide) (by decide)
  go_wp2_with fail
  go_end0
  refine ⟨rfl, v2, ?_, ((S0.trans S1).trans S2)⟩
  rw [HBD.out]
  try simp only [← List.append_assoc]
  exact H2
set_option maxRecDepth 100000 in
set_option maxHeartbeats 4000000 in
theorem mput8 (w0 w : World) (p base : Nat) (v : Value) (bs : List Int) (m : Mg) (vw vs : Value) (hw : WAt w p base v bs) (h : MgAt w0 m vw vs) (o : Only (fun _ => False) w0 w) (hp0 : w0.heap.size ≤ p) (hb0 : w0.heap.size ≤ base) (hc : m.check = 0) (hl : bs.length ≤ 100) (hk : m.kind = 8) : Calls Try.prog 30 #[.pointer (some ⟨p, 0, none⟩), .agg (m.cells vw vs).toArray] w fun e w' => e = .returned (.tuple #[]) ∧ ∃ v', WAt w' p base v' (bs ++ m.body) ∧ WStep p v.ownBlock w w' v'.ownBlock := by
  have hn := nums_range (good_class (by omega) hc)
  have H0 := hw.alloc (.cells (m.cells vw vs).toArray 39)
  have B0 := Has.new w 39 (m.cells vw vs).toArray
  have S0 : WStep p v.ownBlock w (w.alloc (.cells (m.cells vw vs).toArray 39)) v.ownBlock := ⟨(Only.refl _ _).alloc _, .inl rfl⟩
  have hsz : (m.cells vw vs).toArray.size = 82 := by simpa using Mg.cells_length h.ok vw vs
  have HF := Lib.hid (fun W (h2 : Has W w.heap.size 39 (m.cells vw vs).toArray) => mf_of h2 h.ok)
  have HBD := Lib.hid (show m.body = m.c.nums ++ beB m.count 4 from body8 hk)
  have HK := Lib.hid hk
  generalize hcs : (m.cells vw vs).toArray = cs at *
  clear hcs
  obtain ⟨f0, -, -, -, f4, f5, f6, f7, f8, -, -, -, -, -, -, -, -, -⟩ := HF.out _ B0
  rw [HK.out] at f0
  go_enter Try.func30, Try.ntmps30
  go_wp2_with fail
  refine (sput_any _ p base _ _ m.c H0 hn (by first | omega | (simp only [List.length_append, beB_length, List.length_cons, List.length_nil, nums_length]; omega))).mono ?_
  rintro e w1 ⟨rfl, v1, H1, S1⟩
  have B1 := H0.keeps S1 B0 (by decide) (by decide)
  clear f0 f4 f5 f6 f7 f8
  obtain ⟨-, -, -, -, -, -, -, -, -, f9, -, -, -, -, -, -, -, -⟩ := HF.out _ B1
  go_wp2_with fail
  refine (u32_any _ p base _ _ m.count H1 h.ok.count.1 h.ok.count.2 (by first | omega | (simp only [List.length_append, beB_length, List.length_cons, List.length_nil, nums_length]; omega))).mono ?_
  rintro e w2 ⟨rfl, v2, H2, S2⟩
  have B2 := H1.keeps S2 B1 (by decide) (by decide)
  go_wp2_with fail
  go_end0
  refine ⟨rfl, v2, ?_, ((S0.trans S1).trans S2)⟩
  rw [HBD.out]
  try simp only [← List.append_assoc]
  exact H2
set_option maxRecDepth 100000 in
set_option maxHeartbeats 4000000 in
theorem mput9 (w0 w : World) (p base : Nat) (v : Value) (bs : List Int) (m : Mg) (vw vs : Value) (hw : WAt w p base v bs) (h : MgAt w0 m vw vs) (o : Only (fun _ => False) w0 w) (hp0 : w0.heap.size ≤ p) (hb0 : w0.heap.size ≤ base) (hc : m.check = 0) (hl : bs.length ≤ 100) (hk : m.kind = 9) : Calls Try.prog 30 #[.pointer (some ⟨p, 0, none⟩), .agg (m.cells vw vs).toArray] w fun e w' => e = .returned (.tuple #[]) ∧ ∃ v', WAt w' p base v' (bs ++ m.body) ∧ WStep p v.ownBlock w w' v'.ownBlock := by
  have hn := nums_range (good_class (by omega) hc)
  have H0 := hw.alloc (.cells (m.cells vw vs).toArray 39)
  have B0 := Has.new w 39 (m.cells vw vs).toArray
  have S0 : WStep p v.ownBlock w (w.alloc (.cells (m.cells vw vs).toArray 39)) v.ownBlock := ⟨(Only.refl _ _).alloc _, .inl rfl⟩
  have hsz : (m.cells vw vs).toArray.size = 82 := by simpa using Mg.cells_length h.ok vw vs
  have HF := Lib.hid (fun W (h2 : Has W w.heap.size 39 (m.cells vw vs).toArray) => mf_of h2 h.ok)
  have HBD := Lib.hid (show m.body = beB m.ticket 4 ++ m.c.nums ++ beB m.count 4 ++ beB m.first 4 from body9 hk)
  have HK := Lib.hid hk
  generalize hcs : (m.cells vw vs).toArray = cs at *
  clear hcs
  obtain ⟨f0, -, -, -, -, -, -, -, -, -, -, -, f12, -, -, -, -, -⟩ := HF.out _ B0
  rw [HK.out] at f0
  go_enter Try.func30, Try.ntmps30
  go_wp2_with fail
  refine (u32_any _ p base _ _ m.ticket H0 h.ok.ticket.1 h.ok.ticket.2 (by first | omega | (simp only [List.length_append, beB_length, List.length_cons, List.length_nil, nums_length]; omega))).mono ?_
  rintro e w1 ⟨rfl, v1, H1, S1⟩
  have B1 := H0.keeps S1 B0 (by decide) (by decide)
  clear f0 f12
  obtain ⟨-, -, -, -, f4, f5, f6, f7, f8, -, -, -, -, -, -, -, -, -⟩ := HF.out _ B1
  go_wp2_with fail
  refine (sput_any _ p base _ _ m.c H1 hn (by first | omega | (simp only [List.length_append, beB_length, List.length_cons, List.length_nil, nums_length]; omega))).mono ?_
  rintro e w2 ⟨rfl, v2, H2, S2⟩
  have B2 := H1.keeps S2 B1 (by decide) (by decide)
  clear f4 f5 f6 f7 f8
  obtain ⟨-, -, -, -, -, -, -, -, -, f9, -, -, -, -, -, -, -, -⟩ := HF.out _ B2
  go_wp2_with fail
  refine (u32_any _ p base _ _ m.count H2 h.ok.count.1 h.ok.count.2 (by first | omega | (simp only [List.length_append, beB_length, List.length_cons, List.length_nil, nums_length]; omega))).mono ?_
  rintro e w3 ⟨rfl, v3, H3, S3⟩
  have B3 := H2.keeps S3 B2 (by decide) (by decide)
  clear f9
  obtain ⟨-, -, -, -, -, -, -, -, -, -, -, f11, -, -, -, -, -, -⟩ := HF.out _ B3
  go_wp2_with fail
  refine (u32_any _ p base _ _ m.first H3 h.ok.first.1 h.ok.first.2 (by first | omega | (simp only [List.length_append, beB_length, List.length_cons, List.length_nil, nums_length]; omega))).mono ?_
  rintro e w4 ⟨rfl, v4, H4, S4⟩
  have B4 := H3.keeps S4 B3 (by decide) (by decide)
  go_wp2_with fail
  go_end0
  refine ⟨rfl, v4, ?_, ((((S0.trans S1).trans S2).trans S3).trans S4)⟩
  rw [HBD.out]
  try simp only [← List.append_assoc]
  exact H4
end Go.Proofs.Ytbajgbjpaliecaa
