/- The reference of layer 10: Encode, kind by kind. -/
import Derived.Test.YtbajgbjpaliecaaDoorEa
import Derived.Test.YtbajgbjpaliecaaDoorMe4
set_option linter.unusedSimpArgs false
set_option linter.unusedVariables false
namespace Go.Proofs.YtbajgbjpaliecaaDoor
open Go.RowKit Go.Lib

set_option maxRecDepth 100000 in
set_option maxHeartbeats 4000000 in
theorem rencode4 (w : World) (m : Mg) (vw vs : Value) (h : MgAt w m vw vs) (hs : m.Short) (hc : m.check = 0) (hk : m.kind = 4) : Calls Tryd.prog 8 #[.agg (m.cells vw vs).toArray] w fun e w' => e = .returned (.tuple #[.string (strOfNums (m.kind :: m.body)), .int .i64 0]) ∧ Only (fun _ => False) w w' := by
  have B0 := Has.new w 32 (m.cells vw vs).toArray
  have O0 := (Only.refl (fun _ => False) w).alloc (.cells (m.cells vw vs).toArray 32)
  have hsz : (m.cells vw vs).toArray.size = 82 := by simpa using Mg.cells_length h.ok vw vs
  have HF := Lib.hid (fun W (h2 : Has W w.heap.size 32 (m.cells vw vs).toArray) => mf_of h2 h.ok)
  have HRC := Lib.hid (fun W (o : Only (fun _ => False) w W) => rmcheck_any W m vw vs (h.only o) hs)
  rw [hc] at HRC
  have HU0 := Lib.hid (fun W => u8r_any W m.kind)
  rw [hk] at HU0
  have HCV := Lib.hid (fun W (h2 : Has W w.heap.size 32 (m.cells vw vs).toArray) => conv_32 h2 17 m.dig h.ok.dig (by intro i hi; have := (cells_mid h.ok vw vs).1 i (.int .u8 (m.dig.getD i 0)) (by simp [u8s, List.getD_eq_getElem?_getD, List.getElem?_eq_getElem (show i < m.dig.length by rw [h.ok.dig]; exact hi)]); exact this))
  have HFIN := Lib.hid (show strOfNums (m.kind :: m.body) = strOfNums [4] ++ strOfNums (beB m.batch 4) ++ strOfNums m.dig by rw [hk, body4 hk, show ∀ l : List Int, (4 : Int) :: l = [4] ++ l from fun _ => rfl]; simp only [nums_app, nums_ofStr, wB, ByteArray.append_assoc])
  rw [HFIN.out]
  have z0 : (strOfNums [4]).size ≤ 1 := by rw [nums_size]; exact Nat.le_refl _
  have z1 : (strOfNums (beB m.batch 4)).size ≤ 4 := by
    first
    | (rw [nums_size, beB_length]; done)
    | (rw [nums_size, beB_length]; omega)
    | (rw [nums_size, beB_length]; exact Nat.le_refl _)
    | (rw [nums_size]; exact Nat.le_refl _)
  have z2 : (strOfNums m.dig).size ≤ 32 := by
    first
    | (rw [nums_size, h.ok.dig]; done)
    | (rw [nums_size, h.ok.dig]; omega)
    | (rw [nums_size, h.ok.dig]; exact Nat.le_refl _)
    | (rw [nums_size]; exact Nat.le_refl _)
  have HP1 := Lib.hid (fun W => u32r_any W m.batch h.ok.batch.1 h.ok.batch.2)
  have HK := Lib.hid hk
  clear hs hc HFIN
  generalize strOfNums [4] = a0 at *
  generalize strOfNums (beB m.batch 4) = a1 at *
  generalize strOfNums m.dig = a2 at *
  have hadd0 := fun W => run_string_add_sum (P := Tryd.prog) (w := W) (a0) (a1) (by first | omega | (simp only [ByteArray.size_append]; omega))
  have hadd1 := fun W => run_string_add_sum (P := Tryd.prog) (w := W) (a0 ++ a1) (a2) (by first | omega | (simp only [ByteArray.size_append]; omega))
  generalize (m.cells vw vs).toArray = cs at *
  go_enter Tryd.func8, Tryd.ntmps8
  go_wp2_with fail
  refine wp_load_box rfl rfl B0 Tryd.underlying32 (by rw [rmsg_info, hsz]) ?_
  go_wp2_with fail
  refine (HRC.out _ O0).mono ?_; rintro e w1 ⟨rfl, o1⟩
  have B1 := o1.has B0 (fun f => f)
  obtain ⟨f0, -, -, -, -, -, -, -, -, -, -, -, -, -, -, -, -, -⟩ := HF.out _ B1
  rw [HK.out] at f0
  go_wp2_with fail
  refine (HU0.out _).mono ?_; rintro e w2 ⟨rfl, o2⟩
  have B2 := o2.has B1 (fun f => f)
  have O2 := (O0.trans o1).trans o2
  clear f0
  obtain ⟨g0, g1, -, -, -, -, -, -, -, -, -, -, -, -, -, -, -, -⟩ := HF.out _ B2
  rw [HK.out] at g0
  go_wp2_with fail
  have X0 : Only (fun _ => False) w2 w2.drew := (Only.refl _ _).drew
  go_region_held3 (fun W => W.cell? ⟨w.heap.size, 1, none⟩ = some (.int .u32 m.batch) ∧ (convert 52 9 (.slice (some ⟨w.heap.size, 17, none⟩) 32 32)).run Tryd.prog W = .ok (.string a2) W ∧ Only (fun _ => False) w2 W)
    (first | exact ⟨Only.cell X1 g1 (fun f => f), HCV.out _ (Only.has X1 B2 (fun f => f)), X1⟩ | exact ⟨Only.cell X0 g1 (fun f => f), HCV.out _ (Only.has X0 B2 (fun f => f)), X0⟩)
    (first
    | (go_at_call_of 19 (Value.int IntKind.u32 m.batch); (with_reducible refine (HP1.out _).mono ?_); rintro e wx1 ⟨rfl, ox1⟩; have X1 := X0.trans ox1))
  rename_i hS
  have HO := Lib.hid (O2.trans hS.2.2)
  clear hS
  go_wp2_with fail
  go_ret2
  exact ⟨rfl, HO.out⟩
set_option maxRecDepth 100000 in
set_option maxHeartbeats 4000000 in
theorem rencode5 (w : World) (m : Mg) (vw vs : Value) (h : MgAt w m vw vs) (hs : m.Short) (hc : m.check = 0) (hk : m.kind = 5) : Calls Tryd.prog 8 #[.agg (m.cells vw vs).toArray] w fun e w' => e = .returned (.tuple #[.string (strOfNums (m.kind :: m.body)), .int .i64 0]) ∧ Only (fun _ => False) w w' := by
  have B0 := Has.new w 32 (m.cells vw vs).toArray
  have O0 := (Only.refl (fun _ => False) w).alloc (.cells (m.cells vw vs).toArray 32)
  have hsz : (m.cells vw vs).toArray.size = 82 := by simpa using Mg.cells_length h.ok vw vs
  have HF := Lib.hid (fun W (h2 : Has W w.heap.size 32 (m.cells vw vs).toArray) => mf_of h2 h.ok)
  have HRC := Lib.hid (fun W (o : Only (fun _ => False) w W) => rmcheck_any W m vw vs (h.only o) hs)
  rw [hc] at HRC
  have HU0 := Lib.hid (fun W => u8r_any W m.kind)
  rw [hk] at HU0
  have HCV := Lib.hid (fun W (h2 : Has W w.heap.size 32 (m.cells vw vs).toArray) => conv_32 h2 49 m.seed h.ok.seed (by intro i hi; have := (cells_mid h.ok vw vs).2 i (.int .u8 (m.seed.getD i 0)) (by simp [u8s, List.getD_eq_getElem?_getD, List.getElem?_eq_getElem (show i < m.seed.length by rw [h.ok.seed]; exact hi)]); exact this))
  have HFIN := Lib.hid (show strOfNums (m.kind :: m.body) = strOfNums [5] ++ strOfNums (beB m.batch 4) ++ strOfNums m.seed by rw [hk, body5 hk, show ∀ l : List Int, (5 : Int) :: l = [5] ++ l from fun _ => rfl]; simp only [nums_app, nums_ofStr, wB, ByteArray.append_assoc])
  rw [HFIN.out]
  have z0 : (strOfNums [5]).size ≤ 1 := by rw [nums_size]; exact Nat.le_refl _
  have z1 : (strOfNums (beB m.batch 4)).size ≤ 4 := by
    first
    | (rw [nums_size, beB_length]; done)
    | (rw [nums_size, beB_length]; omega)
    | (rw [nums_size, beB_length]; exact Nat.le_refl _)
    | (rw [nums_size]; exact Nat.le_refl _)
  have z2 : (strOfNums m.seed).size ≤ 32 := by
    first
    | (rw [nums_size, h.ok.seed]; done)
    | (rw [nums_size, h.ok.seed]; omega)
    | (rw [nums_size, h.ok.seed]; exact Nat.le_refl _)
    | (rw [nums_size]; exact Nat.le_refl _)
  have HP1 := Lib.hid (fun W => u32r_any W m.batch h.ok.batch.1 h.ok.batch.2)
  have HK := Lib.hid hk
  clear hs hc HFIN
  generalize strOfNums [5] = a0 at *
  generalize strOfNums (beB m.batch 4) = a1 at *
  generalize strOfNums m.seed = a2 at *
  have hadd0 := fun W => run_string_add_sum (P := Tryd.prog) (w := W) (a0) (a1) (by first | omega | (simp only [ByteArray.size_append]; omega))
  have hadd1 := fun W => run_string_add_sum (P := Tryd.prog) (w := W) (a0 ++ a1) (a2) (by first | omega | (simp only [ByteArray.size_append]; omega))
  generalize (m.cells vw vs).toArray = cs at *
  go_enter Tryd.func8, Tryd.ntmps8
  go_wp2_with fail
  refine wp_load_box rfl rfl B0 Tryd.underlying32 (by rw [rmsg_info, hsz]) ?_
  go_wp2_with fail
  refine (HRC.out _ O0).mono ?_; rintro e w1 ⟨rfl, o1⟩
  have B1 := o1.has B0 (fun f => f)
  obtain ⟨f0, -, -, -, -, -, -, -, -, -, -, -, -, -, -, -, -, -⟩ := HF.out _ B1
  rw [HK.out] at f0
  go_wp2_with fail
  refine (HU0.out _).mono ?_; rintro e w2 ⟨rfl, o2⟩
  have B2 := o2.has B1 (fun f => f)
  have O2 := (O0.trans o1).trans o2
  clear f0
  obtain ⟨g0, g1, -, -, -, -, -, -, -, -, -, -, -, -, -, -, -, -⟩ := HF.out _ B2
  rw [HK.out] at g0
  go_wp2_with fail
  have X0 : Only (fun _ => False) w2 w2.drew := (Only.refl _ _).drew
  go_region_held3 (fun W => W.cell? ⟨w.heap.size, 1, none⟩ = some (.int .u32 m.batch) ∧ (convert 52 9 (.slice (some ⟨w.heap.size, 49, none⟩) 32 32)).run Tryd.prog W = .ok (.string a2) W ∧ Only (fun _ => False) w2 W)
    (first | exact ⟨Only.cell X1 g1 (fun f => f), HCV.out _ (Only.has X1 B2 (fun f => f)), X1⟩ | exact ⟨Only.cell X0 g1 (fun f => f), HCV.out _ (Only.has X0 B2 (fun f => f)), X0⟩)
    (first
    | (go_at_call_of 19 (Value.int IntKind.u32 m.batch); (with_reducible refine (HP1.out _).mono ?_); rintro e wx1 ⟨rfl, ox1⟩; have X1 := X0.trans ox1))
  rename_i hS
  have HO := Lib.hid (O2.trans hS.2.2)
  clear hS
  go_wp2_with fail
  go_ret2
  exact ⟨rfl, HO.out⟩
set_option maxRecDepth 100000 in
set_option maxHeartbeats 4000000 in
theorem rencode7 (w : World) (m : Mg) (vw vs : Value) (h : MgAt w m vw vs) (hs : m.Short) (hc : m.check = 0) (hk : m.kind = 7) : Calls Tryd.prog 8 #[.agg (m.cells vw vs).toArray] w fun e w' => e = .returned (.tuple #[.string (strOfNums (m.kind :: m.body)), .int .i64 0]) ∧ Only (fun _ => False) w w' := by
  have B0 := Has.new w 32 (m.cells vw vs).toArray
  have O0 := (Only.refl (fun _ => False) w).alloc (.cells (m.cells vw vs).toArray 32)
  have hsz : (m.cells vw vs).toArray.size = 82 := by simpa using Mg.cells_length h.ok vw vs
  have HF := Lib.hid (fun W (h2 : Has W w.heap.size 32 (m.cells vw vs).toArray) => mf_of h2 h.ok)
  have HRC := Lib.hid (fun W (o : Only (fun _ => False) w W) => rmcheck_any W m vw vs (h.only o) hs)
  rw [hc] at HRC
  have HU0 := Lib.hid (fun W => u8r_any W m.kind)
  rw [hk] at HU0
  have HFIN := Lib.hid (show strOfNums (m.kind :: m.body) = strOfNums [7] ++ strOfNums (beB m.batch 4) ++ strOfNums [m.code] by rw [hk, body7 hk, show ∀ l : List Int, (7 : Int) :: l = [7] ++ l from fun _ => rfl]; simp only [nums_app, nums_ofStr, wB, ByteArray.append_assoc])
  rw [HFIN.out]
  have z0 : (strOfNums [7]).size ≤ 1 := by rw [nums_size]; exact Nat.le_refl _
  have z1 : (strOfNums (beB m.batch 4)).size ≤ 4 := by
    first
    | (rw [nums_size, beB_length]; done)
    | (rw [nums_size, beB_length]; omega)
    | (rw [nums_size, beB_length]; exact Nat.le_refl _)
    | (rw [nums_size]; exact Nat.le_refl _)
  have z2 : (strOfNums [m.code]).size ≤ 1 := by
    first
    | (rw [nums_size]; exact Nat.le_refl _; done)
    | (rw [nums_size]; exact Nat.le_refl _; omega)
    | (rw [nums_size]; exact Nat.le_refl _; exact Nat.le_refl _)
    | (rw [nums_size]; exact Nat.le_refl _)
  have HP1 := Lib.hid (fun W => u32r_any W m.batch h.ok.batch.1 h.ok.batch.2)
  have HP2 := Lib.hid (fun W => u8r_any W m.code)
  have HK := Lib.hid hk
  clear hs hc HFIN
  generalize strOfNums [7] = a0 at *
  generalize strOfNums (beB m.batch 4) = a1 at *
  generalize strOfNums [m.code] = a2 at *
  have hadd0 := fun W => run_string_add_sum (P := Tryd.prog) (w := W) (a0) (a1) (by first | omega | (simp only [ByteArray.size_append]; omega))
  have hadd1 := fun W => run_string_add_sum (P := Tryd.prog) (w := W) (a0 ++ a1) (a2) (by first | omega | (simp only [ByteArray.size_append]; omega))
  generalize (m.cells vw vs).toArray = cs at *
  go_enter Tryd.func8, Tryd.ntmps8
  go_wp2_with fail
  refine wp_load_box rfl rfl B0 Tryd.underlying32 (by rw [rmsg_info, hsz]) ?_
  go_wp2_with fail
  refine (HRC.out _ O0).mono ?_; rintro e w1 ⟨rfl, o1⟩
  have B1 := o1.has B0 (fun f => f)
  obtain ⟨f0, -, -, -, -, -, -, -, -, -, -, -, -, -, -, -, -, -⟩ := HF.out _ B1
  rw [HK.out] at f0
  go_wp2_with fail
  refine (HU0.out _).mono ?_; rintro e w2 ⟨rfl, o2⟩
  have B2 := o2.has B1 (fun f => f)
  have O2 := (O0.trans o1).trans o2
  clear f0
  obtain ⟨g0, g1, -, -, -, -, -, -, -, -, -, -, -, g13, -, -, -, -⟩ := HF.out _ B2
  rw [HK.out] at g0
  go_wp2_with fail
  have X0 : Only (fun _ => False) w2 w2.drew := (Only.refl _ _).drew
  go_region_held3 (fun W => W.cell? ⟨w.heap.size, 1, none⟩ = some (.int .u32 m.batch) ∧ W.cell? ⟨w.heap.size, 13, none⟩ = some (.int .u8 m.code) ∧ Only (fun _ => False) w2 W)
    (first | exact ⟨Only.cell X2 g1 (fun f => f), Only.cell X2 g13 (fun f => f), X2⟩ | exact ⟨Only.cell X1 g1 (fun f => f), Only.cell X1 g13 (fun f => f), X1⟩ | exact ⟨Only.cell X0 g1 (fun f => f), Only.cell X0 g13 (fun f => f), X0⟩)
    (first
    | (go_at_call_of 19 (Value.int IntKind.u32 m.batch); (with_reducible refine (HP1.out _).mono ?_); rintro e wx1 ⟨rfl, ox1⟩; have X1 := X0.trans ox1)
    | (go_at_call 18; (with_reducible refine (HP2.out _).mono ?_); rintro e wx2 ⟨rfl, ox2⟩; have X2 := X1.trans ox2))
  rename_i hS
  have HO := Lib.hid (O2.trans hS.2.2)
  clear hS
  go_wp2_with fail
  go_ret2
  exact ⟨rfl, HO.out⟩
set_option maxRecDepth 100000 in
set_option maxHeartbeats 4000000 in
theorem rencode8 (w : World) (m : Mg) (vw vs : Value) (h : MgAt w m vw vs) (hs : m.Short) (hc : m.check = 0) (hk : m.kind = 8) : Calls Tryd.prog 8 #[.agg (m.cells vw vs).toArray] w fun e w' => e = .returned (.tuple #[.string (strOfNums (m.kind :: m.body)), .int .i64 0]) ∧ Only (fun _ => False) w w' := by
  have hn := nums_range (good_class (by omega) hc)
  have B0 := Has.new w 32 (m.cells vw vs).toArray
  have O0 := (Only.refl (fun _ => False) w).alloc (.cells (m.cells vw vs).toArray 32)
  have hsz : (m.cells vw vs).toArray.size = 82 := by simpa using Mg.cells_length h.ok vw vs
  have HF := Lib.hid (fun W (h2 : Has W w.heap.size 32 (m.cells vw vs).toArray) => mf_of h2 h.ok)
  have HRC := Lib.hid (fun W (o : Only (fun _ => False) w W) => rmcheck_any W m vw vs (h.only o) hs)
  rw [hc] at HRC
  have HU0 := Lib.hid (fun W => u8r_any W m.kind)
  rw [hk] at HU0
  have HFIN := Lib.hid (show strOfNums (m.kind :: m.body) = strOfNums [8] ++ strOfNums m.c.nums ++ strOfNums (beB m.count 4) by rw [hk, body8 hk, show ∀ l : List Int, (8 : Int) :: l = [8] ++ l from fun _ => rfl]; simp only [nums_app, nums_ofStr, wB, ByteArray.append_assoc])
  rw [HFIN.out]
  have z0 : (strOfNums [8]).size ≤ 1 := by rw [nums_size]; exact Nat.le_refl _
  have z1 : (strOfNums m.c.nums).size ≤ 5 := by
    first
    | (rw [nums_size]; exact Nat.le_refl _; done)
    | (rw [nums_size]; exact Nat.le_refl _; omega)
    | (rw [nums_size]; exact Nat.le_refl _; exact Nat.le_refl _)
    | (rw [nums_size]; exact Nat.le_refl _)
  have z2 : (strOfNums (beB m.count 4)).size ≤ 4 := by
    first
    | (rw [nums_size, beB_length]; done)
    | (rw [nums_size, beB_length]; omega)
    | (rw [nums_size, beB_length]; exact Nat.le_refl _)
    | (rw [nums_size]; exact Nat.le_refl _)
  have HP1 := Lib.hid (fun W => rput_any W m.c hn)
  have HP2 := Lib.hid (fun W => u32r_any W m.count h.ok.count.1 h.ok.count.2)
  have HK := Lib.hid hk
  clear hs hc HFIN
  generalize strOfNums [8] = a0 at *
  generalize strOfNums m.c.nums = a1 at *
  generalize strOfNums (beB m.count 4) = a2 at *
  have hadd0 := fun W => run_string_add_sum (P := Tryd.prog) (w := W) (a0) (a1) (by first | omega | (simp only [ByteArray.size_append]; omega))
  have hadd1 := fun W => run_string_add_sum (P := Tryd.prog) (w := W) (a0 ++ a1) (a2) (by first | omega | (simp only [ByteArray.size_append]; omega))
  generalize (m.cells vw vs).toArray = cs at *
  go_enter Tryd.func8, Tryd.ntmps8
  go_wp2_with fail
  refine wp_load_box rfl rfl B0 Tryd.underlying32 (by rw [rmsg_info, hsz]) ?_
  go_wp2_with fail
  refine (HRC.out _ O0).mono ?_; rintro e w1 ⟨rfl, o1⟩
  have B1 := o1.has B0 (fun f => f)
  obtain ⟨f0, -, -, -, -, -, -, -, -, -, -, -, -, -, -, -, -, -⟩ := HF.out _ B1
  rw [HK.out] at f0
  go_wp2_with fail
  refine (HU0.out _).mono ?_; rintro e w2 ⟨rfl, o2⟩
  have B2 := o2.has B1 (fun f => f)
  have O2 := (O0.trans o1).trans o2
  clear f0
  obtain ⟨g0, -, -, -, g4, g5, g6, g7, g8, g9, -, -, -, -, -, -, -, -⟩ := HF.out _ B2
  rw [HK.out] at g0
  go_wp2_with fail
  have X0 : Only (fun _ => False) w2 w2.drew := (Only.refl _ _).drew
  go_region_held3 (fun W => W.cell? ⟨w.heap.size, 4, none⟩ = some (.int .i64 m.c.kind) ∧ W.cell? ⟨w.heap.size, 5, none⟩ = some (.int .i64 m.c.bits) ∧ W.cell? ⟨w.heap.size, 6, none⟩ = some (.int .i64 m.c.m) ∧ W.cell? ⟨w.heap.size, 7, none⟩ = some (.int .i64 m.c.k) ∧ W.cell? ⟨w.heap.size, 8, none⟩ = some (.int .i64 m.c.n) ∧ W.cell? ⟨w.heap.size, 9, none⟩ = some (.int .u32 m.count) ∧ Only (fun _ => False) w2 W)
    (first | exact ⟨Only.cell X2 g4 (fun f => f), Only.cell X2 g5 (fun f => f), Only.cell X2 g6 (fun f => f), Only.cell X2 g7 (fun f => f), Only.cell X2 g8 (fun f => f), Only.cell X2 g9 (fun f => f), X2⟩ | exact ⟨Only.cell X1 g4 (fun f => f), Only.cell X1 g5 (fun f => f), Only.cell X1 g6 (fun f => f), Only.cell X1 g7 (fun f => f), Only.cell X1 g8 (fun f => f), Only.cell X1 g9 (fun f => f), X1⟩ | exact ⟨Only.cell X0 g4 (fun f => f), Only.cell X0 g5 (fun f => f), Only.cell X0 g6 (fun f => f), Only.cell X0 g7 (fun f => f), Only.cell X0 g8 (fun f => f), Only.cell X0 g9 (fun f => f), X0⟩)
    (first
    | (go_at_call 20; refine (HP1.out _).mono ?_; rintro e wx1 ⟨rfl, ox1⟩; have X1 := X0.trans ox1)
    | (go_at_call_of 19 (Value.int IntKind.u32 m.count); (with_reducible refine (HP2.out _).mono ?_); rintro e wx2 ⟨rfl, ox2⟩; have X2 := X1.trans ox2))
  rename_i hS
  have HO := Lib.hid (O2.trans hS.2.2.2.2.2.2)
  clear hS
  go_wp2_with fail
  go_ret2
  exact ⟨rfl, HO.out⟩
end Go.Proofs.YtbajgbjpaliecaaDoor
