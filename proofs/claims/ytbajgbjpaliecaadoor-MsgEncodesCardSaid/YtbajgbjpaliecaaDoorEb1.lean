/- The reference of layer 10: Encode, kind by kind. -/
import Derived.Test.YtbajgbjpaliecaaDoorEa
import Derived.Test.YtbajgbjpaliecaaDoorMe4
set_option linter.unusedSimpArgs false
set_option linter.unusedVariables false
namespace Go.Proofs.YtbajgbjpaliecaaDoor
open Go.RowKit Go.Lib

set_option maxRecDepth 100000 in
set_option maxHeartbeats 4000000 in
theorem rencode1 (w : World) (m : Mg) (vw vs : Value) (h : MgAt w m vw vs) (hs : m.Short) (hc : m.check = 0) (hk : m.kind = 1) : Calls Tryd.prog 8 #[.agg (m.cells vw vs).toArray] w fun e w' => e = .returned (.tuple #[.string (strOfNums (m.kind :: m.body)), .int .i64 0]) ∧ Only (fun _ => False) w w' := by
  have hn := nums_range (good_class (by omega) hc)
  have B0 := Has.new w 32 (m.cells vw vs).toArray
  have O0 := (Only.refl (fun _ => False) w).alloc (.cells (m.cells vw vs).toArray 32)
  have hsz : (m.cells vw vs).toArray.size = 82 := by simpa using Mg.cells_length h.ok vw vs
  have HF := Lib.hid (fun W (h2 : Has W w.heap.size 32 (m.cells vw vs).toArray) => mf_of h2 h.ok)
  have HRC := Lib.hid (fun W (o : Only (fun _ => False) w W) => rmcheck_any W m vw vs (h.only o) hs)
  rw [hc] at HRC
  have HU0 := Lib.hid (fun W => u8r_any W m.kind)
  rw [hk] at HU0
  have HFIN := Lib.hid (show strOfNums (m.kind :: m.body) = strOfNums [1] ++ strOfNums (beB m.batch 4) ++ strOfNums m.c.nums ++ strOfNums (beB m.count 4) ++ strOfNums (beB m.opened 4) by rw [hk, body1 hk, show ∀ l : List Int, (1 : Int) :: l = [1] ++ l from fun _ => rfl]; simp only [nums_app, nums_ofStr, wB, ByteArray.append_assoc])
  rw [HFIN.out]
  have z0 : (strOfNums [1]).size ≤ 1 := by rw [nums_size]; exact Nat.le_refl _
  have z1 : (strOfNums (beB m.batch 4)).size ≤ 4 := by
    first
    | (rw [nums_size, beB_length]; done)
    | (rw [nums_size, beB_length]; omega)
    | (rw [nums_size, beB_length]; exact Nat.le_refl _)
    | (rw [nums_size]; exact Nat.le_refl _)
  have z2 : (strOfNums m.c.nums).size ≤ 5 := by
    first
    | (rw [nums_size]; exact Nat.le_refl _; done)
    | (rw [nums_size]; exact Nat.le_refl _; omega)
    | (rw [nums_size]; exact Nat.le_refl _; exact Nat.le_refl _)
    | (rw [nums_size]; exact Nat.le_refl _)
  have z3 : (strOfNums (beB m.count 4)).size ≤ 4 := by
    first
    | (rw [nums_size, beB_length]; done)
    | (rw [nums_size, beB_length]; omega)
    | (rw [nums_size, beB_length]; exact Nat.le_refl _)
    | (rw [nums_size]; exact Nat.le_refl _)
  have z4 : (strOfNums (beB m.opened 4)).size ≤ 4 := by
    first
    | (rw [nums_size, beB_length]; done)
    | (rw [nums_size, beB_length]; omega)
    | (rw [nums_size, beB_length]; exact Nat.le_refl _)
    | (rw [nums_size]; exact Nat.le_refl _)
  have HP1 := Lib.hid (fun W => u32r_any W m.batch h.ok.batch.1 h.ok.batch.2)
  have HP2 := Lib.hid (fun W => rput_any W m.c hn)
  have HP3 := Lib.hid (fun W => u32r_any W m.count h.ok.count.1 h.ok.count.2)
  have HP4 := Lib.hid (fun W => u32r_any W m.opened h.ok.opened.1 h.ok.opened.2)
  have HK := Lib.hid hk
  clear hs hc HFIN
  generalize strOfNums [1] = a0 at *
  generalize strOfNums (beB m.batch 4) = a1 at *
  generalize strOfNums m.c.nums = a2 at *
  generalize strOfNums (beB m.count 4) = a3 at *
  generalize strOfNums (beB m.opened 4) = a4 at *
  have hadd0 := fun W => run_string_add_sum (P := Tryd.prog) (w := W) (a0) (a1) (by first | omega | (simp only [ByteArray.size_append]; omega))
  have hadd1 := fun W => run_string_add_sum (P := Tryd.prog) (w := W) (a0 ++ a1) (a2) (by first | omega | (simp only [ByteArray.size_append]; omega))
  have hadd2 := fun W => run_string_add_sum (P := Tryd.prog) (w := W) (a0 ++ a1 ++ a2) (a3) (by first | omega | (simp only [ByteArray.size_append]; omega))
  have hadd3 := fun W => run_string_add_sum (P := Tryd.prog) (w := W) (a0 ++ a1 ++ a2 ++ a3) (a4) (by first | omega | (simp only [ByteArray.size_append]; omega))
  generalize (m.cells vw vs).toArray = cs at *
  go_enter Tryd.func8, Tryd.ntmps8
  go_wp2_with fail
  refine wp_load_box rfl rfl B0 Tryd.underlying32 (by rw [rmsg_info, hsz]) ?_
  go_wp2_with fail
  refine (HRC.out _ O0).mono ?_; rintro e w1 ⟨rfl, o1⟩
  have B1 := o1.has B0 (fun f => f)
  obtain ⟨f0, -, -, -, -, -, -, -, -, -, -, -, -, -, -, -, -, -⟩ := HF.out _ B1
  rw [HK.out] at f0
  go_wp2_with fail
  refine (HU0.out _).mono ?_; rintro e w2 ⟨rfl, o2⟩
  have B2 := o2.has B1 (fun f => f)
  have O2 := (O0.trans o1).trans o2
  clear f0
  obtain ⟨g0, g1, -, -, g4, g5, g6, g7, g8, g9, g10, -, -, -, -, -, -, -⟩ := HF.out _ B2
  rw [HK.out] at g0
  go_wp2_with fail
  have X0 : Only (fun _ => False) w2 w2.drew := (Only.refl _ _).drew
  go_region_held3 (fun W => W.cell? ⟨w.heap.size, 1, none⟩ = some (.int .u32 m.batch) ∧ W.cell? ⟨w.heap.size, 4, none⟩ = some (.int .i64 m.c.kind) ∧ W.cell? ⟨w.heap.size, 5, none⟩ = some (.int .i64 m.c.bits) ∧ W.cell? ⟨w.heap.size, 6, none⟩ = some (.int .i64 m.c.m) ∧ W.cell? ⟨w.heap.size, 7, none⟩ = some (.int .i64 m.c.k) ∧ W.cell? ⟨w.heap.size, 8, none⟩ = some (.int .i64 m.c.n) ∧ W.cell? ⟨w.heap.size, 9, none⟩ = some (.int .u32 m.count) ∧ W.cell? ⟨w.heap.size, 10, none⟩ = some (.int .u32 m.opened) ∧ Only (fun _ => False) w2 W)
    (first | exact ⟨Only.cell X4 g1 (fun f => f), Only.cell X4 g4 (fun f => f), Only.cell X4 g5 (fun f => f), Only.cell X4 g6 (fun f => f), Only.cell X4 g7 (fun f => f), Only.cell X4 g8 (fun f => f), Only.cell X4 g9 (fun f => f), Only.cell X4 g10 (fun f => f), X4⟩ | exact ⟨Only.cell X3 g1 (fun f => f), Only.cell X3 g4 (fun f => f), Only.cell X3 g5 (fun f => f), Only.cell X3 g6 (fun f => f), Only.cell X3 g7 (fun f => f), Only.cell X3 g8 (fun f => f), Only.cell X3 g9 (fun f => f), Only.cell X3 g10 (fun f => f), X3⟩ | exact ⟨Only.cell X2 g1 (fun f => f), Only.cell X2 g4 (fun f => f), Only.cell X2 g5 (fun f => f), Only.cell X2 g6 (fun f => f), Only.cell X2 g7 (fun f => f), Only.cell X2 g8 (fun f => f), Only.cell X2 g9 (fun f => f), Only.cell X2 g10 (fun f => f), X2⟩ | exact ⟨Only.cell X1 g1 (fun f => f), Only.cell X1 g4 (fun f => f), Only.cell X1 g5 (fun f => f), Only.cell X1 g6 (fun f => f), Only.cell X1 g7 (fun f => f), Only.cell X1 g8 (fun f => f), Only.cell X1 g9 (fun f => f), Only.cell X1 g10 (fun f => f), X1⟩ | exact ⟨Only.cell X0 g1 (fun f => f), Only.cell X0 g4 (fun f => f), Only.cell X0 g5 (fun f => f), Only.cell X0 g6 (fun f => f), Only.cell X0 g7 (fun f => f), Only.cell X0 g8 (fun f => f), Only.cell X0 g9 (fun f => f), Only.cell X0 g10 (fun f => f), X0⟩)
    (first
    | (go_at_call_of 19 (Value.int IntKind.u32 m.batch); (with_reducible refine (HP1.out _).mono ?_); rintro e wx1 ⟨rfl, ox1⟩; have X1 := X0.trans ox1)
    | (go_at_call 20; refine (HP2.out _).mono ?_; rintro e wx2 ⟨rfl, ox2⟩; have X2 := X1.trans ox2)
    | (go_at_call_of 19 (Value.int IntKind.u32 m.count); (with_reducible refine (HP3.out _).mono ?_); rintro e wx3 ⟨rfl, ox3⟩; have X3 := X2.trans ox3)
    | (go_at_call_of 19 (Value.int IntKind.u32 m.opened); (with_reducible refine (HP4.out _).mono ?_); rintro e wx4 ⟨rfl, ox4⟩; have X4 := X3.trans ox4))
  rename_i hS
  have HO := Lib.hid (O2.trans hS.2.2.2.2.2.2.2.2)
  clear hS
  go_wp2_with fail
  go_ret2
  exact ⟨rfl, HO.out⟩
set_option maxRecDepth 100000 in
set_option maxHeartbeats 4000000 in
theorem rencode2 (w : World) (m : Mg) (vw vs : Value) (h : MgAt w m vw vs) (hs : m.Short) (hc : m.check = 0) (hk : m.kind = 2) : Calls Tryd.prog 8 #[.agg (m.cells vw vs).toArray] w fun e w' => e = .returned (.tuple #[.string (strOfNums (m.kind :: m.body)), .int .i64 0]) ∧ Only (fun _ => False) w w' := by
  obtain ⟨q1, q2, q3⟩ := good2 hk hc
  have B0 := Has.new w 32 (m.cells vw vs).toArray
  have O0 := (Only.refl (fun _ => False) w).alloc (.cells (m.cells vw vs).toArray 32)
  have hsz : (m.cells vw vs).toArray.size = 82 := by simpa using Mg.cells_length h.ok vw vs
  have HF := Lib.hid (fun W (h2 : Has W w.heap.size 32 (m.cells vw vs).toArray) => mf_of h2 h.ok)
  have HRC := Lib.hid (fun W (o : Only (fun _ => False) w W) => rmcheck_any W m vw vs (h.only o) hs)
  rw [hc] at HRC
  have HU0 := Lib.hid (fun W => u8r_any W m.kind)
  rw [hk] at HU0
  have HFIN := Lib.hid (show strOfNums (m.kind :: m.body) = strOfNums [2] ++ strOfNums (beB m.batch 4) ++ strOfNums (beB m.chunk 4) ++ strOfNums (beB m.from_ 8) ++ strOfNums (beB m.count 4) ++ m.data by rw [hk, body2 hk, show ∀ l : List Int, (2 : Int) :: l = [2] ++ l from fun _ => rfl]; simp only [nums_app, nums_ofStr, wB, ByteArray.append_assoc])
  rw [HFIN.out]
  have z0 : (strOfNums [2]).size ≤ 1 := by rw [nums_size]; exact Nat.le_refl _
  have z1 : (strOfNums (beB m.batch 4)).size ≤ 4 := by
    first
    | (rw [nums_size, beB_length]; done)
    | (rw [nums_size, beB_length]; omega)
    | (rw [nums_size, beB_length]; exact Nat.le_refl _)
    | (rw [nums_size]; exact Nat.le_refl _)
  have z2 : (strOfNums (beB m.chunk 4)).size ≤ 4 := by
    first
    | (rw [nums_size, beB_length]; done)
    | (rw [nums_size, beB_length]; omega)
    | (rw [nums_size, beB_length]; exact Nat.le_refl _)
    | (rw [nums_size]; exact Nat.le_refl _)
  have z3 : (strOfNums (beB m.from_ 8)).size ≤ 8 := by
    first
    | (rw [nums_size, beB_length]; done)
    | (rw [nums_size, beB_length]; omega)
    | (rw [nums_size, beB_length]; exact Nat.le_refl _)
    | (rw [nums_size]; exact Nat.le_refl _)
  have z4 : (strOfNums (beB m.count 4)).size ≤ 4 := by
    first
    | (rw [nums_size, beB_length]; done)
    | (rw [nums_size, beB_length]; omega)
    | (rw [nums_size, beB_length]; exact Nat.le_refl _)
    | (rw [nums_size]; exact Nat.le_refl _)
  have z5 : m.data.size ≤ 8192 := q3
  have HP1 := Lib.hid (fun W => u32r_any W m.batch h.ok.batch.1 h.ok.batch.2)
  have HP2 := Lib.hid (fun W => u32r_any W m.chunk h.ok.chunk.1 h.ok.chunk.2)
  have HP3 := Lib.hid (fun W => fixedB W m.from_ 8 h.ok.from_.1 h.ok.from_.2 (by omega))
  have HP4 := Lib.hid (fun W => u32r_any W m.count h.ok.count.1 h.ok.count.2)
  have HK := Lib.hid hk
  clear hs hc HFIN
  generalize strOfNums [2] = a0 at *
  generalize strOfNums (beB m.batch 4) = a1 at *
  generalize strOfNums (beB m.chunk 4) = a2 at *
  generalize strOfNums (beB m.from_ 8) = a3 at *
  generalize strOfNums (beB m.count 4) = a4 at *
  have hadd0 := fun W => run_string_add_sum (P := Tryd.prog) (w := W) (a0) (a1) (by first | omega | (simp only [ByteArray.size_append]; omega))
  have hadd1 := fun W => run_string_add_sum (P := Tryd.prog) (w := W) (a0 ++ a1) (a2) (by first | omega | (simp only [ByteArray.size_append]; omega))
  have hadd2 := fun W => run_string_add_sum (P := Tryd.prog) (w := W) (a0 ++ a1 ++ a2) (a3) (by first | omega | (simp only [ByteArray.size_append]; omega))
  have hadd3 := fun W => run_string_add_sum (P := Tryd.prog) (w := W) (a0 ++ a1 ++ a2 ++ a3) (a4) (by first | omega | (simp only [ByteArray.size_append]; omega))
  have hadd4 := fun W => run_string_add_sum (P := Tryd.prog) (w := W) (a0 ++ a1 ++ a2 ++ a3 ++ a4) (m.data) (by first | omega | (simp only [ByteArray.size_append]; omega))
  generalize (m.cells vw vs).toArray = cs at *
  go_enter Tryd.func8, Tryd.ntmps8
  go_wp2_with fail
  refine wp_load_box rfl rfl B0 Tryd.underlying32 (by rw [rmsg_info, hsz]) ?_
  go_wp2_with fail
  refine (HRC.out _ O0).mono ?_; rintro e w1 ⟨rfl, o1⟩
  have B1 := o1.has B0 (fun f => f)
  obtain ⟨f0, -, -, -, -, -, -, -, -, -, -, -, -, -, -, -, -, -⟩ := HF.out _ B1
  rw [HK.out] at f0
  go_wp2_with fail
  refine (HU0.out _).mono ?_; rintro e w2 ⟨rfl, o2⟩
  have B2 := o2.has B1 (fun f => f)
  have O2 := (O0.trans o1).trans o2
  clear f0
  obtain ⟨g0, g1, g2, g3, -, -, -, -, -, g9, -, -, -, -, g14, -, -, -⟩ := HF.out _ B2
  rw [HK.out] at g0
  go_wp2_with fail
  have X0 : Only (fun _ => False) w2 w2.drew := (Only.refl _ _).drew
  go_region_held3 (fun W => W.cell? ⟨w.heap.size, 1, none⟩ = some (.int .u32 m.batch) ∧ W.cell? ⟨w.heap.size, 2, none⟩ = some (.int .u32 m.chunk) ∧ W.cell? ⟨w.heap.size, 3, none⟩ = some (.int .u64 m.from_) ∧ W.cell? ⟨w.heap.size, 9, none⟩ = some (.int .u32 m.count) ∧ W.cell? ⟨w.heap.size, 14, none⟩ = some (.string m.data) ∧ Only (fun _ => False) w2 W)
    (first | exact ⟨Only.cell X4 g1 (fun f => f), Only.cell X4 g2 (fun f => f), Only.cell X4 g3 (fun f => f), Only.cell X4 g9 (fun f => f), Only.cell X4 g14 (fun f => f), X4⟩ | exact ⟨Only.cell X3 g1 (fun f => f), Only.cell X3 g2 (fun f => f), Only.cell X3 g3 (fun f => f), Only.cell X3 g9 (fun f => f), Only.cell X3 g14 (fun f => f), X3⟩ | exact ⟨Only.cell X2 g1 (fun f => f), Only.cell X2 g2 (fun f => f), Only.cell X2 g3 (fun f => f), Only.cell X2 g9 (fun f => f), Only.cell X2 g14 (fun f => f), X2⟩ | exact ⟨Only.cell X1 g1 (fun f => f), Only.cell X1 g2 (fun f => f), Only.cell X1 g3 (fun f => f), Only.cell X1 g9 (fun f => f), Only.cell X1 g14 (fun f => f), X1⟩ | exact ⟨Only.cell X0 g1 (fun f => f), Only.cell X0 g2 (fun f => f), Only.cell X0 g3 (fun f => f), Only.cell X0 g9 (fun f => f), Only.cell X0 g14 (fun f => f), X0⟩)
    (first
    | (go_at_call_of 19 (Value.int IntKind.u32 m.batch); (with_reducible refine (HP1.out _).mono ?_); rintro e wx1 ⟨rfl, ox1⟩; have X1 := X0.trans ox1)
    | (go_at_call_of 19 (Value.int IntKind.u32 m.chunk); (with_reducible refine (HP2.out _).mono ?_); rintro e wx2 ⟨rfl, ox2⟩; have X2 := X1.trans ox2)
    | (go_at_call 21; refine (HP3.out _).mono ?_; rintro e wx3 ⟨rfl, ox3⟩; have X3 := X2.trans ox3)
    | (go_at_call_of 19 (Value.int IntKind.u32 m.count); (with_reducible refine (HP4.out _).mono ?_); rintro e wx4 ⟨rfl, ox4⟩; have X4 := X3.trans ox4))
  rename_i hS
  have HO := Lib.hid (O2.trans hS.2.2.2.2.2)
  clear hS
  go_wp2_with fail
  go_ret2
  exact ⟨rfl, HO.out⟩
set_option maxRecDepth 100000 in
set_option maxHeartbeats 4000000 in
theorem rencode3 (w : World) (m : Mg) (vw vs : Value) (h : MgAt w m vw vs) (hs : m.Short) (hc : m.check = 0) (hk : m.kind = 3) : Calls Tryd.prog 8 #[.agg (m.cells vw vs).toArray] w fun e w' => e = .returned (.tuple #[.string (strOfNums (m.kind :: m.body)), .int .i64 0]) ∧ Only (fun _ => False) w w' := by
  obtain ⟨q1, q2, q3⟩ := good3 hk hc
  have B0 := Has.new w 32 (m.cells vw vs).toArray
  have O0 := (Only.refl (fun _ => False) w).alloc (.cells (m.cells vw vs).toArray 32)
  have hsz : (m.cells vw vs).toArray.size = 82 := by simpa using Mg.cells_length h.ok vw vs
  have HF := Lib.hid (fun W (h2 : Has W w.heap.size 32 (m.cells vw vs).toArray) => mf_of h2 h.ok)
  have HRC := Lib.hid (fun W (o : Only (fun _ => False) w W) => rmcheck_any W m vw vs (h.only o) hs)
  rw [hc] at HRC
  have HU0 := Lib.hid (fun W => u8r_any W m.kind)
  rw [hk] at HU0
  have HFIN := Lib.hid (show strOfNums (m.kind :: m.body) = strOfNums [3] ++ strOfNums (beB m.batch 4) ++ strOfNums (beB m.chunk 4) ++ strOfNums [m.width] ++ strOfNums (wB m.width m.words) by rw [hk, body3 hk, show ∀ l : List Int, (3 : Int) :: l = [3] ++ l from fun _ => rfl]; simp only [nums_app, nums_ofStr, wB, ByteArray.append_assoc])
  rw [HFIN.out]
  have z0 : (strOfNums [3]).size ≤ 1 := by rw [nums_size]; exact Nat.le_refl _
  have z1 : (strOfNums (beB m.batch 4)).size ≤ 4 := by
    first
    | (rw [nums_size, beB_length]; done)
    | (rw [nums_size, beB_length]; omega)
    | (rw [nums_size, beB_length]; exact Nat.le_refl _)
    | (rw [nums_size]; exact Nat.le_refl _)
  have z2 : (strOfNums (beB m.chunk 4)).size ≤ 4 := by
    first
    | (rw [nums_size, beB_length]; done)
    | (rw [nums_size, beB_length]; omega)
    | (rw [nums_size, beB_length]; exact Nat.le_refl _)
    | (rw [nums_size]; exact Nat.le_refl _)
  have z3 : (strOfNums [m.width]).size ≤ 1 := by
    first
    | (rw [nums_size]; exact Nat.le_refl _; done)
    | (rw [nums_size]; exact Nat.le_refl _; omega)
    | (rw [nums_size]; exact Nat.le_refl _; exact Nat.le_refl _)
    | (rw [nums_size]; exact Nat.le_refl _)
  have z4 : (strOfNums (wB m.width m.words)).size ≤ 30000 := by
    first
    | (rw [nums_size]; unfold wB; rw [List.length_append, beB_length, wordsB_length]; have : m.words.length * ((m.width + 7) / 8).toNat ≤ 3072 * 8 := Nat.mul_le_mul q3 (by omega); omega; done)
    | (rw [nums_size]; unfold wB; rw [List.length_append, beB_length, wordsB_length]; have : m.words.length * ((m.width + 7) / 8).toNat ≤ 3072 * 8 := Nat.mul_le_mul q3 (by omega); omega; omega)
    | (rw [nums_size]; unfold wB; rw [List.length_append, beB_length, wordsB_length]; have : m.words.length * ((m.width + 7) / 8).toNat ≤ 3072 * 8 := Nat.mul_le_mul q3 (by omega); omega; exact Nat.le_refl _)
    | (rw [nums_size]; exact Nat.le_refl _)
  have HP1 := Lib.hid (fun W => u32r_any W m.batch h.ok.batch.1 h.ok.batch.2)
  have HP2 := Lib.hid (fun W => u32r_any W m.chunk h.ok.chunk.1 h.ok.chunk.2)
  have HP3 := Lib.hid (fun W => u8r_any W m.width)
  have HP4 := Lib.hid (fun W (o : Only (fun _ => False) w W) => rwords_any W m.width _ m.words (h.words.only o) h.ok.words q1 q2 (by omega))
  obtain ⟨Aw, cw, rfl, -⟩ := h.words
  have hwi : IntKind.i64.wrap m.width = m.width := by rw [IntKind.wrap_i64]; omega
  have HK := Lib.hid hk
  clear hs hc HFIN
  generalize strOfNums [3] = a0 at *
  generalize strOfNums (beB m.batch 4) = a1 at *
  generalize strOfNums (beB m.chunk 4) = a2 at *
  generalize strOfNums [m.width] = a3 at *
  generalize strOfNums (wB m.width m.words) = a4 at *
  have hadd0 := fun W => run_string_add_sum (P := Tryd.prog) (w := W) (a0) (a1) (by first | omega | (simp only [ByteArray.size_append]; omega))
  have hadd1 := fun W => run_string_add_sum (P := Tryd.prog) (w := W) (a0 ++ a1) (a2) (by first | omega | (simp only [ByteArray.size_append]; omega))
  have hadd2 := fun W => run_string_add_sum (P := Tryd.prog) (w := W) (a0 ++ a1 ++ a2) (a3) (by first | omega | (simp only [ByteArray.size_append]; omega))
  have hadd3 := fun W => run_string_add_sum (P := Tryd.prog) (w := W) (a0 ++ a1 ++ a2 ++ a3) (a4) (by first | omega | (simp only [ByteArray.size_append]; omega))
  generalize (m.cells (.slice Aw m.words.length cw) vs).toArray = cs at *
  go_enter Tryd.func8, Tryd.ntmps8
  go_wp2_with fail
  refine wp_load_box rfl rfl B0 Tryd.underlying32 (by rw [rmsg_info, hsz]) ?_
  go_wp2_with fail
  refine (HRC.out _ O0).mono ?_; rintro e w1 ⟨rfl, o1⟩
  have B1 := o1.has B0 (fun f => f)
  obtain ⟨f0, -, -, -, -, -, -, -, -, -, -, -, -, -, -, -, -, -⟩ := HF.out _ B1
  rw [HK.out] at f0
  go_wp2_with fail
  refine (HU0.out _).mono ?_; rintro e w2 ⟨rfl, o2⟩
  have B2 := o2.has B1 (fun f => f)
  have O2 := (O0.trans o1).trans o2
  clear f0
  obtain ⟨g0, g1, g2, -, -, -, -, -, -, -, -, -, -, -, -, g15, g16, -⟩ := HF.out _ B2
  rw [HK.out] at g0
  go_wp2_with fail
  have X0 : Only (fun _ => False) w2 w2.drew := (Only.refl _ _).drew
  go_region_held3 (fun W => W.cell? ⟨w.heap.size, 1, none⟩ = some (.int .u32 m.batch) ∧ W.cell? ⟨w.heap.size, 2, none⟩ = some (.int .u32 m.chunk) ∧ W.cell? ⟨w.heap.size, 15, none⟩ = some (.int .u8 m.width) ∧ W.cell? ⟨w.heap.size, 16, none⟩ = some (.slice Aw m.words.length cw) ∧ Only (fun _ => False) w2 W)
    (first | exact ⟨Only.cell X4 g1 (fun f => f), Only.cell X4 g2 (fun f => f), Only.cell X4 g15 (fun f => f), Only.cell X4 g16 (fun f => f), X4⟩ | exact ⟨Only.cell X3 g1 (fun f => f), Only.cell X3 g2 (fun f => f), Only.cell X3 g15 (fun f => f), Only.cell X3 g16 (fun f => f), X3⟩ | exact ⟨Only.cell X2 g1 (fun f => f), Only.cell X2 g2 (fun f => f), Only.cell X2 g15 (fun f => f), Only.cell X2 g16 (fun f => f), X2⟩ | exact ⟨Only.cell X1 g1 (fun f => f), Only.cell X1 g2 (fun f => f), Only.cell X1 g15 (fun f => f), Only.cell X1 g16 (fun f => f), X1⟩ | exact ⟨Only.cell X0 g1 (fun f => f), Only.cell X0 g2 (fun f => f), Only.cell X0 g15 (fun f => f), Only.cell X0 g16 (fun f => f), X0⟩)
    (first
    | (go_at_call_of 19 (Value.int IntKind.u32 m.batch); (with_reducible refine (HP1.out _).mono ?_); rintro e wx1 ⟨rfl, ox1⟩; have X1 := X0.trans ox1)
    | (go_at_call_of 19 (Value.int IntKind.u32 m.chunk); (with_reducible refine (HP2.out _).mono ?_); rintro e wx2 ⟨rfl, ox2⟩; have X2 := X1.trans ox2)
    | (go_at_call 18; (with_reducible refine (HP3.out _).mono ?_); rintro e wx3 ⟨rfl, ox3⟩; have X3 := X2.trans ox3)
    | (go_at_call 22; (with_reducible refine (HP4.out _ (Only.trans O2 X3)).mono ?_); rintro e wx4 ⟨rfl, ox4⟩; have X4 := X3.trans ox4))
  rename_i hS
  have HO := Lib.hid (O2.trans hS.2.2.2.2)
  clear hS
  go_wp2_with fail
  go_ret2
  exact ⟨rfl, HO.out⟩
end Go.Proofs.YtbajgbjpaliecaaDoor
