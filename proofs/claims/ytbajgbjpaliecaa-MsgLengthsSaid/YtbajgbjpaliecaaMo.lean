/- Layer 10: the law's Of. -/
import Derived.Test.YtbajgbjpaliecaaMk
set_option linter.unusedSimpArgs false
set_option linter.unusedVariables false
namespace Go.Proofs.Ytbajgbjpaliecaa
open Go.RowKit

theorem exp32 {l : List Int} (h : l.length = 32) : ∃ d0 d1 d2 d3 d4 d5 d6 d7 d8 d9 d10 d11 d12 d13 d14 d15 d16 d17 d18 d19 d20 d21 d22 d23 d24 d25 d26 d27 d28 d29 d30 d31, l = [d0, d1, d2, d3, d4, d5, d6, d7, d8, d9, d10, d11, d12, d13, d14, d15, d16, d17, d18, d19, d20, d21, d22, d23, d24, d25, d26, d27, d28, d29, d30, d31] := by
  match l, h with
  | [d0, d1, d2, d3, d4, d5, d6, d7, d8, d9, d10, d11, d12, d13, d14, d15, d16, d17, d18, d19, d20, d21, d22, d23, d24, d25, d26, d27, d28, d29, d30, d31], _ => exact ⟨_, _, _, _, _, _, _, _, _, _, _, _, _, _, _, _, _, _, _, _, _, _, _, _, _, _, _, _, _, _, _, _, rfl⟩
theorem Has.range {W : World} {b : Nat} {t : TypeId} {cs : Array Value} (h : Has W b t cs) (o : Nat) (l : List Value) (hl : ∀ j v, l[j]? = some v → cs[o + j]? = some v) : W.rangeAt b o l := fun j v hv => by
  rw [h.cell]
  exact hl j v hv
theorem Has.there {W : World} {b : Nat} {t : TypeId} {cs : Array Value} (h : Has W b t cs) (n : Nat) (hn : cs.size = n) : W.there b 0 n := fun j hj => ⟨by rw [Nat.zero_add, h.cell, Array.getElem?_eq_getElem (by omega)]; rfl, by rw [Nat.zero_add]; exact h.free j⟩
theorem Only.setCells {S : Nat → Prop} {a : World} (b : Nat) (hb : b < a.heap.size → S b) : ∀ (l : List Value) (o : Nat) {w : World}, Only S a w → Only S a (w.setCells b o l)
  | [], _, _, h => h
  | v :: r, o, w, h => Only.setCells b hb r (o + 1) (h.setCell ⟨b, o, none⟩ v hb)
theorem one_cells {m : Mg} (ok : m.Ok) (vw vs : Value) (h : vw.oneCell' = true ∧ vs.oneCell' = true) : (m.cells vw vs).toArray.all (·.oneCell') = true := by
  apply all_oneCell_toArray
  intro v hv
  simp only [Mg.cells, Mg.head, u8s, List.mem_cons, List.mem_append, List.mem_map, List.not_mem_nil, or_false] at hv
  rcases hv with rfl | rfl | rfl | rfl | rfl | rfl | rfl | rfl | rfl | rfl | rfl | rfl | rfl | rfl | rfl | rfl | rfl | ⟨x, _, rfl⟩ | ⟨x, _, rfl⟩ | rfl
  all_goals first | rfl | exact h.1 | exact h.2
theorem results_cellv {P : Program} {fn : Func} {p : Tmp} {ty : TypeId} (h : fn.results = #[.cell p ty]) {tmps : Array Value} {w : World} {b : Addr} {v : Value} (h2 : tmps.getD p undef = .pointer (some b)) (hl : (loadVar ty b).run P w = .ok v w) : (results fn tmps).run P w = .ok v w := by
  unfold results
  rw [h]
  simp only [Array.getD_eq_getD_getElem?] at h2
  simp [Sem.run_bind, h2, asAddr, hl]
theorem res_of {W : World} {b : Nat} {cs : Array Value} {tm : Array Value} (h : W.rangeAt b 0 cs.toList) (hl : cs.toList.length = 82) (h2 : tm.getD 2 undef = .pointer (some ⟨b, 0, none⟩)) : (results Try.f9 tm).run Try.prog W = .ok (.agg cs) W :=
  results_cellv Try.results9 h2 (run_loadVar_mid (P := Try.prog) W b 0 39 cs.toList _ h Try.underlying39 rfl (by rw [msg_info, hl]))
theorem wp_build {P : Program} {op : Oper} {a : Act} {w : World} {K : Act → World → Prop} {Q : Exit → Act → World → Prop} (t : TypeId) (parts : List (Nat × Operand)) (ho : op.op = .build t parts.toArray) (cells : Array Value) (h : P.built t (parts.map fun x => (x.1, a.eval x.2)) = some cells) (hK : K (a.put op.dst (.agg cells)) w) : op.wp P a w K Q := by
  unfold Oper.wp execOp
  have h2 : P.built t (Array.map (fun x => (x.fst, a.eval x.snd)) parts.toArray).toList = some cells := by simpa using h
  simp only [ho, Sem.run_bind, run_build w t _ cells h2, Result.andThen_ok, Sem.run_pure]
  exact hK
theorem cells_mid {m : Mg} (ok : m.Ok) (vw vs : Value) : (∀ (j : Nat) v, (u8s m.dig)[j]? = some v → (m.cells vw vs).toArray[17 + j]? = some v) ∧ (∀ (j : Nat) v, (u8s m.seed)[j]? = some v → (m.cells vw vs).toArray[49 + j]? = some v) := by
  have h1 : (u8s m.dig).length = 32 := by simp [u8s, ok.dig]
  have h2 : (u8s m.seed).length = 32 := by simp [u8s, ok.seed]
  have e : ∀ j, (m.cells vw vs).toArray[17 + j]? = (u8s m.dig ++ (u8s m.seed ++ [vs]))[j]? := by
    intro j
    rw [List.getElem?_toArray, Nat.add_comm]
    rfl
  constructor
  · intro j v hj
    have := (List.getElem?_eq_some_iff.1 hj).1
    rw [e, List.getElem?_append_left this, hj]
  · intro j v hj
    have := (List.getElem?_eq_some_iff.1 hj).1
    rw [show 49 + j = 17 + (32 + j) by omega, e, List.getElem?_append_right (by omega), h1, Nat.add_sub_cancel_left, List.getElem?_append_left this, hj]
theorem wpList_build {P : Program} {ops : Array Oper} {rest : List Oper} {op : Oper} {a : Act} {w : World} {Q : Exit → Act → World → Prop} (hgd : op.guard = none) (t : TypeId) (parts : List (Nat × Operand)) (ho : op.op = .build t parts.toArray) (cells : Array Value) (h : P.built t (parts.map fun x => (x.1, a.eval x.2)) = some cells)
    (hK : wpList P ops Q rest (a.put op.dst (.agg cells)) w) : wpList P ops Q (op :: rest) a w :=
  wpList_plain hgd fun _ hK2 => wp_build t parts ho cells h (hK2 _ _ hK)
set_option maxRecDepth 100000 in
set_option maxHeartbeats 4000000 in
theorem built_msg (m : Mg) (A B : Option Addr) (n k c e : Nat) (ok : m.Ok) : Try.prog.built 39 [(0, .int .i64 m.kind), (1, .int .u32 m.batch), (2, .int .u32 m.chunk), (3, .int .u64 m.from_), (4, .agg #[.int .i64 m.c.kind, .int .i64 m.c.bits, .int .i64 m.c.m, .int .i64 m.c.k, .int .i64 m.c.n]), (5, .int .u32 m.count), (6, .int .u32 m.opened), (7, .int .u32 m.first), (8, .int .u32 m.ticket), (9, .int .u8 m.code), (10, .string m.data), (11, .int .u8 m.width), (12, .slice A n c), (13, .agg (u8s m.dig).toArray), (14, .agg (u8s m.seed).toArray), (15, .slice B k e)] = some (m.cells (.slice A n c) (.slice B k e)).toArray := by
  obtain ⟨d0, d1, d2, d3, d4, d5, d6, d7, d8, d9, d10, d11, d12, d13, d14, d15, d16, d17, d18, d19, d20, d21, d22, d23, d24, d25, d26, d27, d28, d29, d30, d31, hd⟩ := exp32 ok.dig
  obtain ⟨s0, s1, s2, s3, s4, s5, s6, s7, s8, s9, s10, s11, s12, s13, s14, s15, s16, s17, s18, s19, s20, s21, s22, s23, s24, s25, s26, s27, s28, s29, s30, s31, hs⟩ := exp32 ok.seed
  unfold Mg.cells
  rw [hd, hs]
  kernel_rfl
set_option maxRecDepth 100000 in
set_option maxHeartbeats 400000 in
theorem of_any (w : World) (m : Mg) (vw vs : Value) (h : MgAt w m vw vs) : Calls Try.prog 9 #[.agg (m.cells vw vs).toArray] w fun e w' => e = .returned (.agg (m.cells vw vs).toArray) ∧ Only (fun _ => False) w w' := by
  obtain ⟨A, c, rfl, -⟩ := h.words
  obtain ⟨B, e, rfl, -⟩ := h.shares
  have hsz : (m.cells (.slice A m.words.length c) (.slice B m.shares.length e)).toArray.size = 82 := by simpa using Mg.cells_length h.ok _ _
  generalize hW : ((w.alloc (.cells (m.cells (.slice A m.words.length c) (.slice B m.shares.length e)).toArray 32)).alloc (.cells Try.zeroCells39 39)) = W2
  have B0 : Has W2 w.heap.size 32 (m.cells (.slice A m.words.length c) (.slice B m.shares.length e)).toArray := by rw [← hW]; exact (Has.new _ _ _).alloc _
  have Z0 : Has W2 (w.heap.size + 1) 39 Try.zeroCells39 := by
    rw [← hW]
    have := Has.new (w.alloc (.cells (m.cells (.slice A m.words.length c) (.slice B m.shares.length e)).toArray 32)) 39 Try.zeroCells39
    rwa [show (w.alloc (.cells (m.cells (.slice A m.words.length c) (.slice B m.shares.length e)).toArray 32)).heap.size = w.heap.size + 1 by simp] at this
  have O0 : Only (fun _ => False) w W2 := by rw [← hW]; exact ((Only.refl _ _).alloc _).alloc _
  have HW := Lib.hid hW
  clear hW
  obtain ⟨f0, f1, f2, f3, f4, f5, f6, f7, f8, f9, f10, f11, f12, f13, f14, f15, f16, f81⟩ := mf_of B0 h.ok
  have HG := Lib.hid (cells_mid h.ok (.slice A m.words.length c) (.slice B m.shares.length e))
  have HBB := Lib.hid (built_msg m A B m.words.length m.shares.length c e h.ok)
  have HONE := Lib.hid (one_cells h.ok (.slice A m.words.length c) (.slice B m.shares.length e) ⟨rfl, rfl⟩)
  have HSZ := Lib.hid hsz
  generalize (m.cells (.slice A m.words.length c) (.slice B m.shares.length e)).toArray = cs at *
  go_enter Try.func9, Try.ntmps9
  have hz82 : Try.zeroCells39.size = 82 := by kernel_rfl
  have r1 := B0.range 17 (u8s m.dig) (HG.out.1)
  have r2 := B0.range 49 (u8s m.seed) (HG.out.2)
  have l1 : (u8s m.dig).length = 32 := by simp [u8s, h.ok.dig]
  have l2 : (u8s m.seed).length = 32 := by simp [u8s, h.ok.seed]
  have HL1 := Lib.hid l1
  have HL2 := Lib.hid l2
  have HTH := Lib.hid (Z0.there 82 hz82)
  have HB := Lib.hid (show Try.prog.built 39 _ = some cs from HBB.out)
  clear l1 l2 hz82 Z0 HBB
  go_upto_region 1 with fail
  rw [HW.out]
  refine wp_region_lit ?_
  iterate 78 go_step
  iterate 3 go_step
  refine wpList_load_mid rfl 28 _ rfl w.heap.size 17 rfl (u8s m.dig) _ r1 Try.underlying28 rfl (by rw [HL1.out]; kernel_rfl) ?_
  iterate 3 go_step
  refine wpList_load_mid rfl 29 _ rfl w.heap.size 49 rfl (u8s m.seed) _ r2 Try.underlying29 rfl (by rw [HL2.out]; kernel_rfl) ?_
  iterate 6 go_step
  refine wpList_build rfl 39 _ rfl cs ?_ ?_
  · exact HB.out
  refine wpList_store_mid rfl 39 _ _ rfl (w.heap.size + 1) 0 cs rfl rfl (by rw [HSZ.out]; exact HTH.out) (by rw [HSZ.out]; exact msg_info) HONE.out ?_
  iterate 3 go_step
  have hT := HTH.out
  have hl82 : cs.toList.length = 82 := by rw [Array.length_toList]; exact HSZ.out
  have hr := World.rangeAt_setCells_same W2 (w.heap.size + 1) 0 cs.toList (by rw [hl82]; exact hT)
  have ho := Only.setCells (S := fun _ => False) (a := w) (w.heap.size + 1) (fun h => by omega) cs.toList 0 O0
  apply wp_ret
  exact bodyPost_ret (v := .agg cs) (res_of hr hl82 rfl) rfl ⟨rfl, ho⟩
end Go.Proofs.Ytbajgbjpaliecaa
