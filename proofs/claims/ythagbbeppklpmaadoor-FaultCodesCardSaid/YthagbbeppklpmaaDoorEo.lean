/- Chapter 1: the reference's Count; small. -/
import Derived.Test.YthagbbeppklpmaaDoorEn
import Derived.Test.YthagbbeppklpmaaDoorEg
import Derived.Deep.DeepCutAuto
import Derived.Deep.CutBlock
set_option linter.unusedSimpArgs false
set_option linter.unusedVariables false
namespace Go.Proofs.YthagbbeppklpmaaDoor
open Go.RowKit

theorem icells_snoc (l : List Int) (x : Int) : icells (l ++ [x]) = icells l ++ [.int .i64 x] := by simp [icells]
theorem own_int_at {W : World} {base k d : Nat} {A : Option Addr} {xs : List Int} (h : W.ownsRow base 3 1 (.slice A k d) k (icells xs)) {j : Nat} (hj : j < k) (hl : xs.length = k) : ∃ g y, A = some ⟨g, 0, none⟩ ∧ xs[j]? = some y ∧ W.cell? ⟨g, j, none⟩ = some (.int .i64 y) := by
  have hjx : j < xs.length := by omega
  rcases h.2 with ⟨e, h0⟩ | ⟨g, cap, cur, e, _⟩
  · omega
  · injection e with e1 e2 e3
    subst e1
    subst e3
    have := h.cells (g := g) rfl j (.int .i64 xs[j]) (by simp [icells, List.getElem?_eq_getElem hjx])
    have ha : (⟨g, 0, none⟩ : Addr).add j = ⟨g, j, none⟩ := by unfold Addr.add; split <;> simp_all
    rw [ha] at this
    exact ⟨g, xs[j], rfl, List.getElem?_eq_getElem hjx, this⟩
set_option maxRecDepth 100000 in
set_option maxHeartbeats 4000000 in
theorem rcount_any (w : World) (v : Value) (ns : List Nd) (hv : SlN w v ns) (ho : OrdN ns) (hl : ns.length ≤ 1000000) :
    Calls Tryd.prog 26 #[v] w fun e w' => ∃ u xs, e = .returned u ∧ w'.ownsRow w.heap.size 3 1 u ns.length (icells xs) ∧ xs.length = ns.length ∧ (∀ x ∈ xs, 0 ≤ x ∧ x ≤ 1000000) ∧ Only (fun _ => False) w w' := by
  obtain ⟨i0, hi, hz0, hz1, hz2⟩ := info_parts Tryd.info_int01
  obtain ⟨A, c, rfl, hA⟩ := hv
  have HA := Lib.hid hA
  have HORD := Lib.hid ho
  clear hA ho
  go_enter Tryd.func26, Tryd.ntmps26
  go_wp2_with fail
  go_loopg [3, 4] ns.length (fun g s i W => ∃ (k : Nat) (u : Value) (xs : List Int), g = ns.length - k ∧ k ≤ ns.length ∧ i = .int .i64 k ∧ s = u ∧ W.ownsRow w.heap.size 3 1 u k (icells xs) ∧ xs.length = k ∧ (∀ x ∈ xs, 0 ≤ x ∧ x ≤ 1000000) ∧ Only (fun _ => False) w W)
  case atStart => exact ⟨0, _, [], rfl, by omega, rfl, rfl, World.ownsRow_nil _ _ _ _, rfl, (fun x h => by cases h), Only.refl _ _⟩
  case round =>
    obtain ⟨k, u, xs, hgk, hk, rfl, rfl, hown, hxl, hxb, ho⟩ := hrel
    have hlow := ho.size
    obtain ⟨A0, d0, he0⟩ := own_shape hown
    subst he0
    have HGK := Lib.hid hgk
    have HO := Lib.hid ho
    have HOWN := Lib.hid hown
    have HXL := Lib.hid hxl
    have HXB := Lib.hid hxb
    clear hgk hown hxl hxb ho
    by_cases hlt : k < ns.length
    · obtain ⟨ad, rfl, x0, x1, x2, x3, x4⟩ := HA.out k hlt
      have c0 := HO.out.cell x0 (fun f => f)
      have c3 := row_cell (by decide) (HO.out.cell x3 (fun f => f))
      have c4 := row_cell (by decide) (HO.out.cell x4 (fun f => f))
      have hk0 : (0 : Int) ≤ (k : Int) := by omega
      have hk1 : (k : Int) < (ns.length : Int) := by omega
      obtain ⟨hoa, hob⟩ := HORD.out k _ (List.getElem?_eq_getElem hlt)
      clear x0 x1 x2 x3 x4
      generalize ns[k] = s at *
      rcases s with ⟨kd, cd, wh, xa, xb⟩
      simp only at c0 c3 c4 hoa hob
      have HOA := Lib.hid hoa
      have HOB := Lib.hid hob
      have hkind : kd = 1 ∨ kd = 2 ∨ kd = 3 ∨ kd = 4 ∨ ((kd == 1) = false ∧ (kd == 2) = false ∧ (kd == 3) = false ∧ (kd == 4) = false) := by
        by_cases h0 : kd = 1
        · exact .inl h0
        by_cases h1 : kd = 2
        · exact .inr (.inl h1)
        by_cases h2 : kd = 3
        · exact .inr (.inr (.inl h2))
        by_cases h3 : kd = 4
        · exact .inr (.inr (.inr (.inl h3)))
        · exact .inr (.inr (.inr (.inr (by simp [h0, h1, h2, h3]))))
      clear hoa hob
      rcases hkind with rfl | rfl | rfl | rfl | ⟨q0, q1, q2, q3⟩
      · have HR := Lib.hid (show (0 : Int) ≤ 1 ∧ (1 : Int) ≤ 1000000 by decide)
        go_wp2_with (at_builtin; go_must (refine wpList_append_own_at _ rfl _ _ 40 rfl w.heap.size 3 i0 (.int .i64 0) 1 8 Tryd.underlying40 hi hz0 hz1 hz2 rfl (by decide) _ k (icells xs) ?hs ((HOWN.out).alloc _) ⟨wr.heap.size, 0, none⟩ 1 1 [.int .i64 (1)] ?hx rfl (cell_one_new _ _ _) ?c2 ?c3 ?c4 ?c5 ?_); (case hs => rfl); (case hx => rfl); (case c2 => intro y hy; obtain rfl := List.mem_singleton.1 hy; rfl); (case c3 => unfold maxLen; omega); (case c4 => omega); (case c5 => simp; omega); intro v1 w1 ho1 hg1 _ hat1; obtain ⟨A1, d1, hv1⟩ := own_shape ho1; subst hv1)
        go_roundg (ns.length - (k + 1))
        case rel => exact ⟨k + 1, _, xs ++ [1], rfl, by omega, by go_num, rfl, by rw [icells_snoc]; exact ho1, by rw [List.length_append, HXL.out]; rfl, (fun x h => by rcases List.mem_append.1 h with h | h; exact HXB.out x h; obtain rfl := List.mem_singleton.1 h; exact HR.out), Only.grown ((HO.out).alloc _) hg1 (fun q e hq => by have := own_low HOWN.out e; omega)⟩
        case measure => have := HGK.out; omega
      · have HR := Lib.hid (show (0 : Int) ≤ 1 ∧ (1 : Int) ≤ 1000000 by decide)
        go_wp2_with (at_builtin; go_must (refine wpList_append_own_at _ rfl _ _ 40 rfl w.heap.size 3 i0 (.int .i64 0) 1 8 Tryd.underlying40 hi hz0 hz1 hz2 rfl (by decide) _ k (icells xs) ?hs ((HOWN.out).alloc _) ⟨wr.heap.size, 0, none⟩ 1 1 [.int .i64 (1)] ?hx rfl (cell_one_new _ _ _) ?c2 ?c3 ?c4 ?c5 ?_); (case hs => rfl); (case hx => rfl); (case c2 => intro y hy; obtain rfl := List.mem_singleton.1 hy; rfl); (case c3 => unfold maxLen; omega); (case c4 => omega); (case c5 => simp; omega); intro v1 w1 ho1 hg1 _ hat1; obtain ⟨A1, d1, hv1⟩ := own_shape ho1; subst hv1)
        go_roundg (ns.length - (k + 1))
        case rel => exact ⟨k + 1, _, xs ++ [1], rfl, by omega, by go_num, rfl, by rw [icells_snoc]; exact ho1, by rw [List.length_append, HXL.out]; rfl, (fun x h => by rcases List.mem_append.1 h with h | h; exact HXB.out x h; obtain rfl := List.mem_singleton.1 h; exact HR.out), Only.grown ((HO.out).alloc _) hg1 (fun q e hq => by have := own_low HOWN.out e; omega)⟩
        case measure => have := HGK.out; omega
      · obtain ⟨j, hj, hjk⟩ := HOA.out (.inl rfl)
        obtain ⟨g, y, hA0, hy, cy⟩ := own_int_at HOWN.out hjk HXL.out
        subst hA0
        subst hj
        have HR := Lib.hid (HXB.out y (List.mem_of_getElem? hy))
        have hy1 : ¬ (1000000 : Int) < y := by have := HR.out; omega
        have hj0 : (0 : Int) ≤ (j : Int) := by omega
        have hj1 : (j : Int) < (k : Int) := by omega
        clear hy
        go_wp2_with (at_builtin; go_must (refine wpList_append_own_at _ rfl _ _ 40 rfl w.heap.size 3 i0 (.int .i64 0) 1 8 Tryd.underlying40 hi hz0 hz1 hz2 rfl (by decide) _ k (icells xs) ?hs ((HOWN.out).alloc _) ⟨wr.heap.size, 0, none⟩ 1 1 [.int .i64 (y)] ?hx rfl (cell_one_new _ _ _) ?c2 ?c3 ?c4 ?c5 ?_); (case hs => rfl); (case hx => rfl); (case c2 => intro y hy; obtain rfl := List.mem_singleton.1 hy; rfl); (case c3 => unfold maxLen; omega); (case c4 => omega); (case c5 => simp; omega); intro v1 w1 ho1 hg1 _ hat1; obtain ⟨A1, d1, hv1⟩ := own_shape ho1; subst hv1)
        go_roundg (ns.length - (k + 1))
        case rel => exact ⟨k + 1, _, xs ++ [y], rfl, by omega, by go_num, rfl, by rw [icells_snoc]; exact ho1, by rw [List.length_append, HXL.out]; rfl, (fun x h => by rcases List.mem_append.1 h with h | h; exact HXB.out x h; obtain rfl := List.mem_singleton.1 h; exact HR.out), Only.grown ((HO.out).alloc _) hg1 (fun q e hq => by have := own_low HOWN.out e; omega)⟩
        case measure => have := HGK.out; omega
      · obtain ⟨j, hj, hjk⟩ := HOA.out (.inr rfl)
        obtain ⟨j2, hj2, hjk2⟩ := HOB.out rfl
        obtain ⟨g, y, hA0, hy, cy⟩ := own_int_at HOWN.out hjk HXL.out
        obtain ⟨g2, y2, hA2, hy2, cy2⟩ := own_int_at HOWN.out hjk2 HXL.out
        subst hA0
        obtain rfl : g = g2 := by injection hA2 with e; injection e
        subst hj
        subst hj2
        have HY := Lib.hid (HXB.out y (List.mem_of_getElem? hy))
        have HY2 := Lib.hid (HXB.out y2 (List.mem_of_getElem? hy2))
        have ys : IntKind.i64.wrap (y + y2) = y + y2 := by rw [IntKind.wrap_i64]; have := HY.out; have := HY2.out; omega
        have hj0 : (0 : Int) ≤ (j : Int) := by omega
        have hj1 : (j : Int) < (k : Int) := by omega
        have hj3 : (0 : Int) ≤ (j2 : Int) := by omega
        have hj4 : (j2 : Int) < (k : Int) := by omega
        clear hy hy2 hA2
        go_upto_region 11 with fail
        go_big_quiet (fail)
        by_cases hgr : (1000000 : Int) < y + y2
        · have HR := Lib.hid (show (0 : Int) ≤ 1000000 ∧ (1000000 : Int) ≤ 1000000 by decide)
          go_wp2_with (at_builtin; go_must (refine wpList_append_own_at _ rfl _ _ 40 rfl w.heap.size 3 i0 (.int .i64 0) 1 8 Tryd.underlying40 hi hz0 hz1 hz2 rfl (by decide) _ k (icells xs) ?hs ((show (wr.drewN nq).ownsRow w.heap.size 3 1 _ k (icells xs) from HOWN.out).alloc _) ⟨(wr.drewN nq).heap.size, 0, none⟩ 1 1 [.int .i64 (1000000)] ?hx rfl (cell_one_new _ _ _) ?c2 ?c3 ?c4 ?c5 ?_); (case hs => rfl); (case hx => rfl); (case c2 => intro y hy; obtain rfl := List.mem_singleton.1 hy; rfl); (case c3 => unfold maxLen; omega); (case c4 => omega); (case c5 => simp; omega); intro v1 w1 ho1 hg1 _ hat1; obtain ⟨A1, d1, hv1⟩ := own_shape ho1; subst hv1)
          go_roundg (ns.length - (k + 1))
          case rel => exact ⟨k + 1, _, xs ++ [1000000], rfl, by omega, by go_num, rfl, by rw [icells_snoc]; exact ho1, by rw [List.length_append, HXL.out]; rfl, (fun x h => by rcases List.mem_append.1 h with h | h; exact HXB.out x h; obtain rfl := List.mem_singleton.1 h; exact HR.out), Only.grown ((HO.out.drewN _).alloc _) hg1 (fun q e hq => by have := own_low HOWN.out e; omega)⟩
          case measure => have := HGK.out; omega
        · have HR := Lib.hid (show (0 : Int) ≤ y + y2 ∧ y + y2 ≤ 1000000 by have := HY.out; have := HY2.out; omega)
          go_wp2_with (at_builtin; go_must (refine wpList_append_own_at _ rfl _ _ 40 rfl w.heap.size 3 i0 (.int .i64 0) 1 8 Tryd.underlying40 hi hz0 hz1 hz2 rfl (by decide) _ k (icells xs) ?hs ((show (wr.drewN nq).ownsRow w.heap.size 3 1 _ k (icells xs) from HOWN.out).alloc _) ⟨(wr.drewN nq).heap.size, 0, none⟩ 1 1 [.int .i64 (y + y2)] ?hx rfl (cell_one_new _ _ _) ?c2 ?c3 ?c4 ?c5 ?_); (case hs => rfl); (case hx => rfl); (case c2 => intro y hy; obtain rfl := List.mem_singleton.1 hy; rfl); (case c3 => unfold maxLen; omega); (case c4 => omega); (case c5 => simp; omega); intro v1 w1 ho1 hg1 _ hat1; obtain ⟨A1, d1, hv1⟩ := own_shape ho1; subst hv1)
          go_roundg (ns.length - (k + 1))
          case rel => exact ⟨k + 1, _, xs ++ [y + y2], rfl, by omega, by go_num, rfl, by rw [icells_snoc]; exact ho1, by rw [List.length_append, HXL.out]; rfl, (fun x h => by rcases List.mem_append.1 h with h | h; exact HXB.out x h; obtain rfl := List.mem_singleton.1 h; exact HR.out), Only.grown ((HO.out.drewN _).alloc _) hg1 (fun q e hq => by have := own_low HOWN.out e; omega)⟩
          case measure => have := HGK.out; omega
      · have HR := Lib.hid (show (0 : Int) ≤ 0 ∧ (0 : Int) ≤ 1000000 by decide)
        go_wp2_with (at_builtin; go_must (refine wpList_append_own_at _ rfl _ _ 40 rfl w.heap.size 3 i0 (.int .i64 0) 1 8 Tryd.underlying40 hi hz0 hz1 hz2 rfl (by decide) _ k (icells xs) ?hs ((HOWN.out).alloc _) ⟨wr.heap.size, 0, none⟩ 1 1 [.int .i64 (0)] ?hx rfl (cell_one_new _ _ _) ?c2 ?c3 ?c4 ?c5 ?_); (case hs => rfl); (case hx => rfl); (case c2 => intro y hy; obtain rfl := List.mem_singleton.1 hy; rfl); (case c3 => unfold maxLen; omega); (case c4 => omega); (case c5 => simp; omega); intro v1 w1 ho1 hg1 _ hat1; obtain ⟨A1, d1, hv1⟩ := own_shape ho1; subst hv1)
        go_roundg (ns.length - (k + 1))
        case rel => exact ⟨k + 1, _, xs ++ [0], rfl, by omega, by go_num, rfl, by rw [icells_snoc]; exact ho1, by rw [List.length_append, HXL.out]; rfl, (fun x h => by rcases List.mem_append.1 h with h | h; exact HXB.out x h; obtain rfl := List.mem_singleton.1 h; exact HR.out), Only.grown ((HO.out).alloc _) hg1 (fun q e hq => by have := own_low HOWN.out e; omega)⟩
        case measure => have := HGK.out; omega
    · obtain rfl : k = ns.length := by omega
      go_wp2_with fail
      go_ret
      exact ⟨_, _, rfl, HOWN.out, HXL.out, HXB.out, HO.out⟩
end Go.Proofs.YthagbbeppklpmaaDoor
