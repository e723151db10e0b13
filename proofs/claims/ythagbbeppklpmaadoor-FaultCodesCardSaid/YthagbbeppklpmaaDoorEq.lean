/- Chapter 1: the reference's Codes. -/
import Derived.Test.YthagbbeppklpmaaDoorEp
import Derived.Deep.AppendLies
import Derived.Deep.RegionLaw
import Derived.Deep.RegionHeldLaw
set_option linter.unusedSimpArgs false
set_option linter.unusedVariables false
namespace Go.Proofs.YthagbbeppklpmaaDoor
open Go.RowKit

theorem codes_some {ns : List Nd} : ∀ {t : Tr} {x : Nd}, NodeX ns t x → t.some = true → 1 ≤ t.codes.length
  | .none, x, _, h => by cases h
  | .root c s, x, _, _ => Nat.le_refl _
  | .num c, x, _, _ => Nat.le_refl _
  | .wrap s t, x, ⟨_, _, hs, j, y, _, _, ht⟩, _ => by
    have := codes_some ht hs
    exact this
  | .both t u, x, ⟨_, h1, h2, j, k, y, z, _, _, _, _, ht, hu⟩, _ => by
    have := codes_some ht h1
    show 1 ≤ (t.codes ++ u.codes).length
    rw [List.length_append]
    omega
set_option maxRecDepth 100000 in
set_option maxHeartbeats 4000000 in
theorem rcodes_tr : ∀ (t : Tr) (w : World) (v : Value) (l : List Nd) (i : Nat), SlN w v l → NodeT l t i → l.length ≤ 1000000 → t.codes.length ≤ 1000000000 →
    Calls Tryd.prog 17 #[v, .int .i64 i] w fun e w' => ∃ u, e = .returned u ∧ w'.ownsRow w.heap.size 3 1 u t.codes.length (icells t.codes) ∧ Only (fun _ => False) w w' := by
  intro t
  induction t with
  | none =>
    rintro w v l i hv ⟨x, hx, h⟩ hl hz
    have HK := Lib.hid (kind_any w v l i hv hl)
    rw [kindN_at hx, show x.kind = 0 from h] at HK
    clear hx h hv hz
    go_enter Tryd.func17, Tryd.ntmps17
    go_wp2_with fail
    refine (HK.out).mono ?_
    rintro e w1 ⟨rfl, rfl⟩
    go_wp2_with fail
    go_ret
    exact ⟨_, rfl, World.ownsRow_nil _ _ _ _, Only.refl _ _⟩
  | num c =>
    rintro w v l i hv ⟨x, hx, h⟩ hl hz
    have HK := Lib.hid (kind_any w v l i hv hl)
    rw [kindN_at hx, h.1] at HK
    obtain ⟨A, cc, rfl, -⟩ := id hv
    obtain ⟨-, hi, ad, rfl, x0, x1, x2, x3, x4⟩ := hv.at_ hx
    rw [h.2] at x1
    have c1 := row_cell (by decide) x1
    have hi0 : (0 : Int) ≤ (i : Int) := by omega
    have hi1 : (i : Int) < (l.length : Int) := by omega
    clear hx h hv x0 x1 x2 x3 x4 hz
    go_enter Tryd.func17, Tryd.ntmps17
    go_wp2_with fail
    refine (HK.out).mono ?_
    rintro e w1 ⟨rfl, rfl⟩
    go_wp2_with fail
    go_ret
    exact ⟨_, rfl, ⟨rfl, .inr ⟨_, _, _, rfl, Nat.le_refl _, Has.new w 3 #[.int .i64 c], Nat.le_refl 1, (by show 1 ≤ maxLen; unfold maxLen; omega), rfl, rfl⟩⟩, (Only.refl _ _).alloc _⟩
  | root c s =>
    rintro w v l i hv ⟨x, hx, h⟩ hl hz
    have HK := Lib.hid (kind_any w v l i hv hl)
    rw [kindN_at hx, h.1] at HK
    obtain ⟨A, cc, rfl, -⟩ := id hv
    obtain ⟨-, hi, ad, rfl, x0, x1, x2, x3, x4⟩ := hv.at_ hx
    rw [h.2.1] at x1
    have c1 := row_cell (by decide) x1
    have hi0 : (0 : Int) ≤ (i : Int) := by omega
    have hi1 : (i : Int) < (l.length : Int) := by omega
    clear hx h hv x0 x1 x2 x3 x4 hz
    go_enter Tryd.func17, Tryd.ntmps17
    go_wp2_with fail
    refine (HK.out).mono ?_
    rintro e w1 ⟨rfl, rfl⟩
    go_wp2_with fail
    go_ret
    exact ⟨_, rfl, ⟨rfl, .inr ⟨_, _, _, rfl, Nat.le_refl _, Has.new w 3 #[.int .i64 c], Nat.le_refl 1, (by show 1 ≤ maxLen; unfold maxLen; omega), rfl, rfl⟩⟩, (Only.refl _ _).alloc _⟩
  | wrap s t ih =>
    rintro w v l i hv ⟨x, hx, hk, hw, hs, j, y, e1, hy, ht⟩ hl hz
    have HK := Lib.hid (kind_any w v l i hv hl)
    rw [kindN_at hx, hk] at HK
    have I1 := Lib.hid (ih w v l j hv ⟨y, hy, ht⟩ hl hz)
    obtain ⟨A, cc, rfl, -⟩ := id hv
    obtain ⟨-, hi, ad, rfl, x0, x1, x2, x3, x4⟩ := hv.at_ hx
    rw [e1] at x3
    have c3 := row_cell (by decide) x3
    have hi0 : (0 : Int) ≤ (i : Int) := by omega
    have hi1 : (i : Int) < (l.length : Int) := by omega
    rw [show (Tr.wrap s t).codes = t.codes from rfl]
    clear hx hk hw hs e1 hy ht hv x0 x1 x2 x3 x4 hz ih
    go_enter Tryd.func17, Tryd.ntmps17
    go_wp2_with fail
    refine (HK.out).mono ?_
    rintro e w1 ⟨rfl, rfl⟩
    go_wp2_with fail
    refine (I1.out).mono ?_
    rintro e w1 ⟨u, rfl, hown, o1⟩
    have HOWN := Lib.hid hown
    obtain ⟨A1, d1, hu⟩ := own_shape hown
    subst hu
    clear hown
    go_wp2_with fail
    go_ret
    exact ⟨_, rfl, HOWN.out, o1⟩
  | both t u iht ihu =>
    rintro w v l i hv ⟨x, hx, hk, h1, h2, j, k, y, z, e1, e2, hy, hz, ht, hu⟩ hl hzz
    have HK := Lib.hid (kind_any w v l i hv hl)
    rw [kindN_at hx, hk] at HK
    have hlen : (Tr.both t u).codes.length = t.codes.length + u.codes.length := by show (t.codes ++ u.codes).length = _; rw [List.length_append]
    have I1 := Lib.hid (fun W (o : Only (fun _ => False) w W) => iht W v l j (hv.only o) ⟨y, hy, ht⟩ hl (by omega))
    have I2 := Lib.hid (fun W (o : Only (fun _ => False) w W) => ihu W v l k (hv.only o) ⟨z, hz, hu⟩ hl (by omega))
    have p1 := codes_some ht h1
    have p2 := codes_some hu h2
    have hz2 : t.codes.length + u.codes.length ≤ 1000000000 := by omega
    rw [hlen, show (Tr.both t u).codes = t.codes ++ u.codes from rfl]
    generalize t.codes = xs at *
    generalize u.codes = ys at *
    obtain ⟨A, cc, rfl, -⟩ := id hv
    obtain ⟨-, hi, ad, rfl, x0, x1, x2, x3, x4⟩ := hv.at_ hx
    rw [e1] at x3
    rw [e2] at x4
    have c3 := row_cell (by decide) x3
    have c4 := row_cell (by decide) x4
    have hi0 : (0 : Int) ≤ (i : Int) := by omega
    have hi1 : (i : Int) < (l.length : Int) := by omega
    clear hx hk h1 h2 e1 e2 hy hz ht hu hv x0 x1 x2 x3 x4 iht ihu hlen hzz
    go_enter Tryd.func17, Tryd.ntmps17
    go_wp2_with fail
    refine (HK.out).mono ?_
    rintro e w1 ⟨rfl, rfl⟩
    obtain ⟨i0, hi2, hz0, hz1, hz2'⟩ := info_parts Tryd.info_int01
    have O0 : Only (fun _ => False) w w.drew := (Only.refl _ _).drew
    have O0b : Only (fun _ => False) w ((w.alloc (.cells #[] 3)).drew) := ((Only.refl _ _).alloc _).drew
    have E0 : ((w.alloc (.cells #[] 3)).drew).ownsRow w.heap.size 3 1 (.slice (some ⟨w.heap.size, 0, none⟩) 0 0) 0 [] := ⟨rfl, .inr ⟨_, _, _, rfl, Nat.le_refl _, (Has.new w 3 #[]).drew, Nat.le_refl 0, (by show 0 ≤ maxLen; unfold maxLen; omega), rfl, rfl⟩⟩
    have C3 := Lib.hid c3
    have C4 := Lib.hid c4
    go_upto_region 8 with fail
    go_region_held_law (fun W => W.cell? ⟨(ad.add (i * 5)).block, (ad.add (i * 5)).off + 3, none⟩ = some (.int .i64 j) ∧ W.cell? ⟨(ad.add (i * 5)).block, (ad.add (i * 5)).off + 4, none⟩ = some (.int .i64 k)) (first | exact ⟨C3.out, C4.out⟩ | with_reducible exact ⟨Only.cell O0b C3.out (fun f => f), Only.cell O0b C4.out (fun f => f)⟩ | with_reducible exact ⟨Only.cell OD C3.out (fun f => f), Only.cell OD C4.out (fun f => f)⟩ | with_reducible exact ⟨Only.cell OC C3.out (fun f => f), Only.cell OC C4.out (fun f => f)⟩ | with_reducible exact ⟨Only.cell OB C3.out (fun f => f), Only.cell OB C4.out (fun f => f)⟩ | with_reducible exact ⟨Only.cell OA C3.out (fun f => f), Only.cell OA C4.out (fun f => f)⟩ | with_reducible exact ⟨Only.cell (OA.alloc _) C3.out (fun f => f), Only.cell (OA.alloc _) C4.out (fun f => f)⟩) (first
      | (go_at_call_of 17 (Value.int IntKind.i64 (j : Int)); (with_reducible refine (I1.out _ O0).mono ?_); rintro e w1 ⟨uA, rfl, ownA, oA⟩; obtain ⟨gA, cA, rfl, hgA, hlA⟩ := ownA.form p1; have OA : Only (fun _ => False) w w1 := Only.trans O0 oA; have E1 : (w1.alloc (.cells #[] 3)).ownsRow w.heap.size 3 1 (.slice (some ⟨w1.heap.size, 0, none⟩) 0 0) 0 [] := ⟨rfl, .inr ⟨_, _, _, rfl, OA.size, Has.new w1 3 #[], Nat.le_refl 0, (by show 0 ≤ maxLen; unfold maxLen; omega), rfl, rfl⟩⟩)
      | (go_at_call_of 17 (Value.int IntKind.i64 (j : Int)); (with_reducible refine (I1.out _ O0b).mono ?_); rintro e w1 ⟨uA, rfl, ownA, oA⟩; obtain ⟨gA, cA, rfl, hgA, hlA⟩ := ownA.form p1; have OA : Only (fun _ => False) w w1 := Only.trans O0b oA; have E1 : w1.ownsRow w.heap.size 3 1 (.slice (some ⟨w.heap.size, 0, none⟩) 0 0) 0 [] := oA.own E0 (fun _ _ f => f))
      | (refine step_append_lies _ (by rfl) _ _ 40 (by rfl) w.heap.size 3 i0 (.int .i64 0) 1 8 Tryd.underlying40 hi2 hz0 hz1 hz2' rfl (by decide) _ 0 [] (by rfl) E1 ⟨gA, 0, none⟩ xs.length cA (icells xs) (by rfl) (by simp [icells]) (fun j u h => (World.ownsRow.cells ownA (g := gA) rfl j u h)) (by intro y hy; simp only [icells, List.mem_map] at hy; obtain ⟨q, -, rfl⟩ := hy; rfl) (by omega) (by unfold maxLen; omega) (by omega) (by have := OA.size; first | omega | (simp; omega)) _ (by rfl) ?_; intro g4 cap4 w4 ho4 hg4 hat4 hlt4; have OB : Only (fun _ => False) w w4 := Only.grown OA hg4 (fun q e hq => by have := own_low E1 e; omega); simp only [Act.put, List.getElem_toArray, List.getElem_cons_succ, List.getElem_cons_zero, List.setIfInBounds_toArray, List.set_cons_zero, List.set_cons_succ])
      | (refine step_append_lies _ (by rfl) _ _ 40 (by rfl) w.heap.size 3 i0 (.int .i64 0) 1 8 Tryd.underlying40 hi2 hz0 hz1 hz2' rfl (by decide) _ 0 [] (by rfl) E1 ⟨gA, 0, none⟩ xs.length cA (icells xs) (by rfl) (by simp [icells]) (fun j u h => (World.ownsRow.cells (ownA.alloc _) (g := gA) rfl j u h)) (by intro y hy; simp only [icells, List.mem_map] at hy; obtain ⟨q, -, rfl⟩ := hy; rfl) (by omega) (by unfold maxLen; omega) (by omega) (by have := OA.size; first | omega | (simp; omega)) _ (by rfl) ?_; intro g4 cap4 w4 ho4 hg4 hat4 hlt4; have OB : Only (fun _ => False) w w4 := Only.grown (OA.alloc _) hg4 (fun q e hq => by have := own_low E1 e; omega); simp only [Act.put, List.getElem_toArray, List.getElem_cons_succ, List.getElem_cons_zero, List.setIfInBounds_toArray, List.set_cons_zero, List.set_cons_succ])
      | (go_at_call_of 17 (Value.int IntKind.i64 (k : Int)); (with_reducible refine (I2.out _ OB).mono ?_); rintro e w5 ⟨uB, rfl, ownB, oB⟩; obtain ⟨gB, cB, rfl, hgB, hlB⟩ := ownB.form p2; have OC : Only (fun _ => False) w w5 := Only.trans OB oB; have E5 : w5.ownsRow w.heap.size 3 1 (.slice (some ⟨g4, 0, none⟩) xs.length cap4) xs.length (icells xs) := (by have h := oB.own ho4 (fun _ _ f => f); simp only [Nat.zero_add, List.nil_append] at h; exact h))
      | (refine step_append_lies _ (by rfl) _ _ 40 (by rfl) w.heap.size 3 i0 (.int .i64 0) 1 8 Tryd.underlying40 hi2 hz0 hz1 hz2' rfl (by decide) _ xs.length (icells xs) (by rfl) E5 ⟨gB, 0, none⟩ ys.length cB (icells ys) (by rfl) (by simp [icells]) (fun j u h => (World.ownsRow.cells ownB (g := gB) rfl j u h)) (by intro y hy; simp only [icells, List.mem_map] at hy; obtain ⟨q, -, rfl⟩ := hy; rfl) (by omega) (by unfold maxLen; omega) (by omega) (by have := OC.size; omega) _ (by rfl) ?_; intro g6 cap6 w6 ho6 hg6 hat6 hlt6; have OD : Only (fun _ => False) w w6 := Only.grown OC hg6 (fun q e hq => by have := own_low E5 e; omega); simp only [Act.put, List.getElem_toArray, List.getElem_cons_succ, List.getElem_cons_zero, List.setIfInBounds_toArray, List.set_cons_zero, List.set_cons_succ]))
    all_goals
      have H6 := Lib.hid ho6
      have HD := Lib.hid OD
      clear ho6 hg6 hat6 hlt6 E5 ownB ownA E1 ho4 hg4 hat4 hlt4
      go_wp2_with fail
      go_ret
      exact ⟨_, rfl, by rw [show icells (xs ++ ys) = icells xs ++ icells ys by simp [icells]]; exact H6.out, HD.out⟩
end Go.Proofs.YthagbbeppklpmaaDoor
