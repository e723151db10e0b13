/- wire.Reader: Words. -/
import Derived.Test.YtkafnkkipflbbaaDoorRg
import Derived.Maps.AppendAt
import Derived.OwnWalk
import Derived.LoopTactic
set_option linter.unusedSimpArgs false
set_option linter.unusedVariables false
namespace Go.Proofs.YtkafnkkipflbbaaDoor
open Go.RowKit Go.Lib

theorem Tryd.info_u64 : (Tryd.prog.info? 25).map (fun i => (i.zero, i.size, i.bytes)) = some (some (.int .u64 0), 1, 8) := by kernel_rfl
def ucells (l : List Int) : List Value := l.map fun x => .int .u64 x
theorem ucells_length (l : List Int) : (ucells l).length = l.length := by simp [ucells]
theorem ucells_snoc (l : List Int) (x : Int) : ucells (l ++ [x]) = ucells l ++ [.int .u64 x] := by simp [ucells]
theorem wordsAt_length (s : ByteArray) (a size n : Nat) : (wordsAt s a size n).length = n := by simp [wordsAt]
theorem wordsAt_snoc (s : ByteArray) (a size n : Nat) : wordsAt s a size (n + 1) = wordsAt s a size n ++ [num s (a + n * size) size] := by simp [wordsAt, List.range_succ]
theorem wordsAt_all {s : ByteArray} {a size n width : Nat} (h : ∀ i, i < n → num s (a + i * size) size < 2 ^ width) : (wordsAt s a size n).all (fun x => decide (x < 2 ^ width)) = true := by
  simp only [wordsAt, List.all_map, List.all_eq_true, List.mem_range, Function.comp_apply, decide_eq_true_eq]
  exact h
theorem wordsAt_not {s : ByteArray} {a size n width : Nat} (i : Nat) (hi : i < n) (h : ¬ num s (a + i * size) size < 2 ^ width) : ¬ (wordsAt s a size n).all (fun x => decide (x < 2 ^ width)) = true := by
  simp only [wordsAt, List.all_map, List.all_eq_true, List.mem_range, Function.comp_apply, decide_eq_true_eq]
  exact fun q => h (q i hi)
theorem Q8.many_had0 {q : Q8} {s : ByteArray} {most : Int} {size : Nat} (h : (q.many s most size).1.e ≠ 0) : (q.many s most size).2 = 0 := by
  by_cases he : q.e = 0
  · by_cases h4 : q.at_ + 4 ≤ s.size
    · rw [q.many_ok s most size he h4] at h ⊢
      split at h
      · rename_i h1; rw [if_pos h1]
      · rename_i h1
        rw [if_neg h1]
        split at h
        · rename_i h2; rw [if_pos h2]
        · exact absurd rfl h
    · rw [q.many_short s most size he (by omega)]
  · rw [q.many_e s most size he]
theorem Q8.many_fits {q : Q8} {s : ByteArray} {most : Int} {size : Nat} (hat : q.at_ ≤ s.size) (h : (q.many s most size).1.e = 0) : (q.many s most size).1.at_ + (q.many s most size).2 * size ≤ s.size := by
  by_cases he : q.e = 0
  · by_cases h4 : q.at_ + 4 ≤ s.size
    · rw [q.many_ok s most size he h4] at h ⊢
      split at h
      · cases h
      · rename_i h1
        rw [if_neg h1]
        split at h
        · cases h
        · rename_i h2
          rw [if_neg h2]
          show q.at_ + 4 + (num s q.at_ 4).toNat * size ≤ s.size
          omega
    · rw [q.many_short s most size he (by omega)] at h
      cases h
  · rw [q.many_e s most size he] at h
    exact absurd h he
theorem Q8.many_max (q : Q8) (s : ByteArray) (most : Int) (size : Nat) : (q.many s most size).2 ≤ most.toNat := by
  by_cases he : q.e = 0
  · by_cases h4 : q.at_ + 4 ≤ s.size
    · rw [q.many_ok s most size he h4]
      split
      · exact Nat.zero_le _
      · split
        · exact Nat.zero_le _
        · show (num s q.at_ 4).toNat ≤ most.toNat
          omega
    · rw [q.many_short s most size he (by omega)]
      exact Nat.zero_le _
  · rw [q.many_e s most size he]
    exact Nat.zero_le _
theorem own_ge {w : World} {base : Nat} {e : TypeId} {size n : Nat} {v : Value} {xs : List Value} (h : w.ownsRow base e size v n xs) {k : Nat} (q : v.ownBlock = some k) : base ≤ k := by
  rcases h.2 with ⟨rfl, _⟩ | ⟨g, cap, cur, rfl, hb, _⟩
  · cases q
  · cases q; exact hb

theorem num_range (s : ByteArray) (a n : Nat) : 0 ≤ num s a n := (beV_bound _ (ofStr_range _)).1
theorem num_lt (s : ByteArray) (a n : Nat) : num s a n < 256 ^ n := by
  have hb := beV_bound (ofStr (s.extract a (a + n))) (ofStr_range _)
  rw [ofStr_length] at hb
  refine Int.lt_of_lt_of_le hb.2 ?_
  have hl : (s.extract a (a + n)).size ≤ n := by simp; omega
  have h2 := Int.ofNat_le.2 (Nat.pow_le_pow_right (show 0 < 256 by decide) hl)
  rw [Int.natCast_pow, Int.natCast_pow] at h2
  exact h2
theorem num_u64 (s : ByteArray) (a n : Nat) (h : n ≤ 8) : num s a n ≤ 18446744073709551615 := by
  have h1 := num_lt s a n
  have h2 := pow8 n h
  omega
theorem all_snoc {P : Nat → Prop} {k : Nat} (h : ∀ i, i < k → P i) (hk : P k) : ∀ i, i < k + 1 → P i := by
  intro i hi
  rcases Nat.lt_or_ge i k with h1 | h1
  · exact h i h1
  · obtain rfl : i = k := by omega
    exact hk
theorem div_small {x : Int} {W : Nat} (h0 : 0 ≤ x) (h : x < 2 ^ W) : x / 2 ^ W = 0 := Int.ediv_eq_zero_of_lt h0 h
theorem div_great {x : Int} {W : Nat} (h : ¬ x < 2 ^ W) : 1 ≤ x / 2 ^ W := by
  have hp : (0 : Int) < 2 ^ W := Int.pow_pos (by decide)
  exact (Int.le_ediv_iff_mul_le hp).2 (by omega)

set_option maxRecDepth 100000 in
set_option maxHeartbeats 4000000 in
theorem rq_words (w : World) (p : Nat) (s f : ByteArray) (q : Q8) (width most : Int) (hs : s.size ≤ 140737488351232) (h : RQ w p s q) : Calls Tryd.prog 30 #[.pointer (some ⟨p, 0, none⟩), .string f, .int .i64 width, .int .i64 most] w fun x w' =>
    ∃ v, x = .returned v ∧ w'.ownsRow w.heap.size 25 1 v (q.words s width most).2.length (ucells (q.words s width most).2) ∧ RQ w' p s (q.words s width most).1 ∧ Only (· = p) w w' := by
  unfold Q8.words
  by_cases h1 : width < 1 ∨ 64 < width
  · rw [if_pos h1]
    have HF := Lib.hid (rq_fail w p s f q 11 (by decide) h)
    clear h
    rcases h1 with h1 | h1
    all_goals
      go_enter Tryd.func30, Tryd.ntmps30
      go_wp2_with fail
    all_goals
      refine (HF.out).mono ?_
      rintro e w1 ⟨rfl, R1, o1⟩
      go_wp2_with fail
      go_ret
      exact ⟨_, rfl, World.ownsRow_nil _ _ _ _, R1, o1⟩
  · rw [if_neg h1]
    obtain ⟨W, rfl⟩ : ∃ W : Nat, width = (W : Int) := ⟨width.toNat, by omega⟩
    rw [show ((W : Int)).toNat = W from rfl]
    have hsz : ((W : Int) + 7) / 8 = ((((W + 7) / 8 : Nat)) : Int) := by omega
    have hz1 : 1 ≤ (W + 7) / 8 := by omega
    have hz8 : (W + 7) / 8 ≤ 8 := by omega
    have hW1 : 1 ≤ (W : Int) := by omega
    have hW64 : (W : Int) ≤ 64 := by omega
    generalize (W + 7) / 8 = size at *
    have hat := h.atLe
    have hpl := h.lt
    obtain ⟨cs, ca⟩ : w.cell? ⟨p, 0, none⟩ = some (.string s) ∧ w.cell? ⟨p, 1, none⟩ = some (.int .i64 q.at_) := by
      by_cases he : q.e = 0
      · exact ⟨(h.whole he).cell 0, (h.whole he).cell 1⟩
      · obtain ⟨b, l, h1, _⟩ := h.had he
        exact ⟨h1.cell 0, h1.cell 1⟩
    clear cs
    have hmin : (most ≤ 65536 ∧ min most 65536 = most) ∨ (65536 < most ∧ min most 65536 = 65536) := by omega
    have HC := Lib.hid (rq_count w p s f q (min most 65536) size hs hz8 h)
    have hfit : (q.many s (min most 65536) size).2 = 0 ∨ ((q.many s (min most 65536) size).1.e = 0 ∧ (q.many s (min most 65536) size).1.at_ + (q.many s (min most 65536) size).2 * size ≤ s.size) := by
      by_cases he : (q.many s (min most 65536) size).1.e = 0
      · exact .inr ⟨he, Q8.many_fits hat he⟩
      · exact .inl (Q8.many_had0 he)
    have HE0 : (q.many s (min most 65536) size).1.e ≠ 0 → (q.many s (min most 65536) size).2 = 0 := Q8.many_had0
    have hmx := q.many_max s (min most 65536) size
    clear h h1
    have hm65 : min most 65536 ≤ 65536 := Int.min_le_right _ _
    have HMIN := Lib.hid hmin
    clear hmin
    generalize min most 65536 = m at *
    generalize (q.many s m size).1 = y at *
    generalize (q.many s m size).2 = n at *
    have hn : n ≤ 65536 := by omega
    obtain ⟨i0, hi, hzz0, hzz1, hzz2⟩ := info_parts Tryd.info_u64
    have HFIT := Lib.hid hfit
    have HEE := Lib.hid HE0
    clear hfit HE0 hmx hm65
    rcases HMIN.out with ⟨hm1, hm2⟩ | ⟨hm1, hm2⟩
    all_goals
      subst hm2
      clear HMIN
      go_enter Tryd.func30, Tryd.ntmps30
      go_wp2_with fail
      refine (HC.out).mono ?_
      rintro e w1 ⟨rfl, R1, o1⟩
      have HR1 := Lib.hid R1
      clear R1
      go_wp2_with fail
      go_loopw [12, 13, 37] (fun u x i V => ∃ (k : Nat) (u0 : Value), k ≤ n ∧ i = .int .i64 k ∧ u0 = u ∧ V.ownsRow w.heap.size 25 1 u0 k (ucells (wordsAt s y.at_ size k)) ∧ RQ V p s ⟨y.at_ + k * size, y.e⟩ ∧ Only (· = p) w V ∧ Hid (∀ i, i < k → num s (y.at_ + i * size) size < 2 ^ W)) (fun _ _ i _ => n - (intOf i).toNat)
      case atStart => exact ⟨0, _, by omega, rfl, rfl, World.ownsRow_nil _ _ _ _, by rw [Nat.zero_mul]; exact HR1.out, o1, Lib.hid (fun i hi => absurd hi (by omega))⟩
      case round =>
        obtain ⟨k, u, hk, rfl, rfl, hown, hR, ho, hall⟩ := hrel
        have hk' : k < n ∨ k = n := by omega
        rcases hk' with hkn | rfl
        · obtain ⟨he, hfz⟩ : y.e = 0 ∧ y.at_ + n * size ≤ s.size := by
            rcases HFIT.out with e | e
            · omega
            · exact e
          have hk1 : (k + 1) * size ≤ n * size := Nat.mul_le_mul_right size hkn
          rw [Nat.succ_mul] at hk1
          have hki : (k : Int) < (n : Int) := by omega
          have hx := Q8.number_ok (q := ⟨y.at_ + k * size, y.e⟩) (s := s) (n := size) he (by show y.at_ + k * size + size ≤ s.size; omega)
          have HN := Lib.hid (rq_number wr p s f _ size hs hz8 hR)
          rw [hx] at HN
          have hx0 := num_range s (y.at_ + k * size) size
          have hx1 := num_u64 s (y.at_ + k * size) size hz8
          have HS := Lib.hid (wordsAt_snoc s y.at_ size k)
          have HA := Lib.hid (show y.at_ + k * size + size = y.at_ + (k + 1) * size by rw [Nat.succ_mul]; omega)
          have HW := Lib.hid (fun (h : ¬ num s (y.at_ + k * size) size < 2 ^ W) => wordsAt_not (n := n) k hkn h)
          have HAL := Lib.hid (fun (h : num s (y.at_ + k * size) size < 2 ^ W) => all_snoc hall.out h)
          clear hx hk1 hfz hR
          simp only at HN
          generalize hxg : num s (y.at_ + k * size) size = x at *
          clear hxg hall
          have hcase : (W = 64 ∧ x < 2 ^ W) ∨ (W < 64 ∧ x < 2 ^ W ∧ x / 2 ^ W = 0) ∨ (W < 64 ∧ ¬ x < 2 ^ W ∧ 1 ≤ x / 2 ^ W) := by
            by_cases h64 : W = 64
            · refine .inl ⟨h64, ?_⟩
              subst h64
              have : (2 : Int) ^ 64 = 18446744073709551616 := by decide
              omega
            · by_cases hxx : x < 2 ^ W
              · exact .inr (.inl ⟨by omega, hxx, div_small hx0 hxx⟩)
              · exact .inr (.inr ⟨by omega, hxx, div_great hxx⟩)
          rcases hcase with ⟨hc0, hc⟩ | ⟨hc1, hc2, hc3⟩ | ⟨hc1, hc2, hc3⟩
          · have HC1 := Lib.hid hc
            have hw1 : ¬ (W : Int) < 64 := by omega
            clear hc hc0
            go_wp2_with fail
            refine (HN.out).mono ?_
            rintro e w2 ⟨rfl, R2, o2⟩
            have own2 := o2.own hown (fun j e q => by have := own_ge hown e; omega)
            have hsz2 : w.heap.size ≤ w2.heap.size := Nat.le_trans ho.size o2.size
            have HO2 := Lib.hid (ho.trans o2)
            have HR2 := Lib.hid R2
            have HOW := Lib.hid own2
            clear R2 o2 ho hown
            go_wp2_with (at_builtin; go_must (refine wpList_append_own_at _ rfl _ _ 47 rfl w.heap.size 25 i0 (.int .u64 0) 1 8 Tryd.underlying47 hi hzz0 hzz1 hzz2 rfl (by decide) u k (ucells (wordsAt s y.at_ size k)) ?hs0 (own2.alloc _) ⟨w2.heap.size, 0, none⟩ 1 1 [_] ?hx0 rfl (cell_one_new _ _ _) ?c20 ?c30 ?c40 ?c50 ?_); (case hs0 => rfl); (case hx0 => rfl); (case c20 => intro y hy; obtain rfl := List.mem_singleton.1 hy; rfl); (case c30 => unfold maxLen; omega); (case c40 => omega); (case c50 => simp; omega); intro v1 w3 ho1 hg1 _ hat1; (have P3 : Only (fun j => some j = u.ownBlock) w2 w3 := Only.grown ((Only.refl _ _).alloc _) hg1 (fun j e _ => e.symm)); (have R3 := Lib.hid (HR2.out.only P3 (fun e => by have := own_ge HOW.out e.symm; omega) (fun j cs hj e => own_apart HOW.out hj (by decide) e.symm))); (have O3 := Lib.hid (Only.grown (HO2.out.alloc _) hg1 (fun j e hj => absurd hj (by have := own_ge HOW.out e; omega)))); clear hat1 P3)
            go_roundw
            case rel => exact ⟨k + 1, v1, by omega, by go_num, rfl, by rw [HS.out, ucells_snoc]; exact ho1, by rw [he, ← HA.out]; exact R3.out, O3.out, Lib.hid (HAL.out HC1.out)⟩
            case measure => simp only [intOf]; omega
          · have hw1 : (W : Int) < 64 := by omega
            have HC1 := Lib.hid hc2
            clear hc2 hc1
            go_wp2_with fail
            refine (HN.out).mono ?_
            rintro e w2 ⟨rfl, R2, o2⟩
            have own2 := o2.own hown (fun j e q => by have := own_ge hown e; omega)
            have hsz2 : w.heap.size ≤ w2.heap.size := Nat.le_trans ho.size o2.size
            have HO2 := Lib.hid (ho.trans o2)
            have HR2 := Lib.hid R2
            have HOW := Lib.hid own2
            clear R2 o2 ho hown
            go_wp2_with (at_builtin; go_must (refine wpList_append_own_at _ rfl _ _ 47 rfl w.heap.size 25 i0 (.int .u64 0) 1 8 Tryd.underlying47 hi hzz0 hzz1 hzz2 rfl (by decide) u k (ucells (wordsAt s y.at_ size k)) ?hs0 (own2.alloc _) ⟨w2.heap.size, 0, none⟩ 1 1 [_] ?hx0 rfl (cell_one_new _ _ _) ?c20 ?c30 ?c40 ?c50 ?_); (case hs0 => rfl); (case hx0 => rfl); (case c20 => intro y hy; obtain rfl := List.mem_singleton.1 hy; rfl); (case c30 => unfold maxLen; omega); (case c40 => omega); (case c50 => simp; omega); intro v1 w3 ho1 hg1 _ hat1; (have P3 : Only (fun j => some j = u.ownBlock) w2 w3 := Only.grown ((Only.refl _ _).alloc _) hg1 (fun j e _ => e.symm)); (have R3 := Lib.hid (HR2.out.only P3 (fun e => by have := own_ge HOW.out e.symm; omega) (fun j cs hj e => own_apart HOW.out hj (by decide) e.symm))); (have O3 := Lib.hid (Only.grown (HO2.out.alloc _) hg1 (fun j e hj => absurd hj (by have := own_ge HOW.out e; omega)))); clear hat1 P3)
            go_roundw
            case rel => exact ⟨k + 1, v1, by omega, by go_num, rfl, by rw [HS.out, ucells_snoc]; exact ho1, by rw [he, ← HA.out]; exact R3.out, O3.out, Lib.hid (HAL.out HC1.out)⟩
            case measure => simp only [intOf]; omega
          · have hw1 : (W : Int) < 64 := by omega
            have HC2 := Lib.hid hc2
            have hne : (x / 2 ^ W != 0) = true := by
              have : x / 2 ^ W ≠ 0 := by omega
              simpa using this
            clear hc2 hc1 hc3
            go_wp2_with fail
            refine (HN.out).mono ?_
            rintro e w2 ⟨rfl, R2, o2⟩
            have W2 := R2.whole rfl
            obtain ⟨d0, d1, d2, df⟩ := W2.facts
            have B2 := Lib.hid (R2.back q.at_ hat)
            have OB := (ho.trans o2).setCell ⟨p, 1, none⟩ (.int .i64 (q.at_ : Int)) (fun _ => rfl)
            clear R2 W2 d0 d2 ho hown o2
            go_wp2_with fail
            refine (rq_fail _ p s f _ 13 (by decide) B2.out).mono ?_
            rintro e w3 ⟨rfl, R3, o3⟩
            go_wp2_with fail
            go_ret
            refine ⟨_, rfl, ?_⟩
            unfold Q8.wordsOf
            rw [if_neg (by simpa using he), if_neg (HW.out HC2.out)]
            exact ⟨World.ownsRow_nil _ _ _ _, R3, OB.trans o3⟩
        · have hkn : ¬ ((k : Int) < (k : Int)) := by omega
          go_wp2_with fail
          go_ret
          refine ⟨_, rfl, ?_⟩
          unfold Q8.wordsOf
          by_cases he : y.e = 0
          · rw [if_neg (by simpa using he), if_pos (wordsAt_all hall.out)]
            refine ⟨by rw [wordsAt_length]; exact hown, by rw [he] at hR; exact hR, ho⟩
          · rw [if_pos he]
            obtain rfl := HEE.out he
            exact ⟨hown, by rw [Nat.zero_mul] at hR; exact hR, ho⟩
end Go.Proofs.YtkafnkkipflbbaaDoor
