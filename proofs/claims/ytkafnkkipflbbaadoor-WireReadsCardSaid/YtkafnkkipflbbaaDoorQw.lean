/- The reference of layer 8: Words. -/
import Derived.Test.YtkafnkkipflbbaaDoorQb
import Derived.Test.YtkafnkkipflbbaaDoorRw
set_option linter.unusedSimpArgs false
set_option linter.unusedVariables false
namespace Go.Proofs.YtkafnkkipflbbaaDoor
open Go.RowKit

theorem Q8.words_ref (q : Q8) (s : ByteArray) (W : Nat) (most : Int) (h1 : 1 ≤ W) (h64 : W ≤ 64) (y : Q8) (n : Nat) (hy : q.many s (min most 65536) 0 = (y, n)) : q.words s W most =
    if y.e ≠ 0 then (y, []) else if s.size < y.at_ + n * ((W + 7) / 8) then (⟨q.at_, 12⟩, []) else
      if (wordsAt s y.at_ ((W + 7) / 8) n).all (fun x => decide (x < 2 ^ W)) then (⟨y.at_ + n * ((W + 7) / 8), 0⟩, wordsAt s y.at_ ((W + 7) / 8) n) else (⟨q.at_, 13⟩, []) := by
  unfold Q8.words
  rw [if_neg (by omega), show ((W : Int)).toNat = W from rfl, q.many_split s (min most 65536) ((W + 7) / 8), hy]
  simp only
  unfold Q8.wordsOf
  by_cases he : y.e = 0
  · have hne : ¬ (y.e ≠ 0) := by simpa using he
    rw [if_neg hne, if_neg hne]
    by_cases hl : s.size < y.at_ + n * ((W + 7) / 8)
    · rw [if_pos hl, if_pos hl, if_pos (by simp)]
    · rw [if_neg hl, if_neg hl, if_neg hne]
  · rw [if_pos he, if_pos he, if_pos he]
theorem cell_new_1 (w : World) (o : Obj) (x : Value) (t : TypeId) : ∀ j u, [x][j]? = some u → ((w.alloc o).alloc (.cells #[x] t)).cell? ((⟨w.heap.size + 1, 0, none⟩ : Addr).add j) = some u := by
  have h := cell_one_new (w.alloc o) x t
  rwa [show (w.alloc o).heap.size = w.heap.size + 1 by simp] at h
def WordsPost (s : ByteArray) (P : Q8 × List Int) (B : Nat) (e : Ending) (W : World) : Prop := ∃ v, e = .returned (.tuple #[.agg (P.1.cells s), v]) ∧ W.ownsRow B 25 1 v P.2.length (ucells P.2)
theorem half_shift (x : Int) (W : Nat) (h : 1 ≤ W) : x / 2 / 2 ^ (W - 1) = x / 2 ^ W := by
  obtain ⟨m, rfl⟩ : ∃ m, W = m + 1 := ⟨W - 1, by omega⟩
  rw [Int.ediv_ediv_of_nonneg (by decide)]
  congr 1
  rw [Nat.add_sub_cancel, Int.pow_succ, Int.mul_comm]
theorem res_wo {W : World} {b : Nat} {x0 x1 x2 v : Value} {tm : Array Value} (h : Has W b 38 #[x0, x1, x2]) (h8 : tm.getD 6 undef = .pointer (some ⟨b, 0, none⟩)) (h9 : tm.getD 7 undef = v) :
    (results Tryd.f28 tm).run Tryd.prog W = .ok (.tuple #[.agg #[x0, x1, x2], v]) W := by
  obtain ⟨c0, c1, c2, _⟩ := h.facts3
  simp only [Array.getD_eq_getD_getElem?] at h8 h9
  simp [results, Tryd.results28, go_sem, h8, h9, c0, c1, c2]
set_option maxRecDepth 100000 in
set_option maxHeartbeats 3000000 in
theorem q_words (w : World) (s : ByteArray) (q : Q8) (width most : Int) (hs : s.size ≤ 140737488351232) (hat : q.at_ ≤ s.size) : Calls Tryd.prog 28 #[.agg (q.cells s), .int .i64 width, .int .i64 most] w fun x w' => WordsPost s (q.words s width most) w.heap.size x w' ∧ Only (fun _ => False) w w' := by
  by_cases h1 : width < 1 ∨ 64 < width
  · have hq : q.words s width most = (q.fail 11, []) := by unfold Q8.words; rw [if_pos h1]
    rw [hq]
    have HF := fun W => q_failed W s q 11
    generalize q.fail 11 = fz at *
    obtain ⟨fa, fe⟩ := fz
    clear hq hat
    obtain ⟨qa, qe⟩ := q
    unfold WordsPost
    simp only [Q8.cells] at *
    have HF := Lib.hid HF
    rcases h1 with h1 | h1
    all_goals
      have A0 : Has ((w.alloc (.cells #[.string s, .int .i64 (qa : Int), .int .i64 qe] 38)).alloc (.cells #[.string ⟨#[]⟩, .int .i64 0, .int .i64 0] 38)) w.heap.size 38 #[.string s, .int .i64 (qa : Int), .int .i64 qe] := (Has.new _ _ _).alloc _
      have B0 : Has ((w.alloc (.cells #[.string s, .int .i64 (qa : Int), .int .i64 qe] 38)).alloc (.cells #[.string ⟨#[]⟩, .int .i64 0, .int .i64 0] 38)) (w.heap.size + 1) 38 #[.string ⟨#[]⟩, .int .i64 0, .int .i64 0] := has_new2 _ _ _ _
      have O0 : Only (fun _ => False) w ((w.alloc (.cells #[.string s, .int .i64 (qa : Int), .int .i64 qe] 38)).alloc (.cells #[.string ⟨#[]⟩, .int .i64 0, .int .i64 0] 38)) := ((Only.refl _ _).alloc _).alloc _
      go_enter Tryd.func28, Tryd.ntmps28
      go_wp2_with fail
      refine (HF.out _).mono ?_; rintro e w1 ⟨rfl, o1⟩
      have A1 := o1.has A0 (fun f => f)
      have B1 := o1.has B0 (fun f => f)
      have O1 := Only.trans O0 o1
      obtain ⟨a0, a1, a2, af⟩ := Has.facts3 A1
      obtain ⟨b0, b1, b2, bf⟩ := Has.facts3 B1
      go_wp2_with fail
      refine bodyPost_ret (v := .tuple #[.agg #[.string s, .int .i64 (fa : Int), .int .i64 fe], .slice none 0 0]) ?hr rfl ?hp
      case hr => exact res_wo (b := w.heap.size + 1) (Has.put3 B1 rfl _ _ _) rfl rfl
      case hp => exact ⟨⟨_, rfl, World.ownsRow_nil _ _ _ _⟩, Only.then_ O1 (Only.put3 _ (w.heap.size + 1) (.string s) (.int .i64 (fa : Int)) (.int .i64 fe)) (fun i hi e => absurd hi (by have : i = w.heap.size + 1 := e; omega))⟩
  · obtain ⟨V, rfl⟩ : ∃ V : Nat, width = (V : Int) := ⟨width.toNat, by omega⟩
    have hV1 : 1 ≤ V := by omega
    have hV64 : V ≤ 64 := by omega
    have HM := fun W => q_many W s q most 65536 hs hat
    have hya := q.many_at s (min most 65536) 0 hat
    have hmx := many_max0 q s (min most 65536) 0
    have hm65 : min most 65536 ≤ 65536 := Int.min_le_right _ _
    have hq0 := many_e0 (q := q) (s := s) (m := min most 65536) (size := 0)
    rw [show ((65536 : Nat) : Int) = 65536 from rfl] at HM
    obtain ⟨⟨y, n⟩, hy⟩ : ∃ M, q.many s (min most 65536) 0 = M := ⟨_, rfl⟩
    rw [q.words_ref s V most hV1 hV64 y n hy]
    rw [hy] at HM hya hmx hq0
    simp only at HM hya hmx hq0
    have hn : n ≤ 65536 := by omega
    have HF := fun W c => q_failed W s q c
    have hfz : y.e = 0 → ∀ c, q.fail c = ⟨q.at_, c⟩ := fun h c => fail_zero (hq0 h)
    have hsz : ((V : Int) + 7) / 8 = ((((V + 7) / 8 : Nat)) : Int) := by omega
    have hszt : ((V : Int) + 7).tdiv 8 = ((((V + 7) / 8 : Nat)) : Int) := by rw [Int.tdiv_eq_ediv_of_nonneg (by omega)]; omega
    have hz1 : 1 ≤ (V + 7) / 8 := by omega
    have hz8 : (V + 7) / 8 ≤ 8 := by omega
    generalize (V + 7) / 8 = size at *
    have hVI1 : ¬ (V : Int) < 1 := by omega
    have hVI64 : ¬ 64 < (V : Int) := by omega
    clear hmx hm65 hq0 hy h1
    obtain ⟨ya, ye⟩ := y
    simp only at hfz hya ⊢
    have HM := Lib.hid HM
    by_cases he : ye = 0
    · subst he
      rw [if_neg (by simp)]
      have hfz := hfz rfl
      simp only [hfz] at HF
      have HF := Lib.hid HF
      clear hfz
      have hdiv : ((s.size : Int) - (ya : Int)).tdiv (size : Int) = ((s.size : Int) - (ya : Int)) / (size : Int) := Int.tdiv_eq_ediv_of_nonneg (by omega)
      have hzp : 0 < (size : Int) := by omega
      have hlt : ((s.size : Int) - (ya : Int)) / (size : Int) < (n : Int) ↔ s.size < ya + n * size := by
        rw [Int.ediv_lt_iff_lt_mul hzp]
        constructor
        · intro h; have h2 : ((n * size : Nat) : Int) = (n : Int) * (size : Int) := by simp
          omega
        · intro h; have h2 : ((n * size : Nat) : Int) = (n : Int) * (size : Int) := by simp
          omega
      have hwd : IntKind.i64.wrap (((s.size : Int) - (ya : Int)) / (size : Int)) = ((s.size : Int) - (ya : Int)) / (size : Int) := by
        have h0 : 0 ≤ ((s.size : Int) - (ya : Int)) / (size : Int) := Int.ediv_nonneg (by omega) (by omega)
        have h1 : ((s.size : Int) - (ya : Int)) / (size : Int) ≤ (s.size : Int) - (ya : Int) := Int.ediv_le_self _ (by omega)
        rw [IntKind.wrap_i64]; omega
      have hz0 : ((size : Int) == 0) = false := by
        have : (size : Int) ≠ 0 := by omega
        simpa using this
      by_cases hl : s.size < ya + n * size
      · rw [if_pos hl]
        have hl' := hlt.mpr hl
        clear hlt hl
        generalize ((s.size : Int) - (ya : Int)) / (size : Int) = dq at *
        obtain ⟨qa, qe⟩ := q
        unfold WordsPost
        simp only [Q8.cells] at *
        have A0 : Has ((w.alloc (.cells #[.string s, .int .i64 (qa : Int), .int .i64 qe] 38)).alloc (.cells #[.string ⟨#[]⟩, .int .i64 0, .int .i64 0] 38)) w.heap.size 38 #[.string s, .int .i64 (qa : Int), .int .i64 qe] := (Has.new _ _ _).alloc _
        have B0 : Has ((w.alloc (.cells #[.string s, .int .i64 (qa : Int), .int .i64 qe] 38)).alloc (.cells #[.string ⟨#[]⟩, .int .i64 0, .int .i64 0] 38)) (w.heap.size + 1) 38 #[.string ⟨#[]⟩, .int .i64 0, .int .i64 0] := has_new2 _ _ _ _
        have O0 : Only (fun _ => False) w ((w.alloc (.cells #[.string s, .int .i64 (qa : Int), .int .i64 qe] 38)).alloc (.cells #[.string ⟨#[]⟩, .int .i64 0, .int .i64 0] 38)) := ((Only.refl _ _).alloc _).alloc _
        go_enter Tryd.func28, Tryd.ntmps28
        go_wp2_with fail
        refine (HM.out _).mono ?_; rintro e w1 ⟨rfl, o1⟩
        have A1 := o1.has A0 (fun f => f)
        have B1 := o1.has B0 (fun f => f)
        have O1 := Only.trans O0 o1
        have C1 := Has.new w1 38 #[.string s, .int .i64 (ya : Int), .int .i64 0]
        replace A1 := A1.alloc (.cells #[.string s, .int .i64 (ya : Int), .int .i64 0] 38)
        replace B1 := B1.alloc (.cells #[.string s, .int .i64 (ya : Int), .int .i64 0] 38)
        replace O1 := O1.alloc (.cells #[.string s, .int .i64 (ya : Int), .int .i64 0] 38)
        obtain ⟨a0, a1, a2, af⟩ := Has.facts3 A1
        obtain ⟨b0, b1, b2, bf⟩ := Has.facts3 B1
        obtain ⟨c0, c1, c2, cf⟩ := Has.facts3 C1
        go_wp2_with fail
        refine (HF.out _ _).mono ?_; rintro e w2 ⟨rfl, o2⟩
        have A2 := o2.has A1 (fun f => f)
        have B2 := o2.has B1 (fun f => f)
        have O2 := Only.trans O1 o2
        obtain ⟨a0, a1, a2, af⟩ := Has.facts3 A2
        obtain ⟨b0, b1, b2, bf⟩ := Has.facts3 B2
        go_wp2_with fail
        refine bodyPost_ret (v := .tuple #[.agg #[.string s, .int .i64 (qa : Int), .int .i64 12], .slice none 0 0]) ?hr rfl ?hp
        case hr => exact res_wo (b := w.heap.size + 1) (Has.put3 B2 rfl _ _ _) rfl rfl
        case hp => exact ⟨⟨_, rfl, World.ownsRow_nil _ _ _ _⟩, Only.then_ O2 (Only.put3 _ (w.heap.size + 1) (.string s) (.int .i64 (qa : Int)) (.int .i64 12)) (fun i hi e => absurd hi (by have : i = w.heap.size + 1 := e; omega))⟩
      · rw [if_neg hl]
        have hl' : ¬ ((s.size : Int) - (ya : Int)) / (size : Int) < (n : Int) := fun h => hl (hlt.mp h)
        clear hlt
        generalize ((s.size : Int) - (ya : Int)) / (size : Int) = dq at *
        have hfit : ya + n * size ≤ s.size := by omega
        have HN := fun W (k : Nat) (hk : k < n) => q_number W s ⟨ya + k * size, 0⟩ size hs hz8 (show ya + k * size ≤ s.size by
          have h1 : (k + 1) * size ≤ n * size := Nat.mul_le_mul_right size hk
          rw [Nat.succ_mul] at h1
          omega)
        have HNK : ∀ k, k < n → Q8.number ⟨ya + k * size, 0⟩ s size = (⟨ya + (k + 1) * size, 0⟩, num s (ya + k * size) size) := by
          intro k hk
          have h1 : (k + 1) * size ≤ n * size := Nat.mul_le_mul_right size hk
          rw [Nat.succ_mul] at h1 ⊢
          rw [Q8.number_ok rfl (by show ya + k * size + size ≤ s.size; omega)]
          simp [Nat.add_assoc]
        have HN := Lib.hid HN
        have HNK := Lib.hid HNK
        obtain ⟨qa, qe⟩ := q
        obtain ⟨i0, hi, hzz0, hzz1, hzz2⟩ := info_parts Tryd.info_u64
        obtain ⟨P, hP⟩ : ∃ P, P = (if (wordsAt s ya size n).all (fun x => decide (x < 2 ^ V)) = true then ((⟨ya + n * size, 0⟩ : Q8), wordsAt s ya size n) else (⟨qa, 13⟩, [])) := ⟨_, rfl⟩
        simp only at hP ⊢
        rw [← hP]
        have HP := Lib.hid hP
        simp only [Q8.cells] at HM HN HF ⊢
        clear hfit hl hP
        have A0 : Has ((w.alloc (.cells #[.string s, .int .i64 (qa : Int), .int .i64 qe] 38)).alloc (.cells #[.string ⟨#[]⟩, .int .i64 0, .int .i64 0] 38)) w.heap.size 38 #[.string s, .int .i64 (qa : Int), .int .i64 qe] := (Has.new _ _ _).alloc _
        have B0 : Has ((w.alloc (.cells #[.string s, .int .i64 (qa : Int), .int .i64 qe] 38)).alloc (.cells #[.string ⟨#[]⟩, .int .i64 0, .int .i64 0] 38)) (w.heap.size + 1) 38 #[.string ⟨#[]⟩, .int .i64 0, .int .i64 0] := has_new2 _ _ _ _
        have O0 : Only (fun _ => False) w ((w.alloc (.cells #[.string s, .int .i64 (qa : Int), .int .i64 qe] 38)).alloc (.cells #[.string ⟨#[]⟩, .int .i64 0, .int .i64 0] 38)) := ((Only.refl _ _).alloc _).alloc _
        go_enter Tryd.func28, Tryd.ntmps28
        go_wp2_with fail
        refine (HM.out _).mono ?_; rintro e w1 ⟨rfl, o1⟩
        have A1 := o1.has A0 (fun f => f)
        have B1 := o1.has B0 (fun f => f)
        have O1 := Only.trans O0 o1
        have HB1 := Lib.hid B1.lt
        have C1 := Has.new w1 38 #[.string s, .int .i64 (ya : Int), .int .i64 0]
        replace A1 := A1.alloc (.cells #[.string s, .int .i64 (ya : Int), .int .i64 0] 38)
        replace B1 := B1.alloc (.cells #[.string s, .int .i64 (ya : Int), .int .i64 0] 38)
        replace O1 := O1.alloc (.cells #[.string s, .int .i64 (ya : Int), .int .i64 0] 38)
        obtain ⟨a0, a1, a2, af⟩ := Has.facts3 A1
        obtain ⟨b0, b1, b2, bf⟩ := Has.facts3 B1
        have HL1 := Lib.hid O1.size
        obtain ⟨c0, c1, c2, cf⟩ := Has.facts3 C1
        clear a1 a2 af bf cf b0 b1 b2 c0
        go_wp2_with fail
        go_loopw [11, 12, 13, 14] (fun u i d x W => ∃ (k pk : Nat) (u0 : Value), k ≤ n ∧ i = .int .i64 k ∧ u0 = u ∧ Hid (pk = ya + k * size) ∧ W.ownsRow (w1.heap.size + 1) 25 1 u0 k (ucells (wordsAt s ya size k)) ∧ w1.heap.size + 1 ≤ W.heap.size ∧ Has W w.heap.size 38 #[.string s, .int .i64 (qa : Int), .int .i64 qe] ∧ Has W (w.heap.size + 1) 38 #[.string ⟨#[]⟩, .int .i64 0, .int .i64 0] ∧ Has W w1.heap.size 38 #[.string s, .int .i64 (pk : Int), .int .i64 0] ∧ Only (fun _ => False) w W ∧ Hid (∀ i, i < k → num s (ya + i * size) size < 2 ^ V)) (fun _ i _ _ _ => n - (intOf i).toNat)
        case atStart => exact ⟨0, ya, _, by omega, rfl, rfl, Lib.hid (by rw [Nat.zero_mul]; rfl), World.ownsRow_nil _ _ _ _, by simp, A1, B1, C1, O1, Lib.hid (fun i hi => absurd hi (by omega))⟩
        case round =>
          obtain ⟨k, pk, u, hk, rfl, rfl, hpk, hown, hlow, hA, hB, hC, hO, hall⟩ := hrel
          have hk' : k < n ∨ k = n := by omega
          rcases hk' with hkn | rfl
          · have hki : (k : Int) < (n : Int) := by omega
            have HN1 := fun W => HN.out W k hkn
            rw [HNK.out k hkn] at HN1
            simp only at HN1
            have hx0 := num_range s (ya + k * size) size
            have hx1 := num_u64 s (ya + k * size) size hz8
            have HS := Lib.hid (wordsAt_snoc s ya size k)
            have HW := Lib.hid (fun (h : ¬ num s (ya + k * size) size < 2 ^ V) => wordsAt_not (n := n) k hkn h)
            have HAL := Lib.hid (fun (h : num s (ya + k * size) size < 2 ^ V) => all_snoc hall.out h)
            have HSH := half_shift (num s (ya + k * size) size) V hV1
            have hvm : (V : Int) - 1 = ((V - 1 : Nat) : Int) := by omega
            have hvn : min (V - 1) 64 = V - 1 := by omega
            have hvw : IntKind.u64.wrap ((V - 1 : Nat) : Int) = ((V - 1 : Nat) : Int) := by rw [IntKind.wrap_u64]; omega
            generalize hxg : num s (ya + k * size) size = x at *
            generalize V - 1 = v1 at *
            clear hxg hall
            rw [← hpk.out] at HN1
            obtain ⟨pk1, hpk1⟩ : ∃ p, p = ya + (k + 1) * size := ⟨_, rfl⟩
            rw [← hpk1] at HN1
            have HPK1 := Lib.hid hpk1
            have HN1 := Lib.hid HN1
            clear hpk1
            have hcase : (V = 64 ∧ x < 2 ^ V) ∨ (V < 64 ∧ x < 2 ^ V ∧ x / 2 ^ V = 0) ∨ (V < 64 ∧ ¬ x < 2 ^ V ∧ 1 ≤ x / 2 ^ V) := by
              by_cases h64 : V = 64
              · refine .inl ⟨h64, ?_⟩
                subst h64
                have : (2 : Int) ^ 64 = 18446744073709551616 := by decide
                omega
              · by_cases hxx : x < 2 ^ V
                · exact .inr (.inl ⟨by omega, hxx, div_small hx0 hxx⟩)
                · exact .inr (.inr ⟨by omega, hxx, div_great hxx⟩)
            obtain ⟨a0, a1, a2, af⟩ := Has.facts3 hA
            obtain ⟨c0, c1, c2, cf⟩ := Has.facts3 hC
            rcases hcase with ⟨hc0, hc⟩ | ⟨hc1, hc2, hc3⟩ | ⟨hc1, hc2, hc3⟩
            · have HC1 := Lib.hid hc
              have hw1 : ¬ (V : Int) < 64 := by omega
              clear hc hc0 HSH
              go_wp2_with fail
              refine (HN1.out _).mono ?_; rintro e w2 ⟨rfl, o2⟩
              have A2 := (o2.has hA (fun f => f)).alloc (.cells #[.string s, .int .i64 (pk1 : Int), .int .i64 0] 38)
              have B2 := (o2.has hB (fun f => f)).alloc (.cells #[.string s, .int .i64 (pk1 : Int), .int .i64 0] 38)
              have C2 := (o2.has hC (fun f => f)).alloc (.cells #[.string s, .int .i64 (pk1 : Int), .int .i64 0] 38)
              have D2 := Has.new w2 38 #[.string s, .int .i64 (pk1 : Int), .int .i64 0]
              have O2 := (hO.trans o2).alloc (.cells #[.string s, .int .i64 (pk1 : Int), .int .i64 0] 38)
              have own2 := (o2.own hown (fun _ _ f => f)).alloc (.cells #[.string s, .int .i64 (pk1 : Int), .int .i64 0] 38)
              have hlow2 : w1.heap.size + 1 ≤ w2.heap.size := Nat.le_trans hlow o2.size
              have HOW := Lib.hid own2
              clear o2 hA hB hC hO hown
              go_wp2_with (at_builtin; go_must (refine wpList_append_own_at _ rfl _ _ 47 rfl (w1.heap.size + 1) 25 i0 (.int .u64 0) 1 8 Tryd.underlying47 hi hzz0 hzz1 hzz2 rfl (by decide) u k (ucells (wordsAt s ya size k)) ?hs0 (own2.alloc _) ⟨w2.heap.size + 1, 0, none⟩ 1 1 [_] ?hx0 rfl (cell_new_1 _ _ _ _) ?c20 ?c30 ?c40 ?c50 ?_); (case hs0 => rfl); (case hx0 => rfl); (case c20 => intro y hy; obtain rfl := List.mem_singleton.1 hy; rfl); (case c30 => unfold maxLen; omega); (case c40 => omega); (case c50 => simp; omega); intro v4 w4 ho4 hg4 _ hat4; (have A4 := Has.grown (A2.alloc _) hg4 (fun q => by have := own_ge HOW.out q.symm; have := HB1.out; omega)); (have B4 := Has.grown (B2.alloc _) hg4 (fun q => by have := own_ge HOW.out q.symm; have := HB1.out; omega)); (have C4 := Has.grown (C2.alloc _) hg4 (fun q => by have := own_ge HOW.out q.symm; omega)); (have D4 := Has.grown (D2.alloc _) hg4 (fun q => own_apart HOW.out D2 (by decide) q.symm)); (have O4 := Only.grown (O2.alloc _) hg4 (fun j q hj => by have := own_ge HOW.out q; have := HL1.out; have := HB1.out; omega)); (obtain ⟨d0, d1, d2, df⟩ := Has.facts3 D4); (obtain ⟨c0, c1, c2, cf⟩ := Has.facts3 C4))
              have hrow4 : ∀ j, v4.ownBlock = some j → w1.heap.size + 1 ≤ j := fun j e => own_ge ho4 e
              have hsz4 := hg4.size
              clear A2 B2 C2 D2 O2 own2 df d0 d1 d2 hat4
              go_roundw
              case rel => exact ⟨k + 1, pk1, v4, by omega, by go_num, rfl, HPK1, by rw [HS.out, ucells_snoc]; exact ownsRow_setCell_other (a := ⟨w1.heap.size, 2, none⟩) (ownsRow_setCell_other (a := ⟨w1.heap.size, 1, none⟩) (ownsRow_setCell_other (a := ⟨w1.heap.size, 0, none⟩) ho4 (fun q => by have : w1.heap.size + 1 ≤ w1.heap.size := hrow4 _ q; omega) _) (fun q => by have : w1.heap.size + 1 ≤ w1.heap.size := hrow4 _ q; omega) _) (fun q => by have : w1.heap.size + 1 ≤ w1.heap.size := hrow4 _ q; omega) _, by simp at hsz4; simp [World.setCell]; omega, A4.off3 (by have := HB1.out; show w.heap.size ≠ w1.heap.size; omega) _ _ _, B4.off3 (by have := HB1.out; show w.heap.size + 1 ≠ w1.heap.size; omega) _ _ _, Has.put3 C4 rfl _ _ _, O4.then_ (Only.put3 _ w1.heap.size (.string s) (.int .i64 (pk1 : Int)) (.int .i64 0)) (fun i hi e => absurd hi (by have : i = w1.heap.size := e; have := HB1.out; omega)), Lib.hid (HAL.out HC1.out)⟩
              case measure => simp only [intOf]; omega
            · have HC1 := Lib.hid hc2
              have hw1 : (V : Int) < 64 := by omega
              rw [hc3] at HSH
              clear hc2 hc1 hc3
              go_wp2_with fail
              refine (HN1.out _).mono ?_; rintro e w2 ⟨rfl, o2⟩
              have A2 := (o2.has hA (fun f => f)).alloc (.cells #[.string s, .int .i64 (pk1 : Int), .int .i64 0] 38)
              have B2 := (o2.has hB (fun f => f)).alloc (.cells #[.string s, .int .i64 (pk1 : Int), .int .i64 0] 38)
              have C2 := (o2.has hC (fun f => f)).alloc (.cells #[.string s, .int .i64 (pk1 : Int), .int .i64 0] 38)
              have D2 := Has.new w2 38 #[.string s, .int .i64 (pk1 : Int), .int .i64 0]
              have O2 := (hO.trans o2).alloc (.cells #[.string s, .int .i64 (pk1 : Int), .int .i64 0] 38)
              have own2 := (o2.own hown (fun _ _ f => f)).alloc (.cells #[.string s, .int .i64 (pk1 : Int), .int .i64 0] 38)
              have hlow2 : w1.heap.size + 1 ≤ w2.heap.size := Nat.le_trans hlow o2.size
              have HOW := Lib.hid own2
              clear o2 hA hB hC hO hown
              go_wp2_with (at_builtin; go_must (refine wpList_append_own_at _ rfl _ _ 47 rfl (w1.heap.size + 1) 25 i0 (.int .u64 0) 1 8 Tryd.underlying47 hi hzz0 hzz1 hzz2 rfl (by decide) u k (ucells (wordsAt s ya size k)) ?hs0 (own2.alloc _) ⟨w2.heap.size + 1, 0, none⟩ 1 1 [_] ?hx0 rfl (cell_new_1 _ _ _ _) ?c20 ?c30 ?c40 ?c50 ?_); (case hs0 => rfl); (case hx0 => rfl); (case c20 => intro y hy; obtain rfl := List.mem_singleton.1 hy; rfl); (case c30 => unfold maxLen; omega); (case c40 => omega); (case c50 => simp; omega); intro v4 w4 ho4 hg4 _ hat4; (have A4 := Has.grown (A2.alloc _) hg4 (fun q => by have := own_ge HOW.out q.symm; have := HB1.out; omega)); (have B4 := Has.grown (B2.alloc _) hg4 (fun q => by have := own_ge HOW.out q.symm; have := HB1.out; omega)); (have C4 := Has.grown (C2.alloc _) hg4 (fun q => by have := own_ge HOW.out q.symm; omega)); (have D4 := Has.grown (D2.alloc _) hg4 (fun q => own_apart HOW.out D2 (by decide) q.symm)); (have O4 := Only.grown (O2.alloc _) hg4 (fun j q hj => by have := own_ge HOW.out q; have := HL1.out; have := HB1.out; omega)); (obtain ⟨d0, d1, d2, df⟩ := Has.facts3 D4); (obtain ⟨c0, c1, c2, cf⟩ := Has.facts3 C4))
              have hrow4 : ∀ j, v4.ownBlock = some j → w1.heap.size + 1 ≤ j := fun j e => own_ge ho4 e
              have hsz4 := hg4.size
              clear A2 B2 C2 D2 O2 own2 df d0 d1 d2 hat4
              go_roundw
              case rel => exact ⟨k + 1, pk1, v4, by omega, by go_num, rfl, HPK1, by rw [HS.out, ucells_snoc]; exact ownsRow_setCell_other (a := ⟨w1.heap.size, 2, none⟩) (ownsRow_setCell_other (a := ⟨w1.heap.size, 1, none⟩) (ownsRow_setCell_other (a := ⟨w1.heap.size, 0, none⟩) ho4 (fun q => by have : w1.heap.size + 1 ≤ w1.heap.size := hrow4 _ q; omega) _) (fun q => by have : w1.heap.size + 1 ≤ w1.heap.size := hrow4 _ q; omega) _) (fun q => by have : w1.heap.size + 1 ≤ w1.heap.size := hrow4 _ q; omega) _, by simp at hsz4; simp [World.setCell]; omega, A4.off3 (by have := HB1.out; show w.heap.size ≠ w1.heap.size; omega) _ _ _, B4.off3 (by have := HB1.out; show w.heap.size + 1 ≠ w1.heap.size; omega) _ _ _, Has.put3 C4 rfl _ _ _, O4.then_ (Only.put3 _ w1.heap.size (.string s) (.int .i64 (pk1 : Int)) (.int .i64 0)) (fun i hi e => absurd hi (by have : i = w1.heap.size := e; have := HB1.out; omega)), Lib.hid (HAL.out HC1.out)⟩
              case measure => simp only [intOf]; omega
            · have HC2 := Lib.hid hc2
              have hw1 : (V : Int) < 64 := by omega
              have hne : (x / 2 / 2 ^ v1 != 0) = true := by
                rw [HSH]
                have : x / 2 ^ V ≠ 0 := by omega
                simpa using this
              clear hc2 hc1 hc3 HSH
              go_wp2_with fail
              refine (HN1.out _).mono ?_; rintro e w2 ⟨rfl, o2⟩
              have A2 := (o2.has hA (fun f => f)).alloc (.cells #[.string s, .int .i64 (pk1 : Int), .int .i64 0] 38)
              have B2 := (o2.has hB (fun f => f)).alloc (.cells #[.string s, .int .i64 (pk1 : Int), .int .i64 0] 38)
              have O2 := (hO.trans o2).alloc (.cells #[.string s, .int .i64 (pk1 : Int), .int .i64 0] 38)
              obtain ⟨a0, a1, a2, af⟩ := Has.facts3 A2
              clear o2 hA hB hC hO hown
              go_wp2_with fail
              refine (HF.out _ _).mono ?_; rintro e w3 ⟨rfl, o3⟩
              have B3 := o3.has B2 (fun f => f)
              have O3 := O2.trans o3
              obtain ⟨b0, b1, b2, bf⟩ := Has.facts3 B3
              go_wp2_with fail
              rw [show P = ((⟨qa, 13⟩ : Q8), []) by rw [HP.out, if_neg (HW.out HC2.out)]]
              unfold WordsPost
              simp only [Q8.cells]
              refine bodyPost_ret (v := .tuple #[.agg #[.string s, .int .i64 (qa : Int), .int .i64 13], .slice none 0 0]) ?hr rfl ?hp
              case hr => exact res_wo (b := w.heap.size + 1) (Has.put3 B3 rfl _ _ _) rfl rfl
              case hp => exact ⟨⟨_, rfl, World.ownsRow_nil _ _ _ _⟩, Only.then_ O3 (Only.put3 _ (w.heap.size + 1) (.string s) (.int .i64 (qa : Int)) (.int .i64 13)) (fun i hi e => absurd hi (by have : i = w.heap.size + 1 := e; omega))⟩
          · have hki : ¬ (k : Int) < (k : Int) := by omega
            have HALL := Lib.hid (wordsAt_all hall.out)
            obtain ⟨b0, b1, b2, bf⟩ := Has.facts3 hB
            obtain ⟨c0, c1, c2, cf⟩ := Has.facts3 hC
            go_wp2_with fail
            rw [show P = ((⟨pk, 0⟩ : Q8), wordsAt s ya size k) by rw [HP.out, if_pos HALL.out, ← hpk.out]]
            unfold WordsPost
            simp only [Q8.cells]
            refine bodyPost_ret (v := .tuple #[.agg #[.string s, .int .i64 (pk : Int), .int .i64 0], u]) ?hr rfl ?hp
            case hr => exact res_wo (b := w.heap.size + 1) (Has.put3 hB rfl _ _ _) rfl rfl
            case hp => exact ⟨⟨u, rfl, by rw [wordsAt_length]; exact ownsRow_setCell_other (a := ⟨w.heap.size + 1, 2, none⟩) (ownsRow_setCell_other (a := ⟨w.heap.size + 1, 1, none⟩) (ownsRow_setCell_other (a := ⟨w.heap.size + 1, 0, none⟩) (own_base hown (by have := HB1.out; omega)) (fun q => by have : w1.heap.size + 1 ≤ w.heap.size + 1 := own_ge hown q; have := HB1.out; omega) _) (fun q => by have : w1.heap.size + 1 ≤ w.heap.size + 1 := own_ge hown q; have := HB1.out; omega) _) (fun q => by have : w1.heap.size + 1 ≤ w.heap.size + 1 := own_ge hown q; have := HB1.out; omega) _⟩, Only.then_ hO (Only.put3 _ (w.heap.size + 1) (.string s) (.int .i64 (pk : Int)) (.int .i64 0)) (fun i hi e => absurd hi (by have : i = w.heap.size + 1 := e; omega))⟩
    · rw [if_pos he]
      have he' : (ye != 0) = true := by simpa using he
      clear he hfz HF
      obtain ⟨qa, qe⟩ := q
      unfold WordsPost
      simp only [Q8.cells] at *
      have A0 : Has ((w.alloc (.cells #[.string s, .int .i64 (qa : Int), .int .i64 qe] 38)).alloc (.cells #[.string ⟨#[]⟩, .int .i64 0, .int .i64 0] 38)) w.heap.size 38 #[.string s, .int .i64 (qa : Int), .int .i64 qe] := (Has.new _ _ _).alloc _
      have B0 : Has ((w.alloc (.cells #[.string s, .int .i64 (qa : Int), .int .i64 qe] 38)).alloc (.cells #[.string ⟨#[]⟩, .int .i64 0, .int .i64 0] 38)) (w.heap.size + 1) 38 #[.string ⟨#[]⟩, .int .i64 0, .int .i64 0] := has_new2 _ _ _ _
      have O0 : Only (fun _ => False) w ((w.alloc (.cells #[.string s, .int .i64 (qa : Int), .int .i64 qe] 38)).alloc (.cells #[.string ⟨#[]⟩, .int .i64 0, .int .i64 0] 38)) := ((Only.refl _ _).alloc _).alloc _
      go_enter Tryd.func28, Tryd.ntmps28
      go_wp2_with fail
      refine (HM.out _).mono ?_; rintro e w1 ⟨rfl, o1⟩
      have A1 := o1.has A0 (fun f => f)
      have B1 := o1.has B0 (fun f => f)
      have O1 := Only.trans O0 o1
      have C1 := Has.new w1 38 #[.string s, .int .i64 (ya : Int), .int .i64 ye]
      replace A1 := A1.alloc (.cells #[.string s, .int .i64 (ya : Int), .int .i64 ye] 38)
      replace B1 := B1.alloc (.cells #[.string s, .int .i64 (ya : Int), .int .i64 ye] 38)
      replace O1 := O1.alloc (.cells #[.string s, .int .i64 (ya : Int), .int .i64 ye] 38)
      obtain ⟨a0, a1, a2, af⟩ := Has.facts3 A1
      obtain ⟨b0, b1, b2, bf⟩ := Has.facts3 B1
      obtain ⟨c0, c1, c2, cf⟩ := Has.facts3 C1
      go_wp2_with fail
      refine bodyPost_ret (v := .tuple #[.agg #[.string s, .int .i64 (ya : Int), .int .i64 ye], .slice none 0 0]) ?hr rfl ?hp
      case hr => exact res_wo (b := w.heap.size + 1) (Has.put3 B1 rfl _ _ _) rfl rfl
      case hp => exact ⟨⟨_, rfl, World.ownsRow_nil _ _ _ _⟩, Only.then_ O1 (Only.put3 _ (w.heap.size + 1) (.string s) (.int .i64 (ya : Int)) (.int .i64 ye)) (fun i hi e => absurd hi (by have : i = w.heap.size + 1 := e; omega))⟩
end Go.Proofs.YtkafnkkipflbbaaDoor
