/- The reference of layer 2: Same and Nums at equal lists, Read. -/
import Derived.Test.YtkafnkkipflbbaaDoorBr
import Derived.Maps.AppendAt
import Derived.OwnWalk
set_option linter.unusedSimpArgs false
set_option linter.unusedVariables false
namespace Go.Proofs.YtkafnkkipflbbaaDoor
open Go.RowKit

def bcellsB (l : List Bool) : List Value := l.map .bool
theorem bcellsB_snoc (l : List Bool) (b : Bool) : bcellsB (l ++ [b]) = bcellsB l ++ [.bool b] := by simp [bcellsB]
theorem bcellsB_length (l : List Bool) : (bcellsB l).length = l.length := by simp [bcellsB]
/-- A slice that reads as these values. -/
def Reads (w : World) (v : Value) (xs : List Value) : Prop := ∃ A c, v = .slice A xs.length c ∧ (xs = [] ∨ ∃ g, A = some ⟨g, 0, none⟩ ∧ ∀ k x, xs[k]? = some x → w.cell? ⟨g, k, none⟩ = some x)
theorem Reads.only {S : Nat → Prop} {w w' : World} {v : Value} {xs : List Value} (h : Reads w v xs) (o : Only S w w') (hS : ∀ g, v.ownBlock = some g → ¬ S g) : Reads w' v xs := by
  obtain ⟨A, c, rfl, h⟩ := h
  refine ⟨A, c, rfl, ?_⟩
  rcases h with h | ⟨g, rfl, h⟩
  · exact .inl h
  · exact .inr ⟨g, rfl, fun k x hx => o.cell (h k x hx) (hS g rfl)⟩
theorem Reads.inner {w w' : World} {v : Value} {xs : List Value} (h : Reads w v xs) (o : Only (fun _ => False) w w') : Reads w' v xs := h.only o (fun _ _ f => f)
theorem Reads.ofOwn {w : World} {base n : Nat} {e : TypeId} {v : Value} {xs : List Value} (h : w.ownsRow base e 1 v n xs) (hn : xs.length = n) : Reads w v xs := by
  rcases h.2 with ⟨rfl, h2⟩ | ⟨g, cap, cur, rfl, _⟩
  · exact ⟨none, 0, by rw [hn, h2], .inl (by rw [← List.length_eq_zero_iff]; omega)⟩
  · refine ⟨some ⟨g, 0, none⟩, cap, by rw [hn], .inr ⟨g, rfl, fun k x hx => ?_⟩⟩
    have h3 := h.cells (g := g) rfl k x hx
    rcases k with _ | k
    · simpa [Addr.add] using h3
    · simpa [Addr.add] using h3
theorem Reads.ofRow {w : World} {g n c : Nat} {t : TypeId} {f : Nat → Value} (h : w.rowIs g t n f) : Reads w (.slice (some ⟨g, 0, none⟩) n c) ((List.range n).map f) := by
  refine ⟨_, c, by simp, .inr ⟨g, rfl, fun k x hx => ?_⟩⟩
  have hk : k < n := by
    have := (List.getElem?_eq_some_iff.1 hx).1
    simpa using this
  rw [h.cell hk]
  simpa [hk] using hx
theorem Reads.at {w : World} {g n c : Nat} {xs : List Value} (h : Reads w (.slice (some ⟨g, 0, none⟩) n c) xs) {k : Nat} {x : Value} (hx : xs[k]? = some x) : w.cell? ⟨g, k, none⟩ = some x := by
  obtain ⟨A, c', e, h⟩ := h
  rcases h with h | ⟨g', rfl, h⟩
  · subst h; cases hx
  · injection e with e1 e2 e3
    obtain rfl : g' = g := by
      have := Option.some.inj e1
      injection this with a
      exact a.symm
    exact h k x hx
/-- It is a literal slice: nil or not, its length known. -/
theorem Reads.shape {w : World} {v : Value} {xs : List Value} (h : Reads w v xs) : ∃ A c, v = .slice A xs.length c ∧ (∀ k x, xs[k]? = some x → ∃ g, A = some ⟨g, 0, none⟩ ∧ w.cell? ⟨g, k, none⟩ = some x) := by
  obtain ⟨A, c, rfl, h⟩ := h
  refine ⟨A, c, rfl, fun k x hx => ?_⟩
  rcases h with h | ⟨g, rfl, h⟩
  · subst h; cases hx
  · exact ⟨g, rfl, h k x hx⟩

set_option maxRecDepth 100000 in
set_option maxHeartbeats 2000000 in
theorem same_eq (w : World) (a b : Value) (l : List Bool) (ha : Reads w a (bcellsB l)) (hb : Reads w b (bcellsB l)) (hl : l.length ≤ 4611686018427387904) : Calls Tryd.prog 32 #[a, b] w fun x w' => x = .returned (.bool true) ∧ Only (fun _ => False) w w' := by
  obtain ⟨A, ca, rfl, ha'⟩ := ha.shape
  obtain ⟨B, cb, rfl, hb'⟩ := hb.shape
  rw [bcellsB_length] at *
  have HA := Lib.hid ha
  have HB := Lib.hid hb
  have HA' := Lib.hid ha'
  have HB' := Lib.hid hb'
  have HG : ∀ k, k < l.length → (bcellsB l)[k]? = some (.bool (l.getD k false)) := fun k hk => by simp [bcellsB, List.getD_eq_getElem?_getD, List.getElem?_eq_getElem hk]
  have HG := Lib.hid HG
  clear ha hb ha' hb'
  generalize hn : l.length = n at *
  clear hn
  go_enter Tryd.func32, Tryd.ntmps32
  go_wp2_with fail
  go_loopw [5] (fun i W => ∃ k : Nat, k ≤ n ∧ i = .int .i64 k ∧ Only (fun _ => False) w W) (fun i _ => n - (intOf i).toNat)
  case atStart => exact ⟨0, by omega, rfl, Only.refl _ _⟩
  case round =>
    obtain ⟨k, hk, rfl, ho⟩ := hrel
    have hk' : k < n ∨ k = n := by omega
    rcases hk' with hkn | rfl
    · have hki : (k : Int) < (n : Int) := by omega
      obtain ⟨g, rfl, _⟩ := HA'.out k _ (HG.out k hkn)
      obtain ⟨g2, rfl, _⟩ := HB'.out k _ (HG.out k hkn)
      have c1 := (HA.out.inner ho).at (HG.out k hkn)
      have c2 := (HB.out.inner ho).at (HG.out k hkn)
      generalize l.getD k false = b at *
      go_wp2_with fail
      go_quiet (fail)
      go_wp2_with fail
      go_roundw
      case rel => exact ⟨k + 1, by omega, by go_num, ho.drewN _⟩
      case measure => simp only [intOf]; omega
    · have hki : ¬ (k : Int) < (k : Int) := by omega
      go_wp2_with fail
      go_ret
      exact ⟨rfl, ho⟩
set_option maxRecDepth 100000 in
set_option maxHeartbeats 2000000 in
theorem nums_eq (w : World) (a b : Value) (l : List Int) (ha : Reads w a (l.map fun x => .int .u64 x)) (hb : Reads w b (l.map fun x => .int .u64 x)) (hl : l.length ≤ 4611686018427387904) : Calls Tryd.prog 29 #[a, b] w fun x w' => x = .returned (.bool true) ∧ Only (fun _ => False) w w' := by
  obtain ⟨A, ca, rfl, ha'⟩ := ha.shape
  obtain ⟨B, cb, rfl, hb'⟩ := hb.shape
  rw [List.length_map] at *
  have HA := Lib.hid ha
  have HB := Lib.hid hb
  have HA' := Lib.hid ha'
  have HB' := Lib.hid hb'
  have HG : ∀ k, k < l.length → (l.map fun x => Value.int .u64 x)[k]? = some (.int .u64 (l.getD k 0)) := fun k hk => by simp [List.getD_eq_getElem?_getD, List.getElem?_eq_getElem hk]
  have HG := Lib.hid HG
  clear ha hb ha' hb'
  generalize hn : l.length = n at *
  clear hn
  go_enter Tryd.func29, Tryd.ntmps29
  go_wp2_with fail
  go_loopw [5] (fun i W => ∃ k : Nat, k ≤ n ∧ i = .int .i64 k ∧ Only (fun _ => False) w W) (fun i _ => n - (intOf i).toNat)
  case atStart => exact ⟨0, by omega, rfl, Only.refl _ _⟩
  case round =>
    obtain ⟨k, hk, rfl, ho⟩ := hrel
    have hk' : k < n ∨ k = n := by omega
    rcases hk' with hkn | rfl
    · have hki : (k : Int) < (n : Int) := by omega
      obtain ⟨g, rfl, _⟩ := HA'.out k _ (HG.out k hkn)
      obtain ⟨g2, rfl, _⟩ := HB'.out k _ (HG.out k hkn)
      have c1 := (HA.out.inner ho).at (HG.out k hkn)
      have c2 := (HB.out.inner ho).at (HG.out k hkn)
      generalize l.getD k 0 = b at *
      go_wp2_with fail
      go_quiet (fail)
      go_wp2_with fail
      go_roundw
      case rel => exact ⟨k + 1, by omega, by go_num, ho.drewN _⟩
      case measure => simp only [intOf]; omega
    · have hki : ¬ (k : Int) < (k : Int) := by omega
      go_wp2_with fail
      go_ret
      exact ⟨rfl, ho⟩

theorem bit_at {s : ByteArray} {i : Nat} (h : i / 8 < s.size) : ((s[i / 8].toNat : Int) / 2 ^ (i % 8)).tmod 2 = if byteBit s i = true then 1 else 0 := by
  rw [Int.tmod_eq_emod_of_nonneg (Int.ediv_nonneg (by omega) (Int.pow_nonneg (by decide)))]
  rw [byteBit_at h, Nat.testBit_eq_decide_div_mod_eq]
  have h1 : (s[i / 8].toNat : Int) / 2 ^ (i % 8) = ((s[i / 8].toNat / 2 ^ (i % 8) : Nat) : Int) := by simp
  rw [h1]
  generalize s[i / 8].toNat / 2 ^ (i % 8) = y
  by_cases hy : y % 2 = 1
  · simp [hy]; omega
  · simp [hy]; omega
theorem take_bits (s : ByteArray) (n i : Nat) (h : i < n) : (List.range (min (i + 1) n)).map (byteBit s) = (List.range (min i n)).map (byteBit s) ++ [byteBit s i] := by
  rw [Nat.min_eq_left (by omega), Nat.min_eq_left (by omega), List.range_succ]
  simp
theorem far_snoc {f : Nat → Bool} {n k : Nat} (h : ∀ j, j < k → n ≤ j → f j = false) (hk : f k = false) : ∀ j, j < k + 1 → n ≤ j → f j = false := by
  intro j hj hn
  rcases Nat.lt_or_ge j k with h1 | h1
  · exact h j h1 hn
  · obtain rfl : j = k := by omega
    exact hk
theorem own_ge2 {w : World} {base : Nat} {e : TypeId} {size n : Nat} {v : Value} {xs : List Value} (h : w.ownsRow base e size v n xs) {k : Nat} (q : v.ownBlock = some k) : base ≤ k := by
  rcases h.2 with ⟨rfl, _⟩ | ⟨g, cap, cur, rfl, hb, _⟩
  · cases q
  · cases q; exact hb
theorem bitsOf_eq {n : Nat} {s : ByteArray} (h : ∀ i, i < 8 * s.size → n ≤ i → byteBit s i = false) : bitsOf n s = some ((List.range n).map (byteBit s)) := by
  unfold bitsOf
  rw [if_pos]
  simp only [List.all_eq_true, List.mem_range]
  intro i hi
  by_cases hin : i < n
  · simp [hin]
  · simp [h i hi (by omega)]
theorem bitsOf_no {n i : Nat} {s : ByteArray} (hi : i < 8 * s.size) (hn : n ≤ i) (hb : byteBit s i = true) : bitsOf n s = none := by
  unfold bitsOf
  rw [if_neg]
  simp only [List.all_eq_true, List.mem_range]
  intro h
  have h2 := h i hi
  have h3 : ¬ i < n := by omega
  simp [h3, hb] at h2
def RefRead (n : Nat) (s : ByteArray) (B : Nat) (e : Ending) (W : World) : Prop := match bitsOf n s with
  | some l => ∃ v, e = .returned (.tuple #[v, .int .i64 0]) ∧ W.ownsRow B 4 1 v l.length (bcellsB l)
  | none => e = .returned (.tuple #[.slice none 0 0, .int .i64 13])
set_option maxRecDepth 100000 in
set_option maxHeartbeats 4000000 in
theorem rread_any (w : World) (n : Nat) (s : ByteArray) (hn : n ≤ 4194304) (hs : s.size = (n + 7) / 8) : Calls Tryd.prog 52 #[.int .i64 n, .string s] w fun x w' => RefRead n s w.heap.size x w' ∧ Only (fun _ => False) w w' := by
  obtain ⟨i0, hi, hz0, hz1, hz2⟩ := info_parts Tryd.info_b
  have hz : (n : Int) / 8 + ((n : Int) % 8 + 7) / 8 = (s.size : Int) := by omega
  have hn' : (n : Int) ≤ 4194304 := by omega
  have HS := Lib.hid hs
  have hs0 : s.size ≤ 1000000 := by omega
  have hsn : n ≤ 8 * s.size := by omega
  clear hs
  go_enter Tryd.func52, Tryd.ntmps52
  go_wp2_with fail
  go_loopw [6, 7, 8] (fun u i _ W => ∃ (k : Nat) (u0 : Value), k ≤ 8 * s.size ∧ i = .int .i64 k ∧ u0 = u ∧ W.ownsRow w.heap.size 4 1 u0 (min k n) (bcellsB ((List.range (min k n)).map (byteBit s))) ∧ w.heap.size ≤ W.heap.size ∧ Only (fun _ => False) w W ∧ Hid (∀ j, j < k → n ≤ j → byteBit s j = false)) (fun _ i _ _ => 8 * s.size - (intOf i).toNat)
  case atStart => exact ⟨0, _, by omega, rfl, rfl, by rw [Nat.zero_min]; exact World.ownsRow_nil _ _ _ _, Nat.le_refl _, Only.refl _ _, Lib.hid (fun j hj => absurd hj (by omega))⟩
  case round =>
    obtain ⟨k, u, hk, rfl, rfl, hown, hlow, ho, hall⟩ := hrel
    have hk' : k < 8 * s.size ∨ k = 8 * s.size := by omega
    rcases hk' with hkn | rfl
    · have hki : (k : Int) < 8 * (s.size : Int) := by omega
      have hd : (k : Int) / 8 = ((k / 8 : Nat) : Int) := by omega
      have hm : (k : Int) % 8 = ((k % 8 : Nat) : Int) := by omega
      have hm8 : k % 8 < 8 := Nat.mod_lt _ (by decide)
      have hdl : k / 8 < s.size := by omega
      have hbit := bit_at hdl
      have HBIT := Lib.hid (fun (h1 : n ≤ k) (h2 : byteBit s k = true) => bitsOf_no hkn h1 h2)
      generalize hdg : k / 8 = d at *
      generalize hmg : k % 8 = m at *
      clear hdg hmg
      have hdl' : (d : Int) < (s.size : Int) := by omega
      have hmn : min m 8 = m := by omega
      by_cases hb : byteBit s k = true
      · rw [if_pos hb] at hbit
        have HB := Lib.hid hb
        clear hb
        by_cases hkn2 : k < n
        · have hkn3 : (k : Int) < (n : Int) := by omega
          have hown2 : wr.ownsRow w.heap.size 4 1 u k (bcellsB ((List.range (min k n)).map (byteBit s))) := by rw [Nat.min_eq_left (Nat.le_of_lt hkn2)] at hown ⊢; exact hown
          have HT := Lib.hid (take_bits s n k hkn2)
          rw [HB.out] at HT
          have HOW := Lib.hid hown2
          have HMK := Lib.hid (Nat.min_eq_left (show k + 1 ≤ n by omega))
          clear hown
          go_wp2_with (at_builtin; go_must (refine wpList_append_own_at _ rfl _ _ 48 rfl w.heap.size 4 i0 (.bool false) 1 1 Tryd.underlying48 hi hz0 hz1 hz2 rfl (by decide) u k (bcellsB ((List.range (min k n)).map (byteBit s))) ?hs0 (hown2.alloc _) ⟨wr.heap.size, 0, none⟩ 1 1 [_] ?hx0 rfl (cell_one_new _ _ _) ?c20 ?c30 ?c40 ?c50 ?_); (case hs0 => rfl); (case hx0 => rfl); (case c20 => intro y hy; obtain rfl := List.mem_singleton.1 hy; rfl); (case c30 => unfold maxLen; omega); (case c40 => omega); (case c50 => simp; omega); intro v1 w3 ho1 hg1 _ hat1; (have O3 := Lib.hid (Only.grown (ho.alloc _) hg1 (fun j e hj => absurd hj (by have := own_ge2 HOW.out e; omega)))); (have hsz3 := hg1.size); clear hat1)
          go_roundw
          case rel => exact ⟨k + 1, v1, by omega, by go_num, rfl, by rw [HT.out, HMK.out, bcellsB_snoc]; exact ho1, Nat.le_trans ho.size (Nat.le_trans (by simp) hsz3), O3.out, Lib.hid (fun j hj hn => absurd hn (by omega))⟩
          case measure => simp only [intOf]; omega
        · have hkn3 : (n : Int) ≤ (k : Int) := by omega
          go_wp2_with fail
          go_ret2
          refine ⟨?_, ho⟩
          unfold RefRead
          rw [HBIT.out (by omega) HB.out]
          rfl
      · rw [if_neg hb] at hbit
        have HB := Lib.hid (show byteBit s k = false by simpa using hb)
        clear hb
        by_cases hkn2 : k < n
        · have hkn3 : (k : Int) < (n : Int) := by omega
          have hown2 : wr.ownsRow w.heap.size 4 1 u k (bcellsB ((List.range (min k n)).map (byteBit s))) := by rw [Nat.min_eq_left (Nat.le_of_lt hkn2)] at hown ⊢; exact hown
          have HT := Lib.hid (take_bits s n k hkn2)
          rw [HB.out] at HT
          have HOW := Lib.hid hown2
          have HMK := Lib.hid (Nat.min_eq_left (show k + 1 ≤ n by omega))
          clear hown
          go_wp2_with (at_builtin; go_must (refine wpList_append_own_at _ rfl _ _ 48 rfl w.heap.size 4 i0 (.bool false) 1 1 Tryd.underlying48 hi hz0 hz1 hz2 rfl (by decide) u k (bcellsB ((List.range (min k n)).map (byteBit s))) ?hs0 (hown2.alloc _) ⟨wr.heap.size, 0, none⟩ 1 1 [_] ?hx0 rfl (cell_one_new _ _ _) ?c20 ?c30 ?c40 ?c50 ?_); (case hs0 => rfl); (case hx0 => rfl); (case c20 => intro y hy; obtain rfl := List.mem_singleton.1 hy; rfl); (case c30 => unfold maxLen; omega); (case c40 => omega); (case c50 => simp; omega); intro v1 w3 ho1 hg1 _ hat1; (have O3 := Lib.hid (Only.grown (ho.alloc _) hg1 (fun j e hj => absurd hj (by have := own_ge2 HOW.out e; omega)))); (have hsz3 := hg1.size); clear hat1)
          go_roundw
          case rel => exact ⟨k + 1, v1, by omega, by go_num, rfl, by rw [HT.out, HMK.out, bcellsB_snoc]; exact ho1, Nat.le_trans ho.size (Nat.le_trans (by simp) hsz3), O3.out, Lib.hid (fun j hj hn => absurd hn (by omega))⟩
          case measure => simp only [intOf]; omega
        · have hkn3 : (n : Int) ≤ (k : Int) := by omega
          have HMK := Lib.hid (show min (k + 1) n = min k n by omega)
          go_wp2_with fail
          go_roundw
          case rel => exact ⟨k + 1, u, by omega, by go_num, rfl, by rw [HMK.out]; exact hown, hlow, ho, Lib.hid (far_snoc hall.out HB.out)⟩
          case measure => simp only [intOf]; omega
    · have hki : ¬ ((8 * s.size : Nat) : Int) < 8 * (s.size : Int) := by omega
      have hbo := Lib.hid (bitsOf_eq (n := n) (s := s) hall.out)
      have HMK := Lib.hid (show min (8 * s.size) n = n by omega)
      go_wp2_with fail
      go_ret2
      refine ⟨?_, ho⟩
      unfold RefRead
      rw [hbo.out]
      rw [HMK.out] at hown
      exact ⟨_, rfl, by rw [List.length_map, List.length_range]; exact hown⟩
end Go.Proofs.YtkafnkkipflbbaaDoor
