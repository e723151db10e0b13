/- The reference of layer 24: Odd and Both. -/
import Derived.Test.YthkgjhjfgoglhaaBl
set_option linter.unusedSimpArgs false
set_option linter.unusedVariables false
namespace Go.Proofs.Ythkgjhjfgoglhaa
open Go.RowKit

theorem own_ge2 {w : World} {base : Nat} {e : TypeId} {size n : Nat} {v : Value} {xs : List Value} (h : w.ownsRow base e size v n xs) {k : Nat} (q : v.ownBlock = some k) : base ≤ k := by
  rcases h.2 with ⟨rfl, _⟩ | ⟨g, cap, cur, rfl, hb, _⟩
  · cases q
  · cases q; exact hb
theorem own_base {w : World} {base base' n : Nat} {e : TypeId} {v : Value} {xs : List Value} (h : w.ownsRow base e 1 v n xs) (hb : base' ≤ base) : w.ownsRow base' e 1 v n xs := by
  refine ⟨h.1, ?_⟩
  rcases h.2 with h2 | ⟨g, cap, cur, e1, h3, h4⟩
  · exact .inl h2
  · exact .inr ⟨g, cap, cur, e1, Nat.le_trans hb h3, h4⟩
theorem bcellsB_at {l : List Bool} {k : Nat} (h : k < l.length) : (bcellsB l)[k]? = some (.bool (lf l k)) := by simp [bcellsB, lf, List.getD_eq_getElem?_getD, List.getElem?_eq_getElem h]
def lst (L : List (List Bool)) (j : Nat) : List Bool := L.getD j []
theorem lst_mem {L : List (List Bool)} {j : Nat} (h : j < L.length) : lst L j ∈ L := by
  unfold lst
  rw [List.getD_eq_getElem?_getD, List.getElem?_eq_getElem h]
  exact List.getElem_mem _
theorem mem_lst {L : List (List Bool)} {l : List Bool} (h : l ∈ L) : ∃ j, j < L.length ∧ lst L j = l := by
  obtain ⟨i, hi, rfl⟩ := List.getElem_of_mem h
  exact ⟨i, hi, by unfold lst; rw [List.getD_eq_getElem?_getD, List.getElem?_eq_getElem hi]; rfl⟩
/-- Whether an odd number of the first i lists is true at k. -/
def xr (L : List (List Bool)) (k : Nat) : Nat → Bool
  | 0 => false
  | i + 1 => xr L k i ^^ lf (lst L i) k
def sameLen (L : List (List Bool)) : Bool := L.all fun l => decide (l.length = (lst L 0).length)
def oddM (L : List (List Bool)) : List Bool := (List.range (lst L 0).length).map fun k => xr L k L.length
def OddPost (L : List (List Bool)) (B : Nat) (e : Ending) (W : World) : Prop :=
  if sameLen L = true then ∃ v, e = .returned (.tuple #[v, .bool true]) ∧ W.ownsRow B 4 1 v (oddM L).length (bcellsB (oddM L)) else e = .returned (.tuple #[.slice none 0 0, .bool false])
def Upto (L : List (List Bool)) (k : Nat) : Prop := ∀ j, j < k → (lst L j).length = (lst L 0).length
theorem Upto.zero (L : List (List Bool)) : Upto L 0 := fun j hj => absurd hj (Nat.not_lt_zero j)
theorem Upto.snoc {L : List (List Bool)} {k : Nat} (h : Upto L k) (e : (lst L k).length = (lst L 0).length) : Upto L (k + 1) := by
  intro j hj
  rcases Nat.lt_or_ge j k with h1 | h1
  · exact h j h1
  · obtain rfl : j = k := by omega
    exact e
theorem bne_xor (a b : Bool) : (a != b) = (a ^^ b) := by cases a <;> cases b <;> rfl

set_option maxRecDepth 100000 in
set_option maxHeartbeats 8000000 in
theorem odd_any (w : World) (g m c : Nat) (vs : Array Value) (L : List (List Bool)) (hm : L.length = m) (h1 : 1 ≤ m) (h3 : m ≤ 3) (hg : Has w g 22 vs) (hL : ∀ i, i < m → ∃ v, vs[i]? = some v ∧ Reads w v (bcellsB (lst L i))) (hlen : (lst L 0).length ≤ 4194304) :
    Calls Try.prog 28 #[.slice (some ⟨g, 0, none⟩) m c] w fun x w' => OddPost L w.heap.size x w' ∧ Only (fun _ => False) w w' := by
  obtain ⟨i0, hi, hz0, hz1, hz2⟩ := info_parts Try.info_bb
  have HC := Lib.hid (fun W (o : Only (fun _ => False) w W) i (hi : i < m) => (show ∃ A cc, W.cell? ⟨g, i, none⟩ = some (.slice A (lst L i).length cc) ∧ ∀ k, k < (lst L i).length → ∃ a : Addr, A = some a ∧ W.cell? (a.add k) = some (.bool (lf (lst L i) k)) by
    obtain ⟨v, hv, hr⟩ := hL i hi
    obtain ⟨A, cc, rfl, hk⟩ := (hr.inner o).shape
    refine ⟨A, cc, ?_, fun k hkl => ?_⟩
    · rw [bcellsB_length] at hv
      exact ((o.has hg (fun f => f)).cell i).trans hv
    · exact hk k _ (bcellsB_at hkl)))
  clear hL hg
  obtain ⟨P, hP⟩ : ∃ P : Ending → World → Prop, P = fun e W => OddPost L w.heap.size e W := ⟨_, rfl⟩
  have HP := Lib.hid (show ∀ e W, OddPost L w.heap.size e W → P e W by intro e W h; rw [hP]; exact h)
  have hG : (fun (x : Ending) (w' : World) => OddPost L w.heap.size x w' ∧ Only (fun _ => False) w w') = fun x w' => P x w' ∧ Only (fun _ => False) w w' := by rw [hP]
  rw [hG]
  clear hG hP
  have h0 : 0 < m := h1
  go_enter Try.func28, Try.ntmps28
  go_wp2_with fail
  go_loopw [5] (fun i W => ∃ k : Nat, k ≤ m ∧ i = .int .i64 k ∧ Only (fun _ => False) w W ∧ Hid (Upto L k)) (fun i _ => m - (intOf i).toNat)
  case atStart => exact ⟨0, by omega, rfl, Only.refl _ _, Lib.hid (Upto.zero L)⟩
  case round =>
    obtain ⟨k, hk, rfl, ho, hall⟩ := hrel
    have hk' : k < m ∨ k = m := by omega
    rcases hk' with hlt | rfl
    · have hki : (k : Int) < (m : Int) := by omega
      obtain ⟨A0, c0, x0, _⟩ := HC.out wr ho 0 h0
      obtain ⟨A1, c1, x1, _⟩ := HC.out wr ho k hlt
      have hmI : 0 < (m : Int) := by omega
      by_cases heq : (lst L k).length = (lst L 0).length
      · have HEQ := Lib.hid heq
        rw [heq] at x1
        generalize (lst L 0).length = n0 at x0 x1
        clear heq
        go_wp2_with fail
        go_quiet (fail)
        go_wp2_with fail
        go_roundw
        case rel => exact ⟨k + 1, by omega, by go_num, ho.drewN _, Lib.hid (hall.out.snoc HEQ.out)⟩
        case measure => simp only [intOf]; omega
      · have HNE := Lib.hid (show sameLen L = false by
          unfold sameLen
          rw [Bool.eq_false_iff]
          intro h
          simp only [List.all_eq_true, decide_eq_true_eq] at h
          exact heq (h _ (lst_mem (by omega))))
        have hne : (((lst L k).length : Int) != ((lst L 0).length : Int)) = true := by
          have : ((lst L k).length : Int) ≠ ((lst L 0).length : Int) := by omega
          simpa using this
        have hne2 : ((lst L k).length != (lst L 0).length) = true := by simpa using heq
        clear heq
        generalize (lst L 0).length = n0 at x0 hne hne2
        generalize (lst L k).length = n1 at x1 hne hne2
        go_wp2_with fail
        go_quiet (fail)
        go_wp2_with fail
        go_ret2
        refine ⟨HP.out _ _ ?_, ho.drewN _⟩
        unfold OddPost
        rw [if_neg (by rw [HNE.out]; simp)]
        rfl
    · have HSL := Lib.hid (show sameLen L = true by
        unfold sameLen
        simp only [List.all_eq_true, decide_eq_true_eq]
        intro l hl
        obtain ⟨i, hi, rfl⟩ := mem_lst hl
        exact hall.out i (by omega))
      have HLEN := Lib.hid hall.out
      have HWO := Lib.hid ho
      have hki : ¬ (k : Int) < (k : Int) := by omega
      obtain ⟨wo, hwo⟩ : ∃ wo : World, wo = wr := ⟨_, rfl⟩
      rw [← hwo] at HWO ⊢
      clear ho hall hwo
      go_wp2_with fail
      generalize hn0 : (lst L 0).length = n0 at *
      have HN0 := Lib.hid hn0
      have hsz0 := HWO.out.size
      go_loopw [4, 6, 7, 8] (fun u i _ _ W => ∃ (j : Nat) (u0 : Value), j ≤ n0 ∧ i = .int .i64 j ∧ u0 = u ∧ W.ownsRow w.heap.size 4 1 u0 j (bcellsB ((List.range j).map fun k0 => xr L k0 k)) ∧ Only (fun _ => False) w W) (fun _ i _ _ _ => n0 - (intOf i).toNat)
      case atStart => exact ⟨0, _, by omega, rfl, rfl, World.ownsRow_nil _ _ _ _, HWO.out⟩
      case round =>
        obtain ⟨j, u, hj, rfl, rfl, hown, ho⟩ := hrel
        obtain ⟨A0, c0, x0, _⟩ := HC.out wr ho 0 h0
        rw [HN0.out] at x0
        have hkI : 0 < (k : Int) := by omega
        have hj' : j < n0 ∨ j = n0 := by omega
        rcases hj' with hjn | rfl
        · have hji : (j : Int) < (n0 : Int) := by omega
          obtain ⟨w2o, hw2o⟩ : ∃ wo : World, wo = wr := ⟨_, rfl⟩
          rw [← hw2o] at hown ho x0 ⊢
          have HOWN := Lib.hid hown
          have HO2 := Lib.hid ho
          clear hown ho hw2o
          go_wp2_with fail
          go_loopw [7, 8] (fun b i2 W => ∃ q : Nat, q ≤ k ∧ i2 = .int .i64 q ∧ b = .bool (xr L j q) ∧ W = w2o) (fun _ i2 _ => k - (intOf i2).toNat)
          case atStart => exact ⟨0, by omega, rfl, rfl, rfl⟩
          case round =>
            obtain ⟨q, hq, rfl, rfl, rfl⟩ := hrel
            have hq' : q < k ∨ q = k := by omega
            rcases hq' with hqk | rfl
            · have hqi : (q : Int) < (k : Int) := by omega
              have hlq := HLEN.out q hqk
              obtain ⟨A1, c1, x1, y1⟩ := HC.out wr HO2.out q hqk
              rw [hlq] at x1 y1
              obtain ⟨a1, rfl, z1⟩ := y1 j (by rw [HN0.out]; exact hjn)
              rw [HN0.out] at x1
              have HX := Lib.hid (show (xr L j q != lf (lst L q) j) = xr L j (q + 1) by rw [bne_xor]; rfl)
              generalize lf (lst L q) j = b1 at *
              generalize xr L j q = b0 at *
              clear hlq y1
              go_wp2_with fail
              go_roundw
              case rel => exact ⟨q + 1, by omega, by go_num, by rw [← HX.out]; cases b0 <;> cases b1 <;> rfl, by first | rfl | trivial⟩
              case measure => simp only [intOf]; omega
            · have hqi : ¬ (q : Int) < (q : Int) := by omega
              have hsn : (List.range (j + 1)).map (fun k0 => xr L k0 q) = (List.range j).map (fun k0 => xr L k0 q) ++ [xr L j q] := by rw [List.range_succ]; simp
              have HSN := Lib.hid hsn
              have hown2 := HOWN.out
              have HO3 := Lib.hid HO2.out
              have hlw : w.heap.size ≤ wr.heap.size := HO2.out.size
              have hj4 : j ≤ 4194304 := by omega
              generalize xr L j q = b0 at *
              clear hsn
              go_wp2_with (at_builtin; go_must (refine wpList_append_own_at _ rfl _ _ 22 rfl w.heap.size 4 i0 (.bool false) 1 1 Try.underlying22 hi hz0 hz1 hz2 rfl (by decide) u j (bcellsB ((List.range j).map fun k0 => xr L k0 q)) ?hs0 (hown2.alloc _) ⟨wr.heap.size, 0, none⟩ 1 1 [_] ?hx0 rfl (cell_one_new _ _ _) ?c20 ?c30 ?c40 ?c50 ?_); (case hs0 => rfl); (case hx0 => rfl); (case c20 => intro y hy; obtain rfl := List.mem_singleton.1 hy; rfl); (case c30 => unfold maxLen; omega); (case c40 => omega); (case c50 => simp; omega); intro v1 w3 ho1 hg1 _ hat1; (have O3 := Lib.hid (Only.grown (HO3.out.alloc _) hg1 (fun j e hj => absurd hj (by have := own_ge2 HOWN.out e; omega)))); clear hat1)
              go_roundw
              case rel => exact ⟨j + 1, v1, by omega, by go_num, rfl, by rw [HSN.out, bcellsB_snoc]; exact ho1, O3.out⟩
              case measure => simp only [intOf]; omega
        · have hji : ¬ (j : Int) < (j : Int) := by omega
          have HOWN := Lib.hid hown
          go_wp2_with fail
          go_ret2
          refine ⟨HP.out _ _ ?_, ho⟩
          unfold OddPost
          rw [if_pos HSL.out]
          have hl : (oddM L).length = j := by unfold oddM; rw [List.length_map, List.length_range]; exact HN0.out
          refine ⟨u, rfl, ?_⟩
          rw [hl]
          have he : oddM L = (List.range j).map fun k0 => xr L k0 k := by unfold oddM; rw [HN0.out, hm]
          rw [he]
          exact HOWN.out

/-- At two lists, and at three. -/
theorem odd_two (a b : List Bool) : sameLen [a, b] = decide (b.length = a.length) ∧ (b.length = a.length → oddM [a, b] = xorL a b) := by
  constructor
  · simp [sameLen, lst]
  · intro h
    apply List.ext_getElem?
    intro i
    unfold oddM xorL
    by_cases hi : i < a.length
    · have e1 : lf a i = a[i] := lf_at hi
      have e2 : lf b i = b[i]'(by omega) := lf_at (by omega)
      simp [lst, hi, xr, e1, e2, List.getElem?_eq_getElem, h]
    · rw [List.getElem?_eq_none (by simp [lst]; omega), List.getElem?_eq_none (by simp; omega)]
theorem odd_three (a b c : List Bool) : sameLen [a, b, c] = decide (b.length = a.length ∧ c.length = a.length) ∧ (b.length = a.length → c.length = a.length → oddM [a, b, c] = xorL (xorL a b) c) := by
  constructor
  · simp [sameLen, lst]
  · intro h h2
    apply List.ext_getElem?
    intro i
    unfold oddM xorL
    by_cases hi : i < a.length
    · have e1 : lf a i = a[i] := lf_at hi
      have e2 : lf b i = b[i]'(by omega) := lf_at (by omega)
      have e3 : lf c i = c[i]'(by omega) := lf_at (by omega)
      simp [lst, hi, xr, e1, e2, e3, List.getElem?_eq_getElem, h, h2]
    · rw [List.getElem?_eq_none (by simp [lst]; omega), List.getElem?_eq_none (by simp; omega)]

def bothM (a b : List Bool) : List Bool := (List.range (min a.length b.length)).map fun k => lf a k && lf b k
theorem both_and {a b : List Bool} (h : a.length = b.length) : bothM a b = andL a b := by
  apply List.ext_getElem?
  intro i
  unfold bothM andL
  rw [show min a.length b.length = a.length by omega]
  by_cases hi : i < a.length
  · have e1 : lf a i = a[i] := lf_at hi
    have e2 : lf b i = b[i]'(by omega) := lf_at (by omega)
    have h3 : i < b.length := by omega
    simp [hi, h3, e1, e2, List.getElem?_zipWith]
  · rw [List.getElem?_eq_none (by simp; omega), List.getElem?_eq_none (by simp; omega)]
set_option maxRecDepth 100000 in
set_option maxHeartbeats 4000000 in
theorem both_any (w : World) (va vb : Value) (a b : List Bool) (ha : Reads w va (bcellsB a)) (hb : Reads w vb (bcellsB b)) (hl : a.length ≤ 4194304) (hl2 : b.length ≤ 4194304) : Calls Try.prog 29 #[va, vb] w fun x w' => (∃ v, x = .returned v ∧ w'.ownsRow w.heap.size 4 1 v (bothM a b).length (bcellsB (bothM a b))) ∧ Only (fun _ => False) w w' := by
  obtain ⟨i0, hi, hz0, hz1, hz2⟩ := info_parts Try.info_bb
  obtain ⟨A, ca, rfl, ha'⟩ := ha.shape
  obtain ⟨B, cb, rfl, hb'⟩ := hb.shape
  simp only [bcellsB_length] at *
  have HA := Lib.hid ha
  have HB := Lib.hid hb
  have HA' := Lib.hid (fun k (hk : k < a.length) => ha' k _ (bcellsB_at hk))
  have HB' := Lib.hid (fun k (hk : k < b.length) => hb' k _ (bcellsB_at hk))
  clear ha hb ha' hb'
  go_enter Try.func29, Try.ntmps29
  go_wp2_with fail
  go_loopw [5, 6] (fun u i W => ∃ (k : Nat) (u0 : Value), k ≤ a.length ∧ k ≤ b.length ∧ i = .int .i64 k ∧ u0 = u ∧ W.ownsRow w.heap.size 4 1 u0 k (bcellsB ((List.range k).map fun j => lf a j && lf b j)) ∧ Only (fun _ => False) w W) (fun _ i _ => a.length - (intOf i).toNat)
  case atStart => exact ⟨0, _, by omega, by omega, rfl, rfl, World.ownsRow_nil _ _ _ _, Only.refl _ _⟩
  case round =>
    obtain ⟨k, u, hk, hkb, rfl, rfl, hown, ho⟩ := hrel
    have hk' : (k < a.length ∧ k < b.length) ∨ (¬ (k : Int) < (a.length : Int)) ∨ ((k : Int) < (a.length : Int) ∧ ¬ (k : Int) < (b.length : Int)) := by omega
    rcases hk' with ⟨h1, h2⟩ | hend
    · have h1i : (k : Int) < (a.length : Int) := by omega
      have h2i : (k : Int) < (b.length : Int) := by omega
      obtain ⟨g1, rfl, _⟩ := HA'.out k h1
      obtain ⟨g2, rfl, _⟩ := HB'.out k h2
      have x1 := (HA.out.inner ho).at (bcellsB_at h1)
      have x2 := (HB.out.inner ho).at (bcellsB_at h2)
      have HSN := Lib.hid (show (List.range (k + 1)).map (fun j => lf a j && lf b j) = (List.range k).map (fun j => lf a j && lf b j) ++ [lf a k && lf b k] by rw [List.range_succ]; simp)
      have HOWN := Lib.hid hown
      have HO := Lib.hid ho
      have hlw : w.heap.size ≤ wr.heap.size := ho.size
      generalize lf a k = p at *
      generalize lf b k = q at *
      cases p
      all_goals
        simp only [Bool.false_and, Bool.true_and] at HSN
        go_wp2_with (at_builtin; go_must (refine wpList_append_own_at _ rfl _ _ 22 rfl w.heap.size 4 i0 (.bool false) 1 1 Try.underlying22 hi hz0 hz1 hz2 rfl (by decide) u k (bcellsB ((List.range k).map fun j => lf a j && lf b j)) ?hs0 (hown.alloc _) ⟨wr.heap.size, 0, none⟩ 1 1 [_] ?hx0 rfl (cell_one_new _ _ _) ?c20 ?c30 ?c40 ?c50 ?_); (case hs0 => rfl); (case hx0 => rfl); (case c20 => intro y hy; obtain rfl := List.mem_singleton.1 hy; rfl); (case c30 => unfold maxLen; omega); (case c40 => omega); (case c50 => simp; omega); intro v1 w3 ho1 hg1 _ hat1; (have O3 := Lib.hid (Only.grown (HO.out.alloc _) hg1 (fun j e hj => absurd hj (by have := own_ge2 HOWN.out e; omega)))); clear hat1)
        go_roundw
        case rel => exact ⟨k + 1, v1, by omega, by omega, by go_num, rfl, by rw [HSN.out, bcellsB_snoc]; exact ho1, O3.out⟩
        case measure => simp only [intOf]; omega
    · have HOWN := Lib.hid hown
      have HK := Lib.hid (show min a.length b.length = k by omega)
      rcases hend with h1 | ⟨h1, h2⟩
      all_goals
        go_wp2_with fail
        go_ret
        refine ⟨⟨u, rfl, ?_⟩, ho⟩
        unfold bothM
        rw [HK.out, List.length_map, List.length_range]
        exact HOWN.out
end Go.Proofs.Ythkgjhjfgoglhaa
