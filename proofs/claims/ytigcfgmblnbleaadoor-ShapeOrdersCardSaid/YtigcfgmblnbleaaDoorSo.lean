/- shape.Order, the reference's; ShapeOrders walked. -/
import Derived.Test.YtigcfgmblnbleaaDoorSa
import Derived.StillTailTactics
import Derived.StillTactics
import Derived.BigQuiet
import Derived.Deep.RegionHeld3
import Derived.Deep.QuietTactic
set_option linter.unusedSimpArgs false
set_option linter.unusedVariables false
namespace Go.Proofs.YtigcfgmblnbleaaDoor
open Go.RowKit

theorem cl_facts {w : World} {b : Nat} {kind bits m k n : Int} (h : Has w b 23 #[.int .i64 kind, .int .i64 bits, .int .i64 m, .int .i64 k, .int .i64 n]) : w.cell? ⟨b, 0, none⟩ = some (.int .i64 kind) ∧ w.cell? ⟨b, 1, none⟩ = some (.int .i64 bits) ∧ w.cell? ⟨b, 2, none⟩ = some (.int .i64 m) ∧ w.cell? ⟨b, 3, none⟩ = some (.int .i64 k) ∧ w.cell? ⟨b, 4, none⟩ = some (.int .i64 n) := ⟨h.cell 0, h.cell 1, h.cell 2, h.cell 3, h.cell 4⟩
abbrev CAt (w : World) (b : Nat) (kind bits m k n : Int) : Prop := Has w b 23 #[.int .i64 kind, .int .i64 bits, .int .i64 m, .int .i64 k, .int .i64 n]

def cmpI (a b : Int) : Int := if a < b then -1 else if b < a then 1 else 0
def lexI : List (Int × Int) → Int
  | [] => 0
  | p :: l => if p.1 < p.2 then -1 else if p.2 < p.1 then 1 else lexI l
def firstNZ : List Int → Int
  | [] => 0
  | x :: l => if x = 0 then firstNZ l else x
theorem first_lex : ∀ l : List (Int × Int), firstNZ (l.map fun p => cmpI p.1 p.2) = lexI l
  | [] => rfl
  | p :: l => by
    rw [List.map_cons, firstNZ, lexI, first_lex l]
    unfold cmpI
    by_cases h1 : p.1 < p.2
    · rw [if_pos h1, if_pos h1, if_neg (by decide)]
    · rw [if_neg h1, if_neg h1]
      by_cases h2 : p.2 < p.1
      · rw [if_pos h2, if_pos h2, if_neg (by decide)]
      · rw [if_neg h2, if_neg h2, if_pos rfl]

theorem nan_any (w : World) (a : Int) : Calls Tryd.prog 56 #[.int .i64 a] w fun e w' => e = .returned (.bool false) ∧ w' = w := by
  go_enter Tryd.func56, Tryd.ntmps56
  go_wp2
  go_ret
  exact ⟨rfl, rfl⟩
theorem compare_any (w : World) (a b : Int) : Calls Tryd.prog 46 #[.int .i64 a, .int .i64 b] w fun e w' => e = .returned (.int .i64 (cmpI a b)) ∧ w' = w := by
  by_cases h1 : a < b
  · rw [show cmpI a b = -1 by unfold cmpI; rw [if_pos h1]]
    go_enter Tryd.func46, Tryd.ntmps46
    go_wp2_with fail
    refine (nan_any _ _).mono ?_; rintro e w1 ⟨rfl, rfl⟩
    go_wp2_with fail
    refine (nan_any _ _).mono ?_; rintro e w1 ⟨rfl, rfl⟩
    go_wp2_with fail
    go_ret
    exact ⟨rfl, rfl⟩
  · by_cases h2 : b < a
    · rw [show cmpI a b = 1 by unfold cmpI; rw [if_neg h1, if_pos h2]]
      go_enter Tryd.func46, Tryd.ntmps46
      go_wp2_with fail
      refine (nan_any _ _).mono ?_; rintro e w1 ⟨rfl, rfl⟩
      go_wp2_with fail
      refine (nan_any _ _).mono ?_; rintro e w1 ⟨rfl, rfl⟩
      go_wp2_with fail
      go_ret
      exact ⟨rfl, rfl⟩
    · rw [show cmpI a b = 0 by unfold cmpI; rw [if_neg h1, if_neg h2]]
      go_enter Tryd.func46, Tryd.ntmps46
      go_wp2_with fail
      refine (nan_any _ _).mono ?_; rintro e w1 ⟨rfl, rfl⟩
      go_wp2_with fail
      refine (nan_any _ _).mono ?_; rintro e w1 ⟨rfl, rfl⟩
      go_wp2_with fail
      go_ret
      exact ⟨rfl, rfl⟩

def ints (l : List Int) : Array Value := ⟨l.map fun x => .int .i64 x⟩
theorem ints_get (l : List Int) (k : Nat) (h : k < l.length) : (ints l)[k]? = some (.int .i64 l[k]) := by simp [ints, h]
set_option maxRecDepth 100000 in
theorem or_any (w : World) (g cap : Nat) (l : List Int) (hg : Has w g 3 (ints l)) (hl : l.length ≤ 1000) : Calls Tryd.prog 45 #[.slice (some ⟨g, 0, none⟩) l.length cap] w fun e w' => e = .returned (.int .i64 (firstNZ l)) ∧ w' = w := by
  go_enter Tryd.func45, Tryd.ntmps45
  go_wp2_with fail
  go_loopw [8] (fun i W => ∃ k : Nat, k ≤ l.length ∧ i = .int .i64 k ∧ firstNZ l = firstNZ (l.drop k) ∧ W = w) (fun i _ => l.length - (intOf i).toNat)
  case atStart => exact ⟨0, by omega, rfl, rfl, rfl⟩
  case round =>
    obtain ⟨k, hk, rfl, hf, rfl⟩ := hrel
    have HF := Lib.hid hf
    clear hf
    have hlt' : k < l.length ∨ k = l.length := by omega
    rcases hlt' with hlt | rfl
    · have c0 : wr.cell? ⟨g, k, none⟩ = some (.int .i64 l[k]) := by rw [hg.cell k, ints_get l k hlt]
      have hk1 : (k : Int) < (l.length : Int) := by omega
      have HD := Lib.hid (List.drop_eq_getElem_cons hlt)
      by_cases hz : l[k] = 0
      · have HZ := Lib.hid hz
        rw [hz] at c0
        clear hz
        go_wp2_with fail
        go_roundw
        case rel => exact ⟨k + 1, by omega, by go_num, by rw [HF.out, HD.out, firstNZ, if_pos HZ.out], trivial⟩
        case measure => simp only [intOf]; omega
      · have hz' : (l[k] == 0) = false := by simpa using hz
        have HZ := Lib.hid hz
        clear hz
        go_wp2_with fail
        go_ret
        refine ⟨?_, rfl⟩
        rw [HF.out, HD.out, firstNZ, if_neg HZ.out]
        rfl
    · go_wp2_with fail
      go_ret
      refine ⟨?_, rfl⟩
      rw [HF.out, List.drop_length]
      rfl

def Cl.pairs (a b : Cl) : List (Int × Int) := [(a.kind, b.kind), (a.bits, b.bits), (a.m, b.m), (a.k, b.k), (a.n, b.n)]
set_option maxRecDepth 100000 in
set_option maxHeartbeats 4000000 in
theorem sorder_any (w : World) (a b : Cl) : Calls Tryd.prog 26 #[.agg a.cells, .agg b.cells] w fun e w' => e = .returned (.int .i64 (lexI (a.pairs b))) ∧ Only (fun _ => False) w w' := by
  rw [← first_lex]
  obtain ⟨a0, a1, a2, a3, a4⟩ := a
  obtain ⟨b0, b1, b2, b3, b4⟩ := b
  simp only [Cl.cells, Cl.pairs, List.map_cons, List.map_nil]
  go_enter Tryd.func26, Tryd.ntmps26
  go_wp2_with fail
  have k1 : CAt ((w.alloc (.cells #[.int .i64 a0, .int .i64 a1, .int .i64 a2, .int .i64 a3, .int .i64 a4] 23)).alloc (.cells #[.int .i64 b0, .int .i64 b1, .int .i64 b2, .int .i64 b3, .int .i64 b4] 23)).drew w.heap.size a0 a1 a2 a3 a4 := ((Has.new w 23 #[.int .i64 a0, .int .i64 a1, .int .i64 a2, .int .i64 a3, .int .i64 a4]).alloc _).drew
  have k2 : CAt ((w.alloc (.cells #[.int .i64 a0, .int .i64 a1, .int .i64 a2, .int .i64 a3, .int .i64 a4] 23)).alloc (.cells #[.int .i64 b0, .int .i64 b1, .int .i64 b2, .int .i64 b3, .int .i64 b4] 23)).drew (w.heap.size + 1) b0 b1 b2 b3 b4 := by
    have hn := Has.new (w.alloc (.cells #[.int .i64 a0, .int .i64 a1, .int .i64 a2, .int .i64 a3, .int .i64 a4] 23)) 23 #[.int .i64 b0, .int .i64 b1, .int .i64 b2, .int .i64 b3, .int .i64 b4]
    rw [show (w.alloc (.cells #[.int .i64 a0, .int .i64 a1, .int .i64 a2, .int .i64 a3, .int .i64 a4] 23)).heap.size = w.heap.size + 1 by simp] at hn
    exact hn.drew
  have k3 : Only (fun _ => False) w ((w.alloc (.cells #[.int .i64 a0, .int .i64 a1, .int .i64 a2, .int .i64 a3, .int .i64 a4] 23)).alloc (.cells #[.int .i64 b0, .int .i64 b1, .int .i64 b2, .int .i64 b3, .int .i64 b4] 23)).drew := (((Only.refl _ _).alloc _).alloc _).drew
  have hor := fun W h => or_any W (w.heap.size + 2) 5 [cmpI a0 b0, cmpI a1 b1, cmpI a2 b2, cmpI a3 b3, cmpI a4 b4] h (by simp)
  have HN5 : Has (((w.alloc (.cells #[.int .i64 a0, .int .i64 a1, .int .i64 a2, .int .i64 a3, .int .i64 a4] 23)).alloc (.cells #[.int .i64 b0, .int .i64 b1, .int .i64 b2, .int .i64 b3, .int .i64 b4] 23)).drew.alloc (.cells #[.int .i64 (cmpI a0 b0), .int .i64 (cmpI a1 b1), .int .i64 (cmpI a2 b2), .int .i64 (cmpI a3 b3), .int .i64 (cmpI a4 b4)] 3)) (w.heap.size + 2) 3 (ints [cmpI a0 b0, cmpI a1 b1, cmpI a2 b2, cmpI a3 b3, cmpI a4 b4]) := by
    have hn := Has.new ((w.alloc (.cells #[.int .i64 a0, .int .i64 a1, .int .i64 a2, .int .i64 a3, .int .i64 a4] 23)).alloc (.cells #[.int .i64 b0, .int .i64 b1, .int .i64 b2, .int .i64 b3, .int .i64 b4] 23)).drew 3 #[.int .i64 (cmpI a0 b0), .int .i64 (cmpI a1 b1), .int .i64 (cmpI a2 b2), .int .i64 (cmpI a3 b3), .int .i64 (cmpI a4 b4)]
    rw [show ((w.alloc (.cells #[.int .i64 a0, .int .i64 a1, .int .i64 a2, .int .i64 a3, .int .i64 a4] 23)).alloc (.cells #[.int .i64 b0, .int .i64 b1, .int .i64 b2, .int .i64 b3, .int .i64 b4] 23)).drew.heap.size = w.heap.size + 2 by simp] at hn
    exact hn
  go_region_held3 (fun W => (W.cell? ⟨w.heap.size, 0, none⟩ = some (.int .i64 a0) ∧ W.cell? ⟨w.heap.size, 1, none⟩ = some (.int .i64 a1) ∧ W.cell? ⟨w.heap.size, 2, none⟩ = some (.int .i64 a2) ∧ W.cell? ⟨w.heap.size, 3, none⟩ = some (.int .i64 a3) ∧ W.cell? ⟨w.heap.size, 4, none⟩ = some (.int .i64 a4)) ∧ (W.cell? ⟨w.heap.size + 1, 0, none⟩ = some (.int .i64 b0) ∧ W.cell? ⟨w.heap.size + 1, 1, none⟩ = some (.int .i64 b1) ∧ W.cell? ⟨w.heap.size + 1, 2, none⟩ = some (.int .i64 b2) ∧ W.cell? ⟨w.heap.size + 1, 3, none⟩ = some (.int .i64 b3) ∧ W.cell? ⟨w.heap.size + 1, 4, none⟩ = some (.int .i64 b4)) ∧ Only (fun _ => False) w W) (first | exact ⟨cl_facts k1, cl_facts k2, k3⟩ | exact ⟨cl_facts (Has.alloc k1 _), cl_facts (Has.alloc k2 _), k3.alloc _⟩) (first
    | (go_at_call 46; refine (compare_any _ _ _).mono ?_; rintro e w9 ⟨rfl, rfl⟩)
    | (go_at_call 45; refine (hor _ HN5).mono ?_; rintro e w9 ⟨rfl, rfl⟩))
  rename_i hS
  have O := hS.2.2
  clear hS
  go_wp2_with fail
  go_ret
  exact ⟨rfl, O⟩

set_option maxRecDepth 100000 in
set_option maxHeartbeats 4000000 in
theorem rorder_any (w : World) (a b : Cl) : Calls Tryd.prog 27 #[.agg a.cells, .agg b.cells] w fun e w' => e = .returned (.int .i64 (lexI (a.pairs b))) ∧ Only (fun _ => False) w w' := by
  have hlen : (a.pairs b).length = 5 := rfl
  have hA : ∀ (W : World) (g : Nat), Has W g 3 a.cells → ∀ k, (h : k < (a.pairs b).length) → W.cell? ⟨g, k, none⟩ = some (.int .i64 (a.pairs b)[k].1) := by
    intro W g hg k h
    rw [hlen] at h
    have hk : k = 0 ∨ k = 1 ∨ k = 2 ∨ k = 3 ∨ k = 4 := by omega
    rcases hk with rfl | rfl | rfl | rfl | rfl <;> exact hg.cell _
  have hB : ∀ (W : World) (g : Nat), Has W g 3 b.cells → ∀ k, (h : k < (a.pairs b).length) → W.cell? ⟨g, k, none⟩ = some (.int .i64 (a.pairs b)[k].2) := by
    intro W g hg k h
    rw [hlen] at h
    have hk : k = 0 ∨ k = 1 ∨ k = 2 ∨ k = 3 ∨ k = 4 := by omega
    rcases hk with rfl | rfl | rfl | rfl | rfl <;> exact hg.cell _
  have HA := Lib.hid hA
  have HB := Lib.hid hB
  have HL := Lib.hid hlen
  clear hA hB hlen
  generalize a.pairs b = l at *
  obtain ⟨a0, a1, a2, a3, a4⟩ := a
  obtain ⟨b0, b1, b2, b3, b4⟩ := b
  simp only [Cl.cells] at *
  go_enter Tryd.func27, Tryd.ntmps27
  go_wp2_with fail
  have n2 := Has.new ((w.alloc (.cells #[.int .i64 a0, .int .i64 a1, .int .i64 a2, .int .i64 a3, .int .i64 a4] 23)).alloc (.cells #[.int .i64 b0, .int .i64 b1, .int .i64 b2, .int .i64 b3, .int .i64 b4] 23)) 3 #[.int .i64 a0, .int .i64 a1, .int .i64 a2, .int .i64 a3, .int .i64 a4]
  have n3 := Has.new (((w.alloc (.cells #[.int .i64 a0, .int .i64 a1, .int .i64 a2, .int .i64 a3, .int .i64 a4] 23)).alloc (.cells #[.int .i64 b0, .int .i64 b1, .int .i64 b2, .int .i64 b3, .int .i64 b4] 23)).alloc (.cells #[.int .i64 a0, .int .i64 a1, .int .i64 a2, .int .i64 a3, .int .i64 a4] 3)) 3 #[.int .i64 b0, .int .i64 b1, .int .i64 b2, .int .i64 b3, .int .i64 b4]
  simp only [World.size_alloc] at n2 n3
  go_loopw [7] (fun i W => ∃ k : Nat, k ≤ 5 ∧ i = .int .i64 k ∧ lexI l = lexI (l.drop k) ∧ Has W (w.heap.size + 1 + 1) 3 #[.int .i64 a0, .int .i64 a1, .int .i64 a2, .int .i64 a3, .int .i64 a4] ∧ Has W (w.heap.size + 1 + 1 + 1) 3 #[.int .i64 b0, .int .i64 b1, .int .i64 b2, .int .i64 b3, .int .i64 b4] ∧ Only (fun _ => False) w W) (fun i _ => 5 - (intOf i).toNat)
  case atStart => exact ⟨0, by omega, rfl, rfl, n2.alloc _, n3, ((((Only.refl _ _).alloc _).alloc _).alloc _).alloc _⟩
  case round =>
    obtain ⟨k, hk, rfl, hf, hx, hy, ho⟩ := hrel
    have HF := Lib.hid hf
    clear hf
    have hlt' : k < 5 ∨ k = 5 := by omega
    rcases hlt' with hlt | rfl
    · have hkl : k < l.length := by have := HL.out; omega
      have c0 := HA.out _ _ hx k hkl
      have c1 := HB.out _ _ hy k hkl
      have hk1 : (k : Int) < 5 := by omega
      have hk0 : (0 : Int) ≤ (k : Int) := by omega
      have HD := Lib.hid (List.drop_eq_getElem_cons hkl)
      have hcase : l[k].1 < l[k].2 ∨ ¬ l[k].1 < l[k].2 ∧ l[k].2 < l[k].1 ∨ ¬ l[k].1 < l[k].2 ∧ ¬ l[k].2 < l[k].1 := by omega
      have HP : ∃ x y, l[k].1 = x ∧ l[k].2 = y := ⟨_, _, rfl, rfl⟩
      obtain ⟨x, y, ex, ey⟩ := HP
      have EX := Lib.hid ex
      have EY := Lib.hid ey
      rw [ex] at c0 hcase
      rw [ey] at c1 hcase
      clear ex ey
      rcases hcase with h1 | ⟨h1, h2⟩ | ⟨h1, h2⟩
      · go_wp2_with fail
        go_quiet (fail)
        go_wp2_with fail
        go_ret
        refine ⟨?_, ho.drewN _⟩
        rw [HF.out, HD.out, lexI, if_pos (by rw [EX.out, EY.out]; exact h1)]
        rfl
      · go_wp2_with fail
        go_quiet (fail)
        go_wp2_with fail
        go_quiet (fail)
        go_wp2_with fail
        go_ret
        refine ⟨?_, (ho.drewN _).drewN _⟩
        rw [HF.out, HD.out, lexI, if_neg (by rw [EX.out, EY.out]; omega), if_pos (by rw [EX.out, EY.out]; exact h2)]
        rfl
      · have HN := Lib.hid (show lexI l = lexI (l.drop (k + 1)) by rw [HF.out, HD.out, lexI, if_neg (by rw [EX.out, EY.out]; omega), if_neg (by rw [EX.out, EY.out]; omega)])
        go_wp2_with fail
        go_quiet (fail)
        go_wp2_with fail
        go_quiet (fail)
        go_wp2_with fail
        go_roundw
        case rel => exact ⟨k + 1, by omega, by go_num, HN.out, hx.drewN _, hy.drewN _, ho.drewN _⟩
        case measure => simp only [intOf]; omega
    · go_wp2_with fail
      go_ret
      refine ⟨?_, ho⟩
      rw [HF.out, List.drop_of_length_le (by rw [HL.out]; exact Nat.le_refl _)]
      rfl

set_option maxRecDepth 100000 in
set_option maxHeartbeats 2000000 in
theorem orders_any (w : World) (a b : Cl) (hM : Ml w) : Calls Tryd.prog 7 #[.agg a.cells, .agg b.cells] w fun e w' => e = .returned (.bool true) ∧ Only (fun _ => False) w w' := by
  have H1 := fun W => sorder_any W a b
  have H2 := fun W => rorder_any W a b
  generalize lexI (a.pairs b) = L at *
  obtain ⟨a0, a1, a2, a3, a4⟩ := a
  obtain ⟨b0, b1, b2, b3, b4⟩ := b
  simp only [Cl.cells] at *
  have H1 := Lib.hid H1
  have H2 := Lib.hid H2
  have HM := Lib.hid hM
  clear hM
  have hcase : L < 0 ∨ 0 < L ∨ L = 0 := by omega
  rcases hcase with hL | hL | rfl
  all_goals
    go_enter Tryd.func7, Tryd.ntmps7
    go_wp2_with fail
    refine (H1.out _).mono ?_; rintro e w1 ⟨rfl, o1⟩
    have k1 : CAt w1 w.heap.size a0 a1 a2 a3 a4 := o1.has ((Has.new w _ _).alloc _) (fun f => f)
    have k2 : CAt w1 (w.heap.size + 1) b0 b1 b2 b3 b4 := by
      have hn := Has.new (w.alloc (.cells #[.int .i64 a0, .int .i64 a1, .int .i64 a2, .int .i64 a3, .int .i64 a4] 23)) 23 #[.int .i64 b0, .int .i64 b1, .int .i64 b2, .int .i64 b3, .int .i64 b4]
      rw [show (w.alloc (.cells #[.int .i64 a0, .int .i64 a1, .int .i64 a2, .int .i64 a3, .int .i64 a4] 23)).heap.size = w.heap.size + 1 by simp] at hn
      exact o1.has hn (fun f => f)
    have O1 := (((Only.refl (fun _ => False) w).alloc _).alloc _).trans o1
    obtain ⟨f0, f1, f2, f3, f4⟩ := cl_facts k1
    obtain ⟨g0, g1, g2, g3, g4⟩ := cl_facts k2
    go_wp2_with fail
    refine (H2.out _).mono ?_; rintro e w2 ⟨rfl, o2⟩
    go_wp2_with fail
    refine (awake09_any _ (HM.out.only (O1.trans o2))).mono ?_; rintro e w3 ⟨rfl, o3⟩
    go_wp2_with fail
    go_ret
    exact ⟨rfl, (O1.trans o2).trans o3⟩
end Go.Proofs.YtigcfgmblnbleaaDoor
