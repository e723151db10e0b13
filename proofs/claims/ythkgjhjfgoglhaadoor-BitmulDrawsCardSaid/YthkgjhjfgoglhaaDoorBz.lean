/- bits: Of; Xor and And by zip. -/
import Derived.Test.YthkgjhjfgoglhaaDoorBw
import Derived.Test.YthkgjhjfgoglhaaDoorRs
import Derived.StillTailTactics
import Derived.Deep.DeepCutAuto
set_option linter.unusedSimpArgs false
set_option linter.unusedVariables false
namespace Go.Proofs.YthkgjhjfgoglhaaDoor
open Go.RowKit

theorem VecIs.words {w : World} {base n : Nat} {v : Value} {f : Nat → Bool} (h : VecIs w base v n f) : ∃ A c, v = .agg #[.int .i64 n, .slice A (nw n) c] ∧ ∀ k, k < nw n → ∃ g, A = some ⟨g, 0, none⟩ ∧ w.cell? ⟨g, k, none⟩ = some (.int .u64 (wd f k : Int)) := by
  rcases h with ⟨h0, h1⟩ | ⟨g, h1, h2, h3⟩
  · subst h0
    exact ⟨none, 0, h1, fun k hk => absurd hk (by decide +revert)⟩
  · exact ⟨_, _, h2, fun k hk => ⟨g, rfl, h3.cell hk⟩⟩
theorem has_new2 (w : World) (o : Obj) (t : TypeId) (cs : Array Value) : Has ((w.alloc o).alloc (.cells cs t)) (w.heap.size + 1) t cs := by
  have h := Has.new (w.alloc o) t cs
  rwa [show (w.alloc o).heap.size = w.heap.size + 1 by simp] at h
theorem row_new2 (w : World) (o : Obj) (z : Value) (n : Nat) (t : TypeId) : ((w.alloc o).alloc (.cells (madeCells #[z] n) t)).drew.rowIs (w.heap.size + 1) t n (fun _ => z) := by
  have h := World.rowIs_made (w.alloc o) z n t
  rw [show (w.alloc o).heap.size = w.heap.size + 1 by simp] at h
  exact h.drew
theorem has_new3 (w : World) (o o2 : Obj) (t : TypeId) (cs : Array Value) : Has (((w.alloc o).alloc o2).alloc (.cells cs t)) (w.heap.size + 2) t cs := by
  have h := Has.new ((w.alloc o).alloc o2) t cs
  rwa [show ((w.alloc o).alloc o2).heap.size = w.heap.size + 2 by simp] at h
theorem xor_any (w : World) (a b : Int) : Calls Tryd.prog 35 #[.int .u64 a, .int .u64 b] w fun e w' => e = .returned (.int .u64 (bits .xor .u64 a b)) ∧ w' = w := by
  go_enter Tryd.func35, Tryd.ntmps35
  go_wp2_with fail
  go_ret
  exact ⟨rfl, rfl⟩
theorem and_any (w : World) (a b : Int) : Calls Tryd.prog 36 #[.int .u64 a, .int .u64 b] w fun e w' => e = .returned (.int .u64 (bits .and .u64 a b)) ∧ w' = w := by
  go_enter Tryd.func36, Tryd.ntmps36
  go_wp2_with fail
  go_ret
  exact ⟨rfl, rfl⟩
theorem res_zip {W : World} {b : Nat} {x0 x1 v : Value} {tm : Array Value} (h : Has W b 30 #[x0, x1]) (h8 : tm.getD 6 undef = .pointer (some ⟨b, 0, none⟩)) (h9 : tm.getD 7 undef = v) :
    (results Tryd.f34 tm).run Tryd.prog W = .ok (.tuple #[.agg #[x0, x1], v]) W := by
  obtain ⟨c0, c1, _⟩ := h.facts2
  simp only [Array.getD_eq_getD_getElem?] at h8 h9
  simp [results, Tryd.results34, go_sem, h8, h9, c0, c1]
set_option maxRecDepth 100000 in
set_option maxHeartbeats 4000000 in
theorem zip_xor (w : World) (base base' n : Nat) (a b : Value) (f g : Nat → Bool) (ha : VecIs w base a n f) (hb : VecIs w base' b n g) (hn : n ≤ 4194304) : Calls Tryd.prog 34 #[a, b, .func (.func 35) #[] #[]] w fun x w' => (∃ v, x = .returned (.tuple #[v, .int .i64 0]) ∧ VecIs w' w.heap.size v n (fun i => f i ^^ g i)) ∧ Only (fun _ => False) w w' := by
  have hk : nw n ≤ 65536 := by unfold nw; omega
  have hmk := run_make_row' (P := Tryd.prog) 22 52 (.int .u64 0) 8 Tryd.underlying22 Tryd.info_w rfl .i64 .i64 (nw n) (by omega) (by omega)
  have HA := Lib.hid ha
  have HB := Lib.hid hb
  obtain ⟨A, ca, rfl, hwa⟩ := ha.words
  obtain ⟨B, cb, rfl, hwb⟩ := hb.words
  have HWA := Lib.hid (fun W (o : Only (fun _ => False) w W) k (hk : k < nw n) => (show ∃ g0, A = some ⟨g0, 0, none⟩ ∧ W.cell? ⟨g0, k, none⟩ = some (.int .u64 (wd f k : Int)) by obtain ⟨g0, e, c⟩ := hwa k hk; exact ⟨g0, e, o.cell c (fun f => f)⟩))
  have HWB := Lib.hid (fun W (o : Only (fun _ => False) w W) k (hk : k < nw n) => (show ∃ g0, B = some ⟨g0, 0, none⟩ ∧ W.cell? ⟨g0, k, none⟩ = some (.int .u64 (wd g k : Int)) by obtain ⟨g0, e, c⟩ := hwb k hk; exact ⟨g0, e, o.cell c (fun f => f)⟩))
  clear ha hb hwa hwb
  go_enter Tryd.func34, Tryd.ntmps34
  go_upto_region 3 with fail
  have A3 : Has (((w.alloc (.cells #[.int .i64 n, .slice A (nw n) ca] 30)).alloc (.cells #[.int .i64 n, .slice B (nw n) cb] 30)).alloc (.cells #[.int .i64 0, .slice none 0 0] 30)) w.heap.size 30 #[.int .i64 n, .slice A (nw n) ca] := ((Has.new _ _ _).alloc _).alloc _
  have B3 : Has (((w.alloc (.cells #[.int .i64 n, .slice A (nw n) ca] 30)).alloc (.cells #[.int .i64 n, .slice B (nw n) cb] 30)).alloc (.cells #[.int .i64 0, .slice none 0 0] 30)) (w.heap.size + 1) 30 #[.int .i64 n, .slice B (nw n) cb] := (has_new2 _ _ _ _).alloc _
  have D3 : Has (((w.alloc (.cells #[.int .i64 n, .slice A (nw n) ca] 30)).alloc (.cells #[.int .i64 n, .slice B (nw n) cb] 30)).alloc (.cells #[.int .i64 0, .slice none 0 0] 30)) (w.heap.size + 2) 30 #[.int .i64 0, .slice none 0 0] := has_new3 _ _ _ _ _
  have O3 : Only (fun _ => False) w (((w.alloc (.cells #[.int .i64 n, .slice A (nw n) ca] 30)).alloc (.cells #[.int .i64 n, .slice B (nw n) cb] 30)).alloc (.cells #[.int .i64 0, .slice none 0 0] 30)) := (((Only.refl _ _).alloc _).alloc _).alloc _
  have hs3 : (((w.alloc (.cells #[.int .i64 n, .slice A (nw n) ca] 30)).alloc (.cells #[.int .i64 n, .slice B (nw n) cb] 30)).alloc (.cells #[.int .i64 0, .slice none 0 0] 30)).heap.size = w.heap.size + 3 := by simp
  go_cut [8] (fun s8 W => ∃ b8 g8 : Nat, s8 = .pointer (some ⟨b8, 0, none⟩) ∧ w.heap.size + 3 ≤ b8 ∧ w.heap.size + 3 ≤ g8 ∧ b8 ≠ g8 ∧ W.rowIs g8 52 (nw n) (fun _ => .int .u64 0) ∧ Has W b8 30 #[.int .i64 n, .slice (some ⟨g8, 0, none⟩) (nw n) (nw n)] ∧ Has W w.heap.size 30 #[.int .i64 n, .slice A (nw n) ca] ∧ Has W (w.heap.size + 1) 30 #[.int .i64 n, .slice B (nw n) cb] ∧ Has W (w.heap.size + 2) 30 #[.int .i64 0, .slice none 0 0] ∧ Only (fun _ => False) w W)
  case first =>
    generalize (((w.alloc (.cells #[.int .i64 n, .slice A (nw n) ca] 30)).alloc (.cells #[.int .i64 n, .slice B (nw n) cb] 30)).alloc (.cells #[.int .i64 0, .slice none 0 0] 30)) = W3 at *
    obtain ⟨a0, a1, _⟩ := A3.facts2
    have HS3 := Lib.hid hs3
    clear hs3
    have G0 : ∀ o, (W3.alloc o).cell? ⟨w.heap.size, 0, none⟩ = some (.int .i64 n) := fun o => (A3.alloc o).cell 0
    have G1 : ∀ o, (W3.alloc o).cell? ⟨w.heap.size, 1, none⟩ = some (.slice A (nw n) ca) := fun o => (A3.alloc o).cell 1
    have G2 : ∀ o o2, ((W3.alloc o).alloc o2).cell? ⟨w.heap.size, 0, none⟩ = some (.int .i64 n) := fun o o2 => ((A3.alloc o).alloc o2).cell 0
    have G3 : ∀ o o2, ((W3.alloc o).alloc o2).cell? ⟨w.heap.size, 1, none⟩ = some (.slice A (nw n) ca) := fun o o2 => ((A3.alloc o).alloc o2).cell 1
    go_region
    all_goals
      go_wp2_with fail
      go_meet
      first
        | exact ⟨W3.heap.size + 1, W3.heap.size, rfl, by rw [HS3.out]; omega, by rw [HS3.out]; exact Nat.le_refl _, by omega, ((World.rowIs_made W3 _ _ _).alloc _).drew, (has_new2 W3 _ _ _).drew, ((A3.alloc _).alloc _).drew, ((B3.alloc _).alloc _).drew, ((D3.alloc _).alloc _).drew, ((O3.alloc _).alloc _).drew⟩
        | exact ⟨W3.heap.size, W3.heap.size + 1, rfl, by rw [HS3.out]; exact Nat.le_refl _, by rw [HS3.out]; omega, by omega, row_new2 W3 _ _ _ _, ((Has.new W3 _ _).alloc _).drew, ((A3.alloc _).alloc _).drew, ((B3.alloc _).alloc _).drew, ((D3.alloc _).alloc _).drew, ((O3.alloc _).alloc _).drew⟩
  case rest =>
    obtain ⟨b8, g8, rfl, hb8, hg8, hbg, R4, C4, A4, B4, D4, O4⟩ := hcut
    clear A3 B3 D3 O3 hs3
    obtain ⟨e0, e1, _⟩ := C4.facts2
    go_wp2_with fail
    go_loopw [9, 26] (fun _ i W => ∃ k : Nat, k ≤ nw n ∧ i = .int .i64 k ∧ W.rowIs g8 52 (nw n) (fun j => if j < k then wcell (fun i => f i ^^ g i) j else .int .u64 0) ∧ Has W b8 30 #[.int .i64 n, .slice (some ⟨g8, 0, none⟩) (nw n) (nw n)] ∧ Has W w.heap.size 30 #[.int .i64 n, .slice A (nw n) ca] ∧ Has W (w.heap.size + 1) 30 #[.int .i64 n, .slice B (nw n) cb] ∧ Has W (w.heap.size + 2) 30 #[.int .i64 0, .slice none 0 0] ∧ Only (fun _ => False) w W) (fun _ i _ => nw n - (intOf i).toNat)
    case atStart => exact ⟨0, by omega, rfl, R4.congr (fun i hi => by simp), C4, A4, B4, D4, O4⟩
    case round =>
      obtain ⟨k, hkn, rfl, hR, hC, hA, hB, hD, hO⟩ := hrel
      have hk' : k < nw n ∨ k = nw n := by omega
      rcases hk' with hlt | rfl
      · have hki : (k : Int) < (nw n : Int) := by omega
        obtain ⟨ga, rfl, xa⟩ := HWA.out wr hO k hlt
        obtain ⟨gb, rfl, xb⟩ := HWB.out wr hO k hlt
        have c1 : wr.cell? ⟨b8, 1, none⟩ = some (.slice (some ⟨g8, 0, none⟩) (nw n) (nw n)) := hC.cell 1
        have a1 : wr.cell? ⟨w.heap.size, 1, none⟩ = some (.slice (some ⟨ga, 0, none⟩) (nw n) ca) := hA.cell 1
        have b1 : wr.cell? ⟨w.heap.size + 1, 1, none⟩ = some (.slice (some ⟨gb, 0, none⟩) (nw n) cb) := hB.cell 1
        have d0 : wr.drew.cell? ⟨g8, k, none⟩ = _ := hR.cell hlt
        have df : wr.drew.frozen? ⟨g8, k, none⟩ = false := hR.frozen k
        have HX := Lib.hid (show bits .xor .u64 (wd f k : Int) (wd g k : Int) = (wd (fun i => f i ^^ g i) k : Int) by rw [u64_xor _ _ (wd_lt f k) (wd_lt g k), wd_xor])
        have HR := Lib.hid hR
        clear hR
        generalize wd f k = x at *
        generalize wd g k = y at *
        go_wp2_with fail
        go_still_tail 16, (by kernel_rfl)
        still_call (xor_any _ _ _)
        repeat still_step
        refine wpStill_nil ?_
        change wpList _ _ _ _ _ wr.drew
        rw [HX.out]
        have R5 := HR.out.drew
        have C5 := hC.drew
        have A5 := hA.drew
        have B5 := hB.drew
        have D5 := hD.drew
        have O5 := hO.drew
        have HR5 := Lib.hid R5
        clear R5 HR hC hA hB hD hO c1 a1 b1
        generalize wr.drew = w5 at *
        go_wp2_with fail
        go_roundw
        case rel =>
          refine ⟨k + 1, by omega, by go_num, (HR5.out.set k _).congr (fun j hj => ?_), C5.far (p := ⟨g8, k, none⟩) (by show b8 ≠ g8; exact hbg) _, A5.far (p := ⟨g8, k, none⟩) (by show w.heap.size ≠ g8; omega) _, B5.far (p := ⟨g8, k, none⟩) (by show w.heap.size + 1 ≠ g8; omega) _, D5.far (p := ⟨g8, k, none⟩) (by show w.heap.size + 2 ≠ g8; omega) _, O5.setCell ⟨g8, k, none⟩ _ (fun q => absurd q (by show ¬ g8 < w.heap.size; omega))⟩
          by_cases hjk : j = k
          · subst hjk
            rw [if_pos rfl, if_pos (Nat.lt_succ_self _)]
            rfl
          · rw [if_neg hjk]
            by_cases hj2 : j < k
            · rw [if_pos hj2, if_pos (by omega)]
            · rw [if_neg hj2, if_neg (by omega)]
        case measure => simp only [intOf]; omega
      · have hki : ¬ ((nw n : Nat) : Int) < (nw n : Int) := by omega
        obtain ⟨c0, c1, _⟩ := hC.facts2
        obtain ⟨d0, d1, df⟩ := hD.facts2
        have HR := Lib.hid (hR.congr (g := wcell (fun i => f i ^^ g i)) (fun i hi => by rw [if_pos hi]))
        clear hR
        go_wp2_with fail
        refine bodyPost_ret (v := .tuple #[.agg #[.int .i64 n, .slice (some ⟨g8, 0, none⟩) (nw n) (nw n)], .int .i64 0]) ?hr rfl ?hp
        case hr => exact res_zip (b := w.heap.size + 2) (Has.put2 hD rfl _ _) rfl rfl
        case hp => exact ⟨⟨_, rfl, .inr ⟨g8, by omega, rfl, (HR.out.setOther (a := ⟨w.heap.size + 2, 0, none⟩) (by show g8 ≠ w.heap.size + 2; omega) _).setOther (a := ⟨w.heap.size + 2, 1, none⟩) (by show g8 ≠ w.heap.size + 2; omega) _⟩⟩, hO.then_ (Only.put2 _ (w.heap.size + 2) (.int .i64 n) (.slice (some ⟨g8, 0, none⟩) (nw n) (nw n))) (fun i hi e => absurd hi (by have : i = w.heap.size + 2 := e; omega))⟩
end Go.Proofs.YthkgjhjfgoglhaaDoor
