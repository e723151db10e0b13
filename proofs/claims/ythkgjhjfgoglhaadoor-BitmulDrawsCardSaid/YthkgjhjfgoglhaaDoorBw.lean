/- bits: words, New, Get, Bools. -/
import Derived.Test.YthkgjhjfgoglhaaDoorProg
import Derived.Test.YthkgjhjfgoglhaaDoorMem
import Derived.Test.YthkgjhjfgoglhaaDoorPut
import Derived.Test.YthkgjhjfgoglhaaDoorBv
import Derived.Deep.OwnRows
import Derived.WalkKit
import Derived.WalkSpells
import Derived.WideLaws
import Derived.Outline
import Derived.Lib.Hide
import Derived.LoopTactic
import Derived.RegionTactic
import Derived.BigQuiet
import Derived.Deep.QuietTactic
set_option linter.unusedSimpArgs false
set_option linter.unusedVariables false
namespace Go.Proofs.YthkgjhjfgoglhaaDoor
open Go.RowKit

theorem Only.row {S : Nat → Prop} {a b : World} {g n : Nat} {t : TypeId} {f : Nat → Value} (h : Only S a b) (hr : a.rowIs g t n f) (hg : ¬ S g) : b.rowIs g t n f := hr.of_block (h.block g hr.lt hg)
theorem Tryd.info_w : (Tryd.prog.info? 52).map (fun i => (i.zero, i.size, i.bytes)) = some (some (.int .u64 0), 1, 8) := by kernel_rfl
theorem Tryd.info_b : (Tryd.prog.info? 4).map (fun i => (i.zero, i.size, i.bytes)) = some (some (.bool false), 1, 1) := by kernel_rfl
def wcell (f : Nat → Bool) : Nat → Value := fun k => .int .u64 (wd f k : Int)
/-- A Vec: so many bits, the words in a row of its own from base on. -/
def VecIs (w : World) (base : Nat) (v : Value) (n : Nat) (f : Nat → Bool) : Prop :=
  (n = 0 ∧ v = .agg #[.int .i64 0, .slice none 0 0]) ∨ ∃ g, base ≤ g ∧ v = .agg #[.int .i64 n, .slice (some ⟨g, 0, none⟩) (nw n) (nw n)] ∧ w.rowIs g 52 (nw n) (wcell f)
theorem VecIs.only {S : Nat → Prop} {a b : World} {base n : Nat} {v : Value} {f : Nat → Bool} (h : VecIs a base v n f) (o : Only S a b) (hS : ∀ g, base ≤ g → g < a.heap.size → ¬ S g) : VecIs b base v n f := by
  rcases h with h | ⟨g, h1, h2, h3⟩
  · exact .inl h
  · exact .inr ⟨g, h1, h2, o.row h3 (hS g h1 h3.lt)⟩
theorem VecIs.mono {w : World} {base base' n : Nat} {v : Value} {f : Nat → Bool} (h : VecIs w base v n f) (hb : base' ≤ base) : VecIs w base' v n f := by
  rcases h with h | ⟨g, h1, h2, h3⟩
  · exact .inl h
  · exact .inr ⟨g, Nat.le_trans hb h1, h2, h3⟩
theorem VecIs.congr {w : World} {base n : Nat} {v : Value} {f f' : Nat → Bool} (h : VecIs w base v n f) (e : ∀ i, i < 64 * nw n → f i = f' i) : VecIs w base v n f' := by
  rcases h with h | ⟨g, h1, h2, h3⟩
  · exact .inl h
  · refine .inr ⟨g, h1, h2, h3.congr fun k hk => ?_⟩
    unfold wcell
    rw [wd_congr fun j hj => e (64 * k + j) (by omega)]
theorem nw_lt {i n : Nat} (h : i < n) : i / 64 < nw n := by unfold nw; omega

theorem bwords_any (w : World) (n : Nat) (hn : n ≤ 4611686018427387904) : Calls Tryd.prog 38 #[.int .i64 n] w fun x w' => x = .returned (.int .i64 (nw n : Nat)) ∧ w = w' := by
  have h : ((n : Int) + 63) / 64 = ((nw n : Nat) : Int) := by unfold nw; omega
  go_enter Tryd.func38, Tryd.ntmps38
  go_wp2_with fail
  go_ret
  exact ⟨rfl, rfl⟩

theorem res_new {W : World} {b : Nat} {x0 x1 v : Value} {tm : Array Value} (h : Has W b 30 #[x0, x1]) (h8 : tm.getD 2 undef = .pointer (some ⟨b, 0, none⟩)) (h9 : tm.getD 3 undef = v) :
    (results Tryd.f31 tm).run Tryd.prog W = .ok (.tuple #[.agg #[x0, x1], v]) W := by
  obtain ⟨c0, c1, _⟩ := h.facts2
  simp only [Array.getD_eq_getD_getElem?] at h8 h9
  simp [results, Tryd.results31, go_sem, h8, h9, c0, c1]
set_option maxRecDepth 100000 in
set_option maxHeartbeats 1000000 in
theorem bnew_any (w : World) (n : Nat) (hn : n ≤ 4194304) : Calls Tryd.prog 31 #[.int .i64 n] w fun x w' => (∃ g, x = .returned (.tuple #[.agg #[.int .i64 n, .slice (some ⟨g, 0, none⟩) (nw n) (nw n)], .int .i64 0]) ∧ w.heap.size ≤ g ∧ w'.rowIs g 52 (nw n) (fun _ => .int .u64 0)) ∧ Only (fun _ => False) w w' := by
  have hk : nw n ≤ 65536 := by unfold nw; omega
  have hmk := run_make_row' (P := Tryd.prog) 22 52 (.int .u64 0) 8 Tryd.underlying22 Tryd.info_w rfl .i64 .i64 (nw n) (by omega) (by omega)
  have HW := Lib.hid (fun W => bwords_any W n (by omega))
  have h1 : (n : Int) ≤ 4194304 := by omega
  go_enter Tryd.func31, Tryd.ntmps31
  go_wp2_with fail
  refine (HW.out _).mono ?_; rintro e w1 ⟨rfl, rfl⟩
  go_wp2_with fail
  refine bodyPost_ret (v := .tuple #[.agg #[.int .i64 n, .slice (some ⟨w.heap.size + 1, 0, none⟩) (nw n) (nw n)], .int .i64 0]) ?hr rfl ?hp
  case hr => exact res_new (b := w.heap.size) ((Has.new _ _ _).alloc _) rfl rfl
  case hp =>
    have hr := World.rowIs_made (w.alloc (.cells #[.int .i64 n, .slice (some ⟨w.heap.size + 1, 0, none⟩) (nw n) (nw n)] 30)) (.int .u64 0) (nw n) 52
    rw [show (w.alloc (.cells #[.int .i64 n, .slice (some ⟨w.heap.size + 1, 0, none⟩) (nw n) (nw n)] 30)).heap.size = w.heap.size + 1 by simp] at hr
    exact ⟨⟨w.heap.size + 1, rfl, Nat.le_succ _, hr⟩, ((Only.refl _ _).alloc _).alloc _⟩

theorem get_bit (f : Nat → Bool) (i : Nat) : bits .and .u64 ((wd f (i / 64) : Int) / 2 ^ (i % 64)) 1 = if f i = true then 1 else 0 := by
  have hl := wd_lt f (i / 64)
  have hd : ((wd f (i / 64) : Int)) / 2 ^ (i % 64) = ((wd f (i / 64) / 2 ^ (i % 64) : Nat) : Int) := by simp
  have hle : wd f (i / 64) / 2 ^ (i % 64) ≤ wd f (i / 64) := Nat.div_le_self _ _
  have := wd_get f i
  rw [hd]
  generalize wd f (i / 64) / 2 ^ (i % 64) = y at *
  rw [u64_and1 _ (by omega) (by omega)]
  by_cases hf : f i = true
  · rw [if_pos hf]
    have h1 := this.mpr hf
    omega
  · rw [if_neg hf]
    have h1 : ¬ y % 2 = 1 := fun q => hf (this.mp q)
    omega
set_option maxRecDepth 100000 in
set_option maxHeartbeats 1000000 in
theorem bget_any (w : World) (base n i : Nat) (v : Value) (f : Nat → Bool) (h : VecIs w base v n f) (hn : n ≤ 4194304) (hi : i ≤ 4611686018427387904) : Calls Tryd.prog 32 #[v, .int .i64 i] w fun x w' => x = .returned (.bool (decide (i < n) && f i)) ∧ Only (fun _ => False) w w' := by
  by_cases hin : i < n
  · rcases h with ⟨h0, _⟩ | ⟨g, hb, rfl, hrow⟩
    · omega
    · rw [decide_eq_true hin, Bool.true_and]
      have hbit := get_bit f i
      have hin' : (i : Int) < (n : Int) := by omega
      have c0 : ∀ t cs, (w.alloc (.cells cs t)).cell? ⟨g, i / 64, none⟩ = some (.int .u64 (wd f (i / 64) : Int)) := fun t cs => (hrow.alloc _).cell (nw_lt hin)
      have hl := wd_lt f (i / 64)
      have hd : (i : Int) / 64 = ((i / 64 : Nat) : Int) := by omega
      have hm : (i : Int) % 64 = ((i % 64 : Nat) : Int) := by omega
      have hnl := nw_lt hin
      have hr : i % 64 < 64 := Nat.mod_lt _ (by decide)
      generalize i / 64 = k at *
      generalize i % 64 = r at *
      generalize wd f k = X at *
      have hk' : (k : Int) < (nw n : Int) := by omega
      have hwr : IntKind.u64.wrap (r : Int) = r := by rw [IntKind.wrap_u64]; omega
      have hmn : min r 64 = r := by omega
      clear hrow hl hnl
      by_cases hf : f i = true
      · rw [if_pos hf] at hbit
        rw [hf]
        clear hf
        go_enter Tryd.func32, Tryd.ntmps32
        go_wp2_with fail
        go_ret
        exact ⟨rfl, (Only.refl _ _).alloc _⟩
      · rw [if_neg hf] at hbit
        have hf : f i = false := by simpa using hf
        rw [hf]
        clear hf
        go_enter Tryd.func32, Tryd.ntmps32
        go_wp2_with fail
        go_ret
        exact ⟨rfl, (Only.refl _ _).alloc _⟩
  · rw [decide_eq_false hin, Bool.false_and]
    obtain ⟨A, m, c, rfl⟩ : ∃ A m c, v = .agg #[.int .i64 n, .slice A m c] := by
      rcases h with ⟨h0, h1⟩ | ⟨g, _, h1, _⟩
      · subst h0; exact ⟨_, _, _, h1⟩
      · exact ⟨_, _, _, h1⟩
    have hin' : ¬ (i : Int) < (n : Int) := by omega
    have hi0 : ¬ (i : Int) < 0 := by omega
    clear h
    go_enter Tryd.func32, Tryd.ntmps32
    go_wp2_with fail
    go_ret
    exact ⟨rfl, (Only.refl _ _).alloc _⟩
theorem VecIs.shape {w : World} {base n : Nat} {v : Value} {f : Nat → Bool} (h : VecIs w base v n f) : ∃ A m c, v = .agg #[.int .i64 n, .slice A m c] := by
  rcases h with ⟨h0, h1⟩ | ⟨g, _, h1, _⟩
  · subst h0; exact ⟨_, _, _, h1⟩
  · exact ⟨_, _, _, h1⟩
set_option maxRecDepth 100000 in
set_option maxHeartbeats 2000000 in
theorem bbools_any (w : World) (base n : Nat) (v : Value) (f : Nat → Bool) (h : VecIs w base v n f) (hn : n ≤ 4194304) : Calls Tryd.prog 24 #[v] w fun x w' => (∃ g, x = .returned (.slice (some ⟨g, 0, none⟩) n n) ∧ w.heap.size ≤ g ∧ w'.rowIs g 4 n (fun i => .bool (f i))) ∧ Only (fun _ => False) w w' := by
  have hmk := run_make_row' (P := Tryd.prog) 37 4 (.bool false) 1 Tryd.underlying37 Tryd.info_b rfl .i64 .i64 n (by omega) (by omega)
  obtain ⟨A, m, c, rfl⟩ := h.shape
  have HG := Lib.hid (fun W (h : VecIs W base (.agg #[.int .i64 n, .slice A m c]) n f) i hi => bget_any W base n i _ f h hn hi)
  have HV := Lib.hid h
  have hr := World.rowIs_made (w.alloc (.cells #[.int .i64 n, .slice A m c] 30)) (.bool false) n 4
  rw [show (w.alloc (.cells #[.int .i64 n, .slice A m c] 30)).heap.size = w.heap.size + 1 by simp] at hr
  have hb : Has ((w.alloc (.cells #[.int .i64 n, .slice A m c] 30)).alloc (.cells (madeCells #[.bool false] n) 4)) w.heap.size 30 #[.int .i64 n, .slice A m c] := (Has.new _ _ _).alloc _
  have ho : Only (fun _ => False) w ((w.alloc (.cells #[.int .i64 n, .slice A m c] 30)).alloc (.cells (madeCells #[.bool false] n) 4)) := ((Only.refl _ _).alloc _).alloc _
  clear h
  go_enter Tryd.func24, Tryd.ntmps24
  go_wp2_with fail
  go_loopw [4, 10] (fun _ i W => ∃ k : Nat, k ≤ n ∧ i = .int .i64 k ∧ W.rowIs (w.heap.size + 1) 4 n (fun j => .bool (decide (j < k) && f j)) ∧ Has W w.heap.size 30 #[.int .i64 n, .slice A m c] ∧ Only (fun _ => False) w W) (fun _ i _ => n - (intOf i).toNat)
  case atStart => exact ⟨0, by omega, rfl, hr.congr (fun i hi => by simp), hb, ho⟩
  case round =>
    obtain ⟨k, hk, rfl, hrow, hB, hO⟩ := hrel
    have hk' : k < n ∨ k = n := by omega
    rcases hk' with hkn | rfl
    · have hki : (k : Int) < (n : Int) := by omega
      obtain ⟨c0, c1, _⟩ := hB.facts2
      have HGK := Lib.hid (HG.out wr (HV.out.only hO (fun _ _ _ f => f)) k (by omega))
      rw [decide_eq_true hkn, Bool.true_and] at HGK
      have HR := Lib.hid hrow
      clear hrow
      go_wp2_with fail
      refine (HGK.out).mono ?_; rintro e w2 ⟨rfl, o2⟩
      have R2 := o2.row HR.out (fun f => f)
      have B2 := o2.has hB (fun f => f)
      have O2 := Lib.hid (hO.trans o2)
      have d0 := R2.cell hkn
      have df := R2.frozen k
      have HR2 := Lib.hid R2
      clear R2 o2 hO HR hB c0 c1
      go_wp2_with fail
      go_roundw
      case rel =>
        refine ⟨k + 1, by omega, by go_num, (HR2.out.set k (.bool (f k))).congr (fun i hi => ?_), B2.far (p := ⟨w.heap.size + 1, k, none⟩) (by show w.heap.size ≠ w.heap.size + 1; omega) _, O2.out.setCell ⟨w.heap.size + 1, k, none⟩ _ (fun q => absurd q (by show ¬ w.heap.size + 1 < w.heap.size; omega))⟩
        by_cases hik : i = k
        · subst hik; simp
        · rw [if_neg hik]
          have : (i < k + 1) = (i < k) := by apply propext; omega
          simp [this]
      case measure => simp only [intOf]; omega
    · have hki : ¬ (k : Int) < (k : Int) := by omega
      go_wp2_with fail
      go_ret
      exact ⟨⟨w.heap.size + 1, rfl, Nat.le_succ _, hrow.congr (fun i hi => by simp [hi])⟩, hO⟩
end Go.Proofs.YthkgjhjfgoglhaaDoor
