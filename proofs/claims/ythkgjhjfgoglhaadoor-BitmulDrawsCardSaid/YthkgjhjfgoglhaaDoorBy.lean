/- bits: And by zip; zip at unlike sizes; Xor, And, Of, Len, Count where all is 0. -/
import Derived.Test.YthkgjhjfgoglhaaDoorBz
import Derived.Deep.LoopGhost
set_option linter.unusedSimpArgs false
set_option linter.unusedVariables false
namespace Go.Proofs.YthkgjhjfgoglhaaDoor
open Go.RowKit

set_option maxRecDepth 100000 in
set_option maxHeartbeats 4000000 in
theorem zip_and (w : World) (base base' n : Nat) (a b : Value) (f g : Nat → Bool) (ha : VecIs w base a n f) (hb : VecIs w base' b n g) (hn : n ≤ 4194304) : Calls Tryd.prog 34 #[a, b, .func (.func 36) #[] #[]] w fun x w' => (∃ v, x = .returned (.tuple #[v, .int .i64 0]) ∧ VecIs w' w.heap.size v n (fun i => f i && g i)) ∧ Only (fun _ => False) w w' := by
  have hk : nw n ≤ 65536 := by unfold nw; omega
  have hmk := run_make_row' (P := Tryd.prog) 22 52 (.int .u64 0) 8 Tryd.underlying22 Tryd.info_w rfl .i64 .i64 (nw n) (by omega) (by omega)
  have HA := Lib.hid ha
  have HB := Lib.hid hb
  obtain ⟨A, ca, rfl, hwa⟩ := ha.words
  obtain ⟨B, cb, rfl, hwb⟩ := hb.words
  have HWA := Lib.hid (fun W (o : Only (fun _ => False) w W) k (hk : k < nw n) => (show ∃ g0, A = some ⟨g0, 0, none⟩ ∧ W.cell? ⟨g0, k, none⟩ = some (.int .u64 (wd f k : Int)) by obtain ⟨g0, e, c⟩ := hwa k hk; exact ⟨g0, e, o.cell c (fun f => f)⟩))
  have HWB := Lib.hid (fun W (o : Only (fun _ => False) w W) k (hk : k < nw n) => (show ∃ g0, B = some ⟨g0, 0, none⟩ ∧ W.cell? ⟨g0, k, none⟩ = some (.int .u64 (wd g k : Int)) by obtain ⟨g0, e, c⟩ := hwb k hk; exact ⟨g0, e, o.cell c (fun f => f)⟩))
  clear ha hb hwa hwb
  go_enter Tryd.func34, Tryd.ntmps34
  go_upto_region 3 with fail
  have A3 : Has (((w.alloc (.cells #[.int .i64 n, .slice A (nw n) ca] 30)).alloc (.cells #[.int .i64 n, .slice B (nw n) cb] 30)).alloc (.cells #[.int .i64 0, .slice none 0 0] 30)) w.heap.size 30 #[.int .i64 n, .slice A (nw n) ca] := ((Has.new _ _ _).alloc _).alloc _
  have B3 : Has (((w.alloc (.cells #[.int .i64 n, .slice A (nw n) ca] 30)).alloc (.cells #[.int .i64 n, .slice B (nw n) cb] 30)).alloc (.cells #[.int .i64 0, .slice none 0 0] 30)) (w.heap.size + 1) 30 #[.int .i64 n, .slice B (nw n) cb] := (has_new2 _ _ _ _).alloc _
  have D3 : Has (((w.alloc (.cells #[.int .i64 n, .slice A (nw n) ca] 30)).alloc (.cells #[.int .i64 n, .slice B (nw n) cb] 30)).alloc (.cells #[.int .i64 0, .slice none 0 0] 30)) (w.heap.size + 2) 30 #[.int .i64 0, .slice none 0 0] := has_new3 _ _ _ _ _
  have O3 : Only (fun _ => False) w (((w.alloc (.cells #[.int .i64 n, .slice A (nw n) ca] 30)).alloc (.cells #[.int .i64 n, .slice B (nw n) cb] 30)).alloc (.cells #[.int .i64 0, .slice none 0 0] 30)) := (((Only.refl _ _).alloc _).alloc _).alloc _
  have hs3 : (((w.alloc (.cells #[.int .i64 n, .slice A (nw n) ca] 30)).alloc (.cells #[.int .i64 n, .slice B (nw n) cb] 30)).alloc (.cells #[.int .i64 0, .slice none 0 0] 30)).heap.size = w.heap.size + 3 := by simp
  go_cut [8] (fun s8 W => ∃ b8 g8 : Nat, s8 = .pointer (some ⟨b8, 0, none⟩) ∧ w.heap.size + 3 ≤ b8 ∧ w.heap.size + 3 ≤ g8 ∧ b8 ≠ g8 ∧ W.rowIs g8 52 (nw n) (fun _ => .int .u64 0) ∧ Has W b8 30 #[.int .i64 n, .slice (some ⟨g8, 0, none⟩) (nw n) (nw n)] ∧ Has W w.heap.size 30 #[.int .i64 n, .slice A (nw n) ca] ∧ Has W (w.heap.size + 1) 30 #[.int .i64 n, .slice B (nw n) cb] ∧ Has W (w.heap.size + 2) 30 #[.int .i64 0, .slice none 0 0] ∧ Only (fun _ => False) w W)
  case first =>
    generalize (((w.alloc (.cells #[.int .i64 n, .slice A (nw n) ca] 30)).alloc (.cells #[.int .i64 n, .slice B (nw n) cb] 30)).alloc (.cells #[.int .i64 0, .slice none 0 0] 30)) = W3 at *
    obtain ⟨a0, a1, _⟩ := A3.facts2
    have HS3 := Lib.hid hs3
    clear hs3
    have G0 : ∀ o, (W3.alloc o).cell? ⟨w.heap.size, 0, none⟩ = some (.int .i64 n) := fun o => (A3.alloc o).cell 0
    have G1 : ∀ o, (W3.alloc o).cell? ⟨w.heap.size, 1, none⟩ = some (.slice A (nw n) ca) := fun o => (A3.alloc o).cell 1
    have G2 : ∀ o o2, ((W3.alloc o).alloc o2).cell? ⟨w.heap.size, 0, none⟩ = some (.int .i64 n) := fun o o2 => ((A3.alloc o).alloc o2).cell 0
    have G3 : ∀ o o2, ((W3.alloc o).alloc o2).cell? ⟨w.heap.size, 1, none⟩ = some (.slice A (nw n) ca) := fun o o2 => ((A3.alloc o).alloc o2).cell 1
    go_region
    all_goals
      go_wp2_with fail
      go_meet
      first
        | exact ⟨W3.heap.size + 1, W3.heap.size, rfl, by rw [HS3.out]; omega, by rw [HS3.out]; exact Nat.le_refl _, by omega, ((World.rowIs_made W3 _ _ _).alloc _).drew, (has_new2 W3 _ _ _).drew, ((A3.alloc _).alloc _).drew, ((B3.alloc _).alloc _).drew, ((D3.alloc _).alloc _).drew, ((O3.alloc _).alloc _).drew⟩
        | exact ⟨W3.heap.size, W3.heap.size + 1, rfl, by rw [HS3.out]; exact Nat.le_refl _, by rw [HS3.out]; omega, by omega, row_new2 W3 _ _ _ _, ((Has.new W3 _ _).alloc _).drew, ((A3.alloc _).alloc _).drew, ((B3.alloc _).alloc _).drew, ((D3.alloc _).alloc _).drew, ((O3.alloc _).alloc _).drew⟩
  case rest =>
    obtain ⟨b8, g8, rfl, hb8, hg8, hbg, R4, C4, A4, B4, D4, O4⟩ := hcut
    clear A3 B3 D3 O3 hs3
    obtain ⟨e0, e1, _⟩ := C4.facts2
    go_wp2_with fail
    go_loopw [9, 26] (fun _ i W => ∃ k : Nat, k ≤ nw n ∧ i = .int .i64 k ∧ W.rowIs g8 52 (nw n) (fun j => if j < k then wcell (fun i => f i && g i) j else .int .u64 0) ∧ Has W b8 30 #[.int .i64 n, .slice (some ⟨g8, 0, none⟩) (nw n) (nw n)] ∧ Has W w.heap.size 30 #[.int .i64 n, .slice A (nw n) ca] ∧ Has W (w.heap.size + 1) 30 #[.int .i64 n, .slice B (nw n) cb] ∧ Has W (w.heap.size + 2) 30 #[.int .i64 0, .slice none 0 0] ∧ Only (fun _ => False) w W) (fun _ i _ => nw n - (intOf i).toNat)
    case atStart => exact ⟨0, by omega, rfl, R4.congr (fun i hi => by simp), C4, A4, B4, D4, O4⟩
    case round =>
      obtain ⟨k, hkn, rfl, hR, hC, hA, hB, hD, hO⟩ := hrel
      have hk' : k < nw n ∨ k = nw n := by omega
      rcases hk' with hlt | rfl
      · have hki : (k : Int) < (nw n : Int) := by omega
        obtain ⟨ga, rfl, xa⟩ := HWA.out wr hO k hlt
        obtain ⟨gb, rfl, xb⟩ := HWB.out wr hO k hlt
        have c1 : wr.cell? ⟨b8, 1, none⟩ = some (.slice (some ⟨g8, 0, none⟩) (nw n) (nw n)) := hC.cell 1
        have a1 : wr.cell? ⟨w.heap.size, 1, none⟩ = some (.slice (some ⟨ga, 0, none⟩) (nw n) ca) := hA.cell 1
        have b1 : wr.cell? ⟨w.heap.size + 1, 1, none⟩ = some (.slice (some ⟨gb, 0, none⟩) (nw n) cb) := hB.cell 1
        have d0 : wr.drew.cell? ⟨g8, k, none⟩ = _ := hR.cell hlt
        have df : wr.drew.frozen? ⟨g8, k, none⟩ = false := hR.frozen k
        have HX := Lib.hid (show bits .and .u64 (wd f k : Int) (wd g k : Int) = (wd (fun i => f i && g i) k : Int) by rw [u64_and _ _ (wd_lt f k) (wd_lt g k), wd_and])
        have HR := Lib.hid hR
        clear hR
        generalize wd f k = x at *
        generalize wd g k = y at *
        go_wp2_with fail
        go_still_tail 16, (by kernel_rfl)
        still_call (and_any _ _ _)
        repeat still_step
        refine wpStill_nil ?_
        change wpList _ _ _ _ _ wr.drew
        rw [HX.out]
        have R5 := HR.out.drew
        have C5 := hC.drew
        have A5 := hA.drew
        have B5 := hB.drew
        have D5 := hD.drew
        have O5 := hO.drew
        have HR5 := Lib.hid R5
        clear R5 HR hC hA hB hD hO c1 a1 b1
        generalize wr.drew = w5 at *
        go_wp2_with fail
        go_roundw
        case rel =>
          refine ⟨k + 1, by omega, by go_num, (HR5.out.set k _).congr (fun j hj => ?_), C5.far (p := ⟨g8, k, none⟩) (by show b8 ≠ g8; exact hbg) _, A5.far (p := ⟨g8, k, none⟩) (by show w.heap.size ≠ g8; omega) _, B5.far (p := ⟨g8, k, none⟩) (by show w.heap.size + 1 ≠ g8; omega) _, D5.far (p := ⟨g8, k, none⟩) (by show w.heap.size + 2 ≠ g8; omega) _, O5.setCell ⟨g8, k, none⟩ _ (fun q => absurd q (by show ¬ g8 < w.heap.size; omega))⟩
          by_cases hjk : j = k
          · subst hjk
            rw [if_pos rfl, if_pos (Nat.lt_succ_self _)]
            rfl
          · rw [if_neg hjk]
            by_cases hj2 : j < k
            · rw [if_pos hj2, if_pos (by omega)]
            · rw [if_neg hj2, if_neg (by omega)]
        case measure => simp only [intOf]; omega
      · have hki : ¬ ((nw n : Nat) : Int) < (nw n : Int) := by omega
        obtain ⟨c0, c1, _⟩ := hC.facts2
        obtain ⟨d0, d1, df⟩ := hD.facts2
        have HR := Lib.hid (hR.congr (g := wcell (fun i => f i && g i)) (fun i hi => by rw [if_pos hi]))
        clear hR
        go_wp2_with fail
        refine bodyPost_ret (v := .tuple #[.agg #[.int .i64 n, .slice (some ⟨g8, 0, none⟩) (nw n) (nw n)], .int .i64 0]) ?hr rfl ?hp
        case hr => exact res_zip (b := w.heap.size + 2) (Has.put2 hD rfl _ _) rfl rfl
        case hp => exact ⟨⟨_, rfl, .inr ⟨g8, by omega, rfl, (HR.out.setOther (a := ⟨w.heap.size + 2, 0, none⟩) (by show g8 ≠ w.heap.size + 2; omega) _).setOther (a := ⟨w.heap.size + 2, 1, none⟩) (by show g8 ≠ w.heap.size + 2; omega) _⟩⟩, hO.then_ (Only.put2 _ (w.heap.size + 2) (.int .i64 n) (.slice (some ⟨g8, 0, none⟩) (nw n) (nw n))) (fun i hi e => absurd hi (by have : i = w.heap.size + 2 := e; omega))⟩

def lf (l : List Bool) : Nat → Bool := fun i => l.getD i false
theorem lf_far {l : List Bool} {i : Nat} (h : l.length ≤ i) : lf l i = false := by
  unfold lf
  rw [List.getD_eq_getElem?_getD, List.getElem?_eq_none h]
  rfl
theorem lf_at {l : List Bool} {i : Nat} (h : i < l.length) : lf l i = l[i] := by
  unfold lf
  rw [List.getD_eq_getElem?_getD, List.getElem?_eq_getElem h]
  rfl
/-- A Vec that is a list of truths. -/
def VL (w : World) (base : Nat) (v : Value) (l : List Bool) : Prop := VecIs w base v l.length (lf l)
def xorL (l m : List Bool) : List Bool := List.zipWith (fun a b => a ^^ b) l m
def andL (l m : List Bool) : List Bool := List.zipWith (fun a b => a && b) l m
theorem lf_zip (op : Bool → Bool → Bool) (h0 : op false false = false) {l m : List Bool} (h : l.length = m.length) (i : Nat) : op (lf l i) (lf m i) = lf (List.zipWith op l m) i := by
  by_cases hi : i < l.length
  · rw [lf_at hi, lf_at (by omega), lf_at (by simp; omega)]
    simp
  · rw [lf_far (by omega), lf_far (by omega), lf_far (by simp; omega), h0]
theorem zip_len (op : Bool → Bool → Bool) {l m : List Bool} (h : l.length = m.length) : (List.zipWith op l m).length = l.length := by simp; omega
def zeroV : Value := .agg #[.int .i64 0, .slice none 0 0]
theorem VL.only {S : Nat → Prop} {a b : World} {base : Nat} {v : Value} {l : List Bool} (h : VL a base v l) (o : Only S a b) (hS : ∀ g, base ≤ g → g < a.heap.size → ¬ S g) : VL b base v l := VecIs.only h o hS
theorem VL.inner {a b : World} {base : Nat} {v : Value} {l : List Bool} (h : VL a base v l) (o : Only (fun _ => False) a b) : VL b base v l := VecIs.only h o (fun _ _ _ f => f)
theorem VL.mono {w : World} {base base' : Nat} {v : Value} {l : List Bool} (h : VL w base v l) (hb : base' ≤ base) : VL w base' v l := VecIs.mono h hb
theorem VL.zero (w : World) (base : Nat) : VL w base zeroV [] := .inl ⟨rfl, rfl⟩
theorem VL.shape {w : World} {base : Nat} {v : Value} {l : List Bool} (h : VL w base v l) : ∃ A m c, v = .agg #[.int .i64 l.length, .slice A m c] := VecIs.shape h

set_option maxRecDepth 100000 in
set_option maxHeartbeats 1000000 in
theorem zip_ne (w : World) (fv : Value) (n m : Nat) (A B : Option Addr) (ka ca kb cb : Nat) (h : n ≠ m) : Calls Tryd.prog 34 #[.agg #[.int .i64 n, .slice A ka ca], .agg #[.int .i64 m, .slice B kb cb], fv] w fun x w' => x = .returned (.tuple #[zeroV, .int .i64 11]) ∧ Only (fun _ => False) w w' := by
  have hne : ((n : Int) != (m : Int)) = true := by
    have : (n : Int) ≠ (m : Int) := by omega
    simpa using this
  have hne2 : (n != m) = true := by simpa using h
  clear h
  unfold zeroV
  go_enter Tryd.func34, Tryd.ntmps34
  go_wp2_with fail
  refine bodyPost_ret (v := .tuple #[.agg #[.int .i64 0, .slice none 0 0], .int .i64 11]) ?hr rfl ?hp
  case hr => exact res_zip (b := w.heap.size + 2) (has_new3 _ _ _ _ _) rfl rfl
  case hp => exact ⟨rfl, (((Only.refl _ _).alloc _).alloc _).alloc _⟩
def ZipPost (l m r : List Bool) (B : Nat) (e : Ending) (W : World) : Prop :=
  if l.length = m.length then ∃ v, e = .returned (.tuple #[v, .int .i64 0]) ∧ VL W B v r else e = .returned (.tuple #[zeroV, .int .i64 11])
theorem ZipPost.eq {l m r : List Bool} {B : Nat} {e : Ending} {W : World} (h : l.length = m.length) (k : ∃ v, e = .returned (.tuple #[v, .int .i64 0]) ∧ VL W B v r) : ZipPost l m r B e W := by unfold ZipPost; rw [if_pos h]; exact k
theorem ZipPost.ne {l m r : List Bool} {B : Nat} {e : Ending} {W : World} (h : ¬ l.length = m.length) (k : e = .returned (.tuple #[zeroV, .int .i64 11])) : ZipPost l m r B e W := by unfold ZipPost; rw [if_neg h]; exact k
theorem VecIs.put2' {W : World} {base n b : Nat} {v : Value} {f : Nat → Bool} (h : VecIs W base v n f) (hb : b < base) (x0 x1 : Value) : VecIs ((W.setCell ⟨b, 0, none⟩ x0).setCell ⟨b, 1, none⟩ x1) base v n f := by
  rcases h with h | ⟨g, h1, h2, h3⟩
  · exact .inl h
  · exact .inr ⟨g, h1, h2, (h3.setOther (a := ⟨b, 0, none⟩) (by show g ≠ b; omega) _).setOther (a := ⟨b, 1, none⟩) (by show g ≠ b; omega) _⟩
theorem res_xor {W : World} {b : Nat} {x0 x1 v : Value} {tm : Array Value} (h : Has W b 30 #[x0, x1]) (h8 : tm.getD 4 undef = .pointer (some ⟨b, 0, none⟩)) (h9 : tm.getD 5 undef = v) :
    (results Tryd.f26 tm).run Tryd.prog W = .ok (.tuple #[.agg #[x0, x1], v]) W := by
  obtain ⟨c0, c1, _⟩ := h.facts2
  simp only [Array.getD_eq_getD_getElem?] at h8 h9
  simp [results, Tryd.results26, go_sem, h8, h9, c0, c1]
set_option maxRecDepth 100000 in
set_option maxHeartbeats 2000000 in
theorem bxor_any (w : World) (base base' : Nat) (a b : Value) (l m : List Bool) (ha : VL w base a l) (hb : VL w base' b m) (hl : l.length ≤ 4194304) : Calls Tryd.prog 26 #[a, b] w fun x w' => ZipPost l m (xorL l m) w.heap.size x w' ∧ Only (fun _ => False) w w' := by
  obtain ⟨A, ka, ca, rfl⟩ := ha.shape
  obtain ⟨B, kb, cb, rfl⟩ := hb.shape
  have HZ : ∀ W, Only (fun _ => False) w W → Calls Tryd.prog 34 #[.agg #[.int .i64 l.length, .slice A ka ca], .agg #[.int .i64 m.length, .slice B kb cb], .func (.func 35) #[] #[]] W fun x w' => ∃ (n k : Nat) (C : Option Addr) (cc : Nat) (e : Int), x = .returned (.tuple #[.agg #[.int .i64 n, .slice C k cc], .int .i64 e]) ∧ ZipPost l m (xorL l m) W.heap.size x w' ∧ Only (fun _ => False) W w' := by
    intro W o
    by_cases h : l.length = m.length
    · have hbe : (Value.agg #[.int .i64 (m.length : Int), .slice B kb cb]) = .agg #[.int .i64 (l.length : Int), .slice B kb cb] := by rw [h]
      rw [hbe]
      have hb' : VecIs W base' (.agg #[.int .i64 l.length, .slice B kb cb]) l.length (lf m) := by rw [h]; exact hb.inner o
      have hz := zip_xor W base base' l.length _ _ (lf l) (lf m) (ha.inner o) hb' hl
      refine hz.mono ?_
      rintro x w' ⟨⟨v, rfl, hv⟩, o2⟩
      have hv2 : VL w' W.heap.size v (xorL l m) := by
        unfold VL xorL
        rw [zip_len _ h]
        exact hv.congr (fun i _ => lf_zip _ rfl h i)
      obtain ⟨C, k, cc, rfl⟩ := hv.shape
      exact ⟨_, _, _, _, _, rfl, ZipPost.eq h ⟨_, rfl, hv2⟩, o2⟩
    · refine (zip_ne W _ l.length m.length A B ka ca kb cb h).mono ?_
      rintro x w' ⟨rfl, o2⟩
      exact ⟨0, 0, none, 0, 11, rfl, ZipPost.ne h rfl, o2⟩
  have hz := HZ (((w.alloc (.cells #[.int .i64 l.length, .slice A ka ca] 30)).alloc (.cells #[.int .i64 m.length, .slice B kb cb] 30)).alloc (.cells #[.int .i64 0, .slice none 0 0] 30)) ((((Only.refl _ _).alloc _).alloc _).alloc _)
  have HZZ := Lib.hid hz
  have HS : Hid ((((w.alloc (.cells #[.int .i64 l.length, .slice A ka ca] 30)).alloc (.cells #[.int .i64 m.length, .slice B kb cb] 30)).alloc (.cells #[.int .i64 0, .slice none 0 0] 30)).heap.size = w.heap.size + 3) := Lib.hid (by simp)
  clear ha hb HZ hz
  go_enter Tryd.func26, Tryd.ntmps26
  go_wp2_with fail
  refine (HZZ.out).mono ?_; rintro x w1 ⟨n, k, C, cc, e, rfl, hP, o1⟩
  rw [HS.out] at hP
  have HPP := Lib.hid hP
  have D1 := o1.has (has_new3 w (.cells #[.int .i64 l.length, .slice A ka ca] 30) (.cells #[.int .i64 m.length, .slice B kb cb] 30) 30 #[.int .i64 0, .slice none 0 0]) (fun f => f)
  have O1 := ((((Only.refl (fun _ => False) w).alloc _).alloc _).alloc _).trans o1
  obtain ⟨d0, d1, df⟩ := D1.facts2
  clear hP o1
  go_wp2_with fail
  refine bodyPost_ret (v := .tuple #[.agg #[.int .i64 n, .slice C k cc], .int .i64 e]) ?hr rfl ?hp
  case hr => exact res_xor (b := w.heap.size + 2) (Has.put2 D1 rfl _ _) rfl rfl
  case hp =>
    refine ⟨?_, O1.then_ (Only.put2 _ (w.heap.size + 2) (.int .i64 n) (.slice C k cc)) (fun i hi e => absurd hi (by have : i = w.heap.size + 2 := e; omega))⟩
    have h := HPP.out
    unfold ZipPost at h ⊢
    by_cases hlm : l.length = m.length
    · rw [if_pos hlm] at h ⊢
      obtain ⟨v, hv1, hv2⟩ := h
      exact ⟨v, hv1, (VecIs.put2' hv2 (show w.heap.size + 2 < w.heap.size + 3 by omega) _ _).mono (by omega)⟩
    · rw [if_neg hlm] at h ⊢
      exact h
theorem res_and {W : World} {b : Nat} {x0 x1 v : Value} {tm : Array Value} (h : Has W b 30 #[x0, x1]) (h8 : tm.getD 4 undef = .pointer (some ⟨b, 0, none⟩)) (h9 : tm.getD 5 undef = v) :
    (results Tryd.f27 tm).run Tryd.prog W = .ok (.tuple #[.agg #[x0, x1], v]) W := by
  obtain ⟨c0, c1, _⟩ := h.facts2
  simp only [Array.getD_eq_getD_getElem?] at h8 h9
  simp [results, Tryd.results27, go_sem, h8, h9, c0, c1]
set_option maxRecDepth 100000 in
set_option maxHeartbeats 2000000 in
theorem band_any (w : World) (base base' : Nat) (a b : Value) (l m : List Bool) (ha : VL w base a l) (hb : VL w base' b m) (hl : l.length ≤ 4194304) : Calls Tryd.prog 27 #[a, b] w fun x w' => ZipPost l m (andL l m) w.heap.size x w' ∧ Only (fun _ => False) w w' := by
  obtain ⟨A, ka, ca, rfl⟩ := ha.shape
  obtain ⟨B, kb, cb, rfl⟩ := hb.shape
  have HZ : ∀ W, Only (fun _ => False) w W → Calls Tryd.prog 34 #[.agg #[.int .i64 l.length, .slice A ka ca], .agg #[.int .i64 m.length, .slice B kb cb], .func (.func 36) #[] #[]] W fun x w' => ∃ (n k : Nat) (C : Option Addr) (cc : Nat) (e : Int), x = .returned (.tuple #[.agg #[.int .i64 n, .slice C k cc], .int .i64 e]) ∧ ZipPost l m (andL l m) W.heap.size x w' ∧ Only (fun _ => False) W w' := by
    intro W o
    by_cases h : l.length = m.length
    · have hbe : (Value.agg #[.int .i64 (m.length : Int), .slice B kb cb]) = .agg #[.int .i64 (l.length : Int), .slice B kb cb] := by rw [h]
      rw [hbe]
      have hb' : VecIs W base' (.agg #[.int .i64 l.length, .slice B kb cb]) l.length (lf m) := by rw [h]; exact hb.inner o
      have hz := zip_and W base base' l.length _ _ (lf l) (lf m) (ha.inner o) hb' hl
      refine hz.mono ?_
      rintro x w' ⟨⟨v, rfl, hv⟩, o2⟩
      have hv2 : VL w' W.heap.size v (andL l m) := by
        unfold VL andL
        rw [zip_len _ h]
        exact hv.congr (fun i _ => lf_zip _ rfl h i)
      obtain ⟨C, k, cc, rfl⟩ := hv.shape
      exact ⟨_, _, _, _, _, rfl, ZipPost.eq h ⟨_, rfl, hv2⟩, o2⟩
    · refine (zip_ne W _ l.length m.length A B ka ca kb cb h).mono ?_
      rintro x w' ⟨rfl, o2⟩
      exact ⟨0, 0, none, 0, 11, rfl, ZipPost.ne h rfl, o2⟩
  have hz := HZ (((w.alloc (.cells #[.int .i64 l.length, .slice A ka ca] 30)).alloc (.cells #[.int .i64 m.length, .slice B kb cb] 30)).alloc (.cells #[.int .i64 0, .slice none 0 0] 30)) ((((Only.refl _ _).alloc _).alloc _).alloc _)
  have HZZ := Lib.hid hz
  have HS : Hid ((((w.alloc (.cells #[.int .i64 l.length, .slice A ka ca] 30)).alloc (.cells #[.int .i64 m.length, .slice B kb cb] 30)).alloc (.cells #[.int .i64 0, .slice none 0 0] 30)).heap.size = w.heap.size + 3) := Lib.hid (by simp)
  clear ha hb HZ hz
  go_enter Tryd.func27, Tryd.ntmps27
  go_wp2_with fail
  refine (HZZ.out).mono ?_; rintro x w1 ⟨n, k, C, cc, e, rfl, hP, o1⟩
  rw [HS.out] at hP
  have HPP := Lib.hid hP
  have D1 := o1.has (has_new3 w (.cells #[.int .i64 l.length, .slice A ka ca] 30) (.cells #[.int .i64 m.length, .slice B kb cb] 30) 30 #[.int .i64 0, .slice none 0 0]) (fun f => f)
  have O1 := ((((Only.refl (fun _ => False) w).alloc _).alloc _).alloc _).trans o1
  obtain ⟨d0, d1, df⟩ := D1.facts2
  clear hP o1
  go_wp2_with fail
  refine bodyPost_ret (v := .tuple #[.agg #[.int .i64 n, .slice C k cc], .int .i64 e]) ?hr rfl ?hp
  case hr => exact res_and (b := w.heap.size + 2) (Has.put2 D1 rfl _ _) rfl rfl
  case hp =>
    refine ⟨?_, O1.then_ (Only.put2 _ (w.heap.size + 2) (.int .i64 n) (.slice C k cc)) (fun i hi e => absurd hi (by have : i = w.heap.size + 2 := e; omega))⟩
    have h := HPP.out
    unfold ZipPost at h ⊢
    by_cases hlm : l.length = m.length
    · rw [if_pos hlm] at h ⊢
      obtain ⟨v, hv1, hv2⟩ := h
      exact ⟨v, hv1, (VecIs.put2' hv2 (show w.heap.size + 2 < w.heap.size + 3 by omega) _ _).mono (by omega)⟩
    · rw [if_neg hlm] at h ⊢
      exact h

theorem Tryd.info_bb : (Tryd.prog.info? 4).map (fun i => (i.zero, i.size, i.bytes)) = some (some (.bool false), 1, 1) := by kernel_rfl
theorem res_of {W : World} {b : Nat} {x0 x1 v : Value} {tm : Array Value} (h : Has W b 30 #[x0, x1]) (h8 : tm.getD 2 undef = .pointer (some ⟨b, 0, none⟩)) (h9 : tm.getD 3 undef = v) :
    (results Tryd.f20 tm).run Tryd.prog W = .ok (.tuple #[.agg #[x0, x1], v]) W := by
  obtain ⟨c0, c1, _⟩ := h.facts2
  simp only [Array.getD_eq_getD_getElem?] at h8 h9
  simp [results, Tryd.results20, go_sem, h8, h9, c0, c1]
theorem pow_wrap (r : Nat) (h : r < 64) : IntKind.u64.wrap ((2 : Int) ^ r) = ((2 ^ r : Nat) : Int) := by
  have h1 : 2 ^ r < 2 ^ 64 := Nat.pow_lt_pow_right (by decide) h
  have h2 : ((2 : Int) ^ r) = ((2 ^ r : Nat) : Int) := by simp
  rw [h2]
  generalize 2 ^ r = y at *
  exact wraps_u64 _ (by omega) (by omega)
set_option maxRecDepth 100000 in
set_option maxHeartbeats 4000000 in
theorem bof_any (w : World) (a : Value) (l : List Bool) (ha : Reads w a (bcellsB l)) (hl : l.length ≤ 4194304) : Calls Tryd.prog 20 #[a] w fun x w' => (∃ v, x = .returned (.tuple #[v, .int .i64 0]) ∧ VL w' w.heap.size v l) ∧ Only (fun _ => False) w w' := by
  have HN := Lib.hid (fun W => bnew_any W l.length hl)
  obtain ⟨A, ca, rfl, ha'⟩ := ha.shape
  rw [bcellsB_length] at *
  have HA := Lib.hid ha
  have HA' := Lib.hid ha'
  have HG : ∀ k, k < l.length → (bcellsB l)[k]? = some (.bool (lf l k)) := fun k hk => by simp [bcellsB, lf, List.getD_eq_getElem?_getD, List.getElem?_eq_getElem hk]
  have HG := Lib.hid HG
  have HNW := Lib.hid (show ∀ i, i < l.length → i / 64 < nw l.length from fun i hi => nw_lt hi)
  have HWS := Lib.hid (fun i (h : lf l i = true) => wd_set (lf l) i h)
  have HWK := Lib.hid (fun i k (h : lf l i = false ∨ k ≠ i / 64) => wd_skip (lf l) i k h)
  have HUP := Lib.hid (show ∀ i, upTo (lf l) l.length i = lf l i from fun i => by
    unfold upTo
    by_cases h : i < l.length
    · simp [h]
    · simp [h, lf_far (show l.length ≤ i by omega)])
  have HVL := Lib.hid (show ∀ W B v, VecIs W B v l.length (lf l) → VL W B v l from fun W B v h => h)
  clear ha ha'
  generalize l.length = n at *
  generalize lf l = f at *
  go_enter Tryd.func20, Tryd.ntmps20
  go_wp2_with fail
  refine (HN.out _).mono ?_; rintro e w1 ⟨⟨g, rfl, hg, hrow⟩, o1⟩
  have B1 : Has w1 w.heap.size 30 #[.int .i64 0, .slice none 0 0] := o1.has (Has.new _ _ _) (fun f => f)
  have hg : w.heap.size + 1 ≤ g := by simpa using hg
  have O1 : Only (fun _ => False) w w1 := ((Only.refl _ _).alloc _).trans o1
  have hgl := hrow.lt
  have hsz1 := O1.size
  have R2 := hrow.alloc (.cells #[.int .i64 n, .slice (some ⟨g, 0, none⟩) (nw n) (nw n)] 30)
  have B2 := B1.alloc (.cells #[.int .i64 n, .slice (some ⟨g, 0, none⟩) (nw n) (nw n)] 30)
  have C2 := Has.new w1 30 #[.int .i64 n, .slice (some ⟨g, 0, none⟩) (nw n) (nw n)]
  have O2 := O1.alloc (.cells #[.int .i64 n, .slice (some ⟨g, 0, none⟩) (nw n) (nw n)] 30)
  have hne : w1.heap.size ≠ g := by omega
  clear hrow o1 B1 O1
  go_wp2_with fail
  go_loopw [6, 7, 20] (fun _ _ i W => ∃ k : Nat, k ≤ n ∧ i = .int .i64 k ∧ W.rowIs g 52 (nw n) (wcell (upTo f k)) ∧ Has W w.heap.size 30 #[.int .i64 0, .slice none 0 0] ∧ Has W w1.heap.size 30 #[.int .i64 n, .slice (some ⟨g, 0, none⟩) (nw n) (nw n)] ∧ Only (fun _ => False) w W) (fun _ _ i _ => n - (intOf i).toNat)
  case atStart => exact ⟨0, by omega, rfl, R2.congr (fun k hk => by unfold wcell; rw [wd_zero (fun j hj => by simp [upTo])]; rfl), B2, C2, O2⟩
  case round =>
    obtain ⟨k, hk, rfl, hrow, hB, hC, hO⟩ := hrel
    have hk' : k < n ∨ k = n := by omega
    rcases hk' with hlt | rfl
    · have hlt' : (k : Int) < (n : Int) := by omega
      obtain ⟨g0, rfl, _⟩ := HA'.out k _ (HG.out k hlt)
      have xa := (HA.out.inner hO).at (HG.out k hlt)
      have hkw := HNW.out k hlt
      by_cases hb : f k = true
      · have HW := HWS.out k hb
        have cg := hrow.cell hkw
        have fg := hrow.frozen (k / 64)
        simp only [wcell] at cg
        have c1 : wr.cell? ⟨w1.heap.size, 1, none⟩ = some (.slice (some ⟨g, 0, none⟩) (nw n) (nw n)) := hC.cell 1
        have hd : (k : Int) / 64 = ((k / 64 : Nat) : Int) := by omega
        have hm : (k : Int) % 64 = ((k % 64 : Nat) : Int) := by omega
        have hm8 : k % 64 < 64 := Nat.mod_lt _ (by decide)
        have hor := u64_or (wd (upTo f k) (k / 64)) (2 ^ (k % 64)) (wd_lt _ _) (Nat.pow_lt_pow_right (by decide) hm8)
        rw [HW, ← pow_wrap (k % 64) hm8] at hor
        rw [hb] at xa
        generalize hdg : k / 64 = d at *
        generalize k % 64 = m at *
        generalize hX : wd (upTo f k) d = X at *
        generalize hY : wd (upTo f (k + 1)) d = Y at *
        have hdw : (d : Int) < (nw n : Int) := by omega
        have HY := Lib.hid hY
        have HDG := Lib.hid hdg
        have HR := Lib.hid hrow
        clear hX hY hdg hrow hb HW
        go_wp2_with fail
        go_roundw
        case rel =>
          refine ⟨k + 1, by omega, by go_num, (HR.out.set d (.int .u64 (Y : Int))).congr (fun j hj => ?_), hB.far (p := ⟨g, d, none⟩) (by show w.heap.size ≠ g; omega) _, hC.far (p := ⟨g, d, none⟩) hne _, hO.setCell ⟨g, d, none⟩ _ (fun q => absurd q (by show ¬ g < w.heap.size; omega))⟩
          by_cases hjd : j = d
          · subst hjd
            rw [if_pos rfl]
            unfold wcell
            rw [HY.out]
          · rw [if_neg hjd]
            unfold wcell
            rw [HWK.out k j (.inr (by rw [HDG.out]; exact hjd))]
        case measure => simp only [intOf]; omega
      · have hb : f k = false := by simpa using hb
        rw [hb] at xa
        have HR := Lib.hid (hrow.congr (g := wcell (upTo f (k + 1))) (fun j hj => by unfold wcell; rw [HWK.out k j (.inl hb)]))
        clear hrow hb
        go_wp2_with fail
        go_roundw
        case rel => exact ⟨k + 1, by omega, by go_num, HR.out, hB, hC, hO⟩
        case measure => simp only [intOf]; omega
    · have hki : ¬ (k : Int) < (k : Int) := by omega
      obtain ⟨b0, b1, bf⟩ := hB.facts2
      obtain ⟨c0, c1, _⟩ := hC.facts2
      have HR := Lib.hid (hrow.congr (g := wcell f) (fun j hj => by unfold wcell; rw [wd_congr (fun i _ => HUP.out (64 * j + i))]))
      clear hrow
      go_wp2_with fail
      refine bodyPost_ret (v := .tuple #[.agg #[.int .i64 k, .slice (some ⟨g, 0, none⟩) (nw k) (nw k)], .int .i64 0]) ?hr rfl ?hp
      case hr => exact res_of (b := w.heap.size) (Has.put2 hB rfl _ _) rfl rfl
      case hp =>
        refine ⟨⟨_, rfl, HVL.out _ _ _ (.inr ⟨g, by omega, rfl, (HR.out.setOther (a := ⟨w.heap.size, 0, none⟩) (by show g ≠ w.heap.size; omega) _).setOther (a := ⟨w.heap.size, 1, none⟩) (by show g ≠ w.heap.size; omega) _⟩)⟩, ?_⟩
        exact hO.then_ (Only.put2 _ w.heap.size (.int .i64 k) (.slice (some ⟨g, 0, none⟩) (nw k) (nw k))) (fun i hi e => absurd hi (by have : i = w.heap.size := e; omega))

set_option maxRecDepth 100000 in
theorem ones_zero (w : World) : Calls Tryd.prog 29 #[.int .u64 0] w fun e w' => e = .returned (.int .i64 0) ∧ w = w' := by
  have h1 : ∀ c, bits .and .u64 0 c = 0 := fun c => by
    show IntKind.u64.wrap ((BitVec.ofInt 64 0 &&& BitVec.ofInt 64 c).toNat : Int) = 0
    rw [show BitVec.ofInt 64 0 = 0#64 from rfl, BitVec.zero_and]
    rfl
  have h2 : ∀ c, bits .and .i64 0 c = 0 := fun c => by
    show IntKind.i64.wrap ((BitVec.ofInt 64 0 &&& BitVec.ofInt 64 c).toNat : Int) = 0
    rw [show BitVec.ofInt 64 0 = 0#64 from rfl, BitVec.zero_and]
    rfl
  go_enter Tryd.func29, Tryd.ntmps29
  go_wp2_with fail
  go_ret
  exact ⟨rfl, rfl⟩
set_option maxRecDepth 100000 in
set_option maxHeartbeats 1000000 in
/-- Count, where no bit is 1. -/
theorem bcount_zero (w : World) (base : Nat) (v : Value) (l : List Bool) (h : VL w base v l) (hl : l.length ≤ 4194304) (hz : ∀ i, lf l i = false) : Calls Tryd.prog 14 #[v] w fun e w' => e = .returned (.int .i64 0) ∧ Only (fun _ => False) w w' := by
  obtain ⟨A, c, rfl, hw⟩ := VecIs.words h
  have hk : nw l.length ≤ 65536 := by unfold nw; omega
  have HW := Lib.hid (fun W (o : Only (fun _ => False) w W) k (hk : k < nw l.length) => (show ∃ g0, A = some ⟨g0, 0, none⟩ ∧ W.cell? ⟨g0, k, none⟩ = some (.int .u64 0) by
    obtain ⟨g0, e, c⟩ := hw k hk
    rw [wd_zero (fun j _ => hz _)] at c
    exact ⟨g0, e, o.cell c (fun f => f)⟩))
  have B0 : Has (w.alloc (.cells #[.int .i64 l.length, .slice A (nw l.length) c] 30)) w.heap.size 30 #[.int .i64 l.length, .slice A (nw l.length) c] := Has.new _ _ _
  have O0 : Only (fun _ => False) w (w.alloc (.cells #[.int .i64 l.length, .slice A (nw l.length) c] 30)) := (Only.refl _ _).alloc _
  clear hw h hz
  generalize nw l.length = n at *
  go_enter Tryd.func14, Tryd.ntmps14
  go_wp2_with fail
  go_loopw [3, 5, 9] (fun x _ i W => ∃ k : Nat, k ≤ n ∧ i = .int .i64 k ∧ x = .int .i64 0 ∧ Only (fun _ => False) w W) (fun _ _ i _ => n - (intOf i).toNat)
  case atStart => exact ⟨0, by omega, rfl, rfl, O0⟩
  case round =>
    obtain ⟨k, hkn, rfl, rfl, hO⟩ := hrel
    have hk' : k < n ∨ k = n := by omega
    rcases hk' with hlt | rfl
    · have hki : (k : Int) < (n : Int) := by omega
      obtain ⟨g0, rfl, x0⟩ := HW.out wr hO k hlt
      go_wp2_with fail
      refine (ones_zero _).mono ?_; rintro e w2 ⟨rfl, rfl⟩
      go_wp2_with fail
      go_roundw
      case rel => exact ⟨k + 1, by omega, by go_num, rfl, hO⟩
      case measure => simp only [intOf]; omega
    · have hki : ¬ (k : Int) < (k : Int) := by omega
      go_wp2_with fail
      go_ret
      exact ⟨rfl, hO⟩
theorem blen_any (w : World) (base : Nat) (v : Value) (l : List Bool) (h : VL w base v l) : Calls Tryd.prog 13 #[v] w fun e w' => e = .returned (.int .i64 l.length) ∧ Only (fun _ => False) w w' := by
  obtain ⟨A, m, c, rfl⟩ := h.shape
  clear h
  go_enter Tryd.func13, Tryd.ntmps13
  go_wp2_with fail
  go_ret
  exact ⟨rfl, (Only.refl _ _).alloc _⟩
end Go.Proofs.YthkgjhjfgoglhaaDoor
