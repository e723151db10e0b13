/- shape.fits, Fits. -/
import Derived.Test.YtbajgbjpaliecaaSz
import Derived.Deep.RegionHeld3
set_option linter.unusedSimpArgs false
set_option linter.unusedVariables false
namespace Go.Proofs.Ytbajgbjpaliecaa
open Go.RowKit

theorem cl_facts {w : World} {b : Nat} {kind bits m k n : Int} (h : Has w b 25 #[.int .i64 kind, .int .i64 bits, .int .i64 m, .int .i64 k, .int .i64 n]) : w.cell? ⟨b, 0, none⟩ = some (.int .i64 kind) ∧ w.cell? ⟨b, 1, none⟩ = some (.int .i64 bits) ∧ w.cell? ⟨b, 2, none⟩ = some (.int .i64 m) ∧ w.cell? ⟨b, 3, none⟩ = some (.int .i64 k) ∧ w.cell? ⟨b, 4, none⟩ = some (.int .i64 n) := ⟨h.cell 0, h.cell 1, h.cell 2, h.cell 3, h.cell 4⟩
abbrev CAt (w : World) (b : Nat) (kind bits m k n : Int) : Prop := Has w b 25 #[.int .i64 kind, .int .i64 bits, .int .i64 m, .int .i64 k, .int .i64 n]

/-- The value is a slice of these words. -/
def SlU (W : World) (v : Value) (l : List Int) : Prop := ∃ A c, v = .slice A l.length c ∧ ∀ i, (h : i < l.length) → ∃ ad, A = some ad ∧ W.cell? (ad.add i) = some (.int .u64 l[i])
theorem SlU.only {W W' : World} {v : Value} {l : List Int} (h : SlU W v l) (o : Only (fun _ => False) W W') : SlU W' v l := by
  obtain ⟨A, c, e, hc⟩ := h
  exact ⟨A, c, e, fun i hi => by obtain ⟨ad, ha, hx⟩ := hc i hi; exact ⟨ad, ha, o.cell hx (fun f => f)⟩⟩
def okW (d : Nat) (x : Int) : Bool := decide (d < 64 → x / 2 ^ d = 0)
def fitsB (n : Int) (d : Nat) (l : List Int) : Bool := decide ((l.length : Int) = n) && l.all (okW d)

set_option maxRecDepth 100000 in
set_option maxHeartbeats 2000000 in
theorem fits_any (w : World) (n : Int) (d : Nat) (v : Value) (l : List Int) (hv : SlU w v l) (hx : ∀ x ∈ l, 0 ≤ x ∧ x ≤ 18446744073709551615) (hd : d ≤ 64) (hl : l.length ≤ 9223372036854775807) :
    Calls Try.prog 61 #[.int .i64 n, .int .i64 d, v] w fun e w' => e = .returned (.bool (fitsB n d l)) ∧ w = w' := by
  obtain ⟨A, c, rfl, hA⟩ := hv
  by_cases hn : (l.length : Int) = n
  · have hR : fitsB n d l = l.all (okW d) := by unfold fitsB; rw [decide_eq_true hn, Bool.true_and]
    rw [hR]
    subst hn
    clear hR
    have HX := Lib.hid hx
    clear hx
    generalize hR : l.all (okW d) = R
    have HR := Lib.hid hR
    clear hR
    go_enter Try.func61, Try.ntmps61
    go_wp2_with fail
    go_loopw [15] (fun i W => ∃ k : Nat, k ≤ l.length ∧ i = .int .i64 k ∧ (∀ j, (h : j < l.length) → j < k → okW d l[j] = true) ∧ W = w) (fun i _ => l.length - (intOf i).toNat)
    case atStart => exact ⟨0, by omega, rfl, fun j h hj => by omega, rfl⟩
    case round =>
      obtain ⟨k, hk, rfl, hall, rfl⟩ := hrel
      have HALL := Lib.hid hall
      clear hall
      have hlt' : k < l.length ∨ k = l.length := by omega
      rcases hlt' with hlt | rfl
      · obtain ⟨ad, rfl, c0⟩ := hA k hlt
        have hx := HX.out l[k] (List.getElem_mem hlt)
        have hk1 : (k : Int) < (l.length : Int) := by omega
        have hbad : okW d l[k] = false → R = false := by
          intro h
          rw [← HR.out, List.all_eq_false]
          exact ⟨l[k], List.getElem_mem hlt, by rw [h]; decide⟩
        have hgood : okW d l[k] = true → ∀ j, (h : j < l.length) → j < k + 1 → okW d l[j] = true := by
          intro h j hj hjk
          by_cases e : j = k
          · subst e; exact h
          · exact HALL.out j hj (by omega)
        have HBAD := Lib.hid hbad
        have HGOOD := Lib.hid hgood
        clear hbad hgood
        generalize l[k] = x at *
        obtain ⟨hx0, hx1⟩ := hx
        have hw0 : IntKind.u64.wrap (d : Int) = d := by rw [IntKind.wrap_u64]; omega
        by_cases h64 : d < 64
        · have h64' : (d : Int) < 64 := by omega
          by_cases hq : x / 2 ^ d = 0
          · have HO := Lib.hid (show okW d x = true from decide_eq_true (fun _ => hq))
            go_wp2_with fail
            go_roundw
            case rel => exact ⟨k + 1, by omega, by go_num, HGOOD.out HO.out, trivial⟩
            case measure => simp only [intOf]; omega
          · have HO := Lib.hid (show okW d x = false from decide_eq_false (fun h => hq (h h64)))
            have hq' : (x / 2 ^ d == 0) = false := by simpa using hq
            clear hq
            go_wp2_with fail
            go_ret
            refine ⟨?_, rfl⟩
            rw [HBAD.out HO.out]
            rfl
        · have h64' : ¬ (d : Int) < 64 := by omega
          have HO := Lib.hid (show okW d x = true from decide_eq_true (fun h => absurd h h64))
          go_wp2_with fail
          go_roundw
          case rel => exact ⟨k + 1, by omega, by go_num, HGOOD.out HO.out, trivial⟩
          case measure => simp only [intOf]; omega
      · have ht : R = true := by
          rw [← HR.out, List.all_eq_true]
          intro x hx
          obtain ⟨j, hj, rfl⟩ := List.getElem_of_mem hx
          exact HALL.out j hj hj
        have HT := Lib.hid ht
        clear ht
        go_wp2_with fail
        go_ret
        refine ⟨?_, rfl⟩
        rw [HT.out]
        rfl
  · have hR : fitsB n d l = false := by unfold fitsB; rw [decide_eq_false hn, Bool.false_and]
    rw [hR]
    have hn' : ((l.length : Int) == n) = false := by simpa using hn
    clear hR hn hA
    go_enter Try.func61, Try.ntmps61
    go_wp2_with fail
    go_ret
    exact ⟨rfl, rfl⟩

/-- A share. -/
structure Sh where
  a : List Int
  b : List Int
  c : List Int
structure ShAt (w : World) (va vb vc : Value) (s : Sh) : Prop where
  a : SlU w va s.a
  b : SlU w vb s.b
  c : SlU w vc s.c
  xa : ∀ x ∈ s.a, 0 ≤ x ∧ x ≤ 18446744073709551615
  xb : ∀ x ∈ s.b, 0 ≤ x ∧ x ≤ 18446744073709551615
  xc : ∀ x ∈ s.c, 0 ≤ x ∧ x ≤ 18446744073709551615
  la : s.a.length ≤ 9223372036854775807
  lb : s.b.length ≤ 9223372036854775807
  lc : s.c.length ≤ 9223372036854775807
theorem ShAt.only {w w' : World} {va vb vc : Value} {s : Sh} (h : ShAt w va vb vc s) (o : Only (fun _ => False) w w') : ShAt w' va vb vc s := ⟨h.a.only o, h.b.only o, h.c.only o, h.xa, h.xb, h.xc, h.la, h.lb, h.lc⟩
def Cl.fits (c : Cl) (s : Sh) : Bool := if c.check = 0 then fitsB c.sizes.1 c.widths.1.toNat s.a && fitsB c.sizes.2.1 c.widths.2.1.toNat s.b && fitsB c.sizes.2.2 c.widths.2.2.toNat s.c else false
theorem widths_range {c : Cl} (h : c.check = 0) : (1 ≤ c.widths.1 ∧ c.widths.1 ≤ 64) ∧ (1 ≤ c.widths.2.1 ∧ c.widths.2.1 ≤ 64) ∧ (1 ≤ c.widths.2.2 ∧ c.widths.2.2 ≤ 64) := by
  obtain ⟨kind, bits, m, k, n⟩ := c
  rcases Cl.good h with ⟨rfl, hm, hk2, hn, hb⟩ | ⟨rfl | rfl, rfl, rfl, rfl, hb⟩ | ⟨rfl, rfl, rfl, rfl, rfl⟩
  all_goals
    simp only [Cl.widths, h]
    simp
    try omega

set_option maxRecDepth 100000 in
set_option maxHeartbeats 2000000 in
theorem sfits_any (w : World) (c : Cl) (va vb vc : Value) (s : Sh) (hs : ShAt w va vb vc s) : Calls Try.prog 38 #[.agg c.cells, .agg #[va, vb, vc]] w fun e w' => e = .returned (.bool (c.fits s)) ∧ Only (fun _ => False) w w' := by
  have HC := fun W => scheck_any W c
  by_cases hc : c.check = 0
  · have hR : c.fits s = (fitsB c.sizes.1 c.widths.1.toNat s.a && fitsB c.sizes.2.1 c.widths.2.1.toNat s.b && fitsB c.sizes.2.2 c.widths.2.2.toNat s.c) := by unfold Cl.fits; rw [if_pos hc]
    rw [hR]
    have hw := widths_range hc
    rw [hc] at HC
    have H1 := fun W => ssizes_any W c
    have H2 := fun W => swidths_any W c
    clear hR hc
    obtain ⟨⟨a1, a2⟩, ⟨b1, b2⟩, ⟨c1, c2⟩⟩ := hw
    have F1 : ∀ W, Only (fun _ => False) w W → Calls Try.prog 61 #[.int .i64 c.sizes.1, .int .i64 c.widths.1, va] W fun e w' => e = .returned (.bool (fitsB c.sizes.1 c.widths.1.toNat s.a)) ∧ W = w' := fun W o => by
      have := fits_any W c.sizes.1 c.widths.1.toNat va s.a (hs.a.only o) hs.xa (by omega) hs.la
      rwa [show ((c.widths.1.toNat : Nat) : Int) = c.widths.1 by omega] at this
    have F2 : ∀ W, Only (fun _ => False) w W → Calls Try.prog 61 #[.int .i64 c.sizes.2.1, .int .i64 c.widths.2.1, vb] W fun e w' => e = .returned (.bool (fitsB c.sizes.2.1 c.widths.2.1.toNat s.b)) ∧ W = w' := fun W o => by
      have := fits_any W c.sizes.2.1 c.widths.2.1.toNat vb s.b (hs.b.only o) hs.xb (by omega) hs.lb
      rwa [show ((c.widths.2.1.toNat : Nat) : Int) = c.widths.2.1 by omega] at this
    have F3 : ∀ W, Only (fun _ => False) w W → Calls Try.prog 61 #[.int .i64 c.sizes.2.2, .int .i64 c.widths.2.2, vc] W fun e w' => e = .returned (.bool (fitsB c.sizes.2.2 c.widths.2.2.toNat s.c)) ∧ W = w' := fun W o => by
      have := fits_any W c.sizes.2.2 c.widths.2.2.toNat vc s.c (hs.c.only o) hs.xc (by omega) hs.lc
      rwa [show ((c.widths.2.2.toNat : Nat) : Int) = c.widths.2.2 by omega] at this
    clear a1 a2 b1 b2 c1 c2 hs
    generalize fitsB c.sizes.1 c.widths.1.toNat s.a = r1 at *
    generalize fitsB c.sizes.2.1 c.widths.2.1.toNat s.b = r2 at *
    generalize fitsB c.sizes.2.2 c.widths.2.2.toNat s.c = r3 at *
    generalize c.sizes = S at *
    generalize c.widths = T at *
    obtain ⟨s0, s1, s2⟩ := S
    obtain ⟨t0, t1, t2⟩ := T
    obtain ⟨kind, bits, m, k, n⟩ := c
    simp only [Cl.cells] at *
    have HC := Lib.hid HC
    have H1 := Lib.hid H1
    have H2 := Lib.hid H2
    have F1 := Lib.hid F1
    have F2 := Lib.hid F2
    have F3 := Lib.hid F3
    cases r1 <;> cases r2 <;> cases r3
    all_goals
      go_enter Try.func38, Try.ntmps38
      go_wp2_with fail
      have O0 : Only (fun _ => False) w ((w.alloc (.cells #[.int .i64 kind, .int .i64 bits, .int .i64 m, .int .i64 k, .int .i64 n] 25)).alloc (.cells #[va, vb, vc] 51)) := ((Only.refl _ _).alloc _).alloc _
      have C0 : CAt ((w.alloc (.cells #[.int .i64 kind, .int .i64 bits, .int .i64 m, .int .i64 k, .int .i64 n] 25)).alloc (.cells #[va, vb, vc] 51)) w.heap.size kind bits m k n := (Has.new w _ _).alloc _
      have S0 := Has.new (w.alloc (.cells #[.int .i64 kind, .int .i64 bits, .int .i64 m, .int .i64 k, .int .i64 n] 25)) 51 #[va, vb, vc]
      rw [show (w.alloc (.cells #[.int .i64 kind, .int .i64 bits, .int .i64 m, .int .i64 k, .int .i64 n] 25)).heap.size = w.heap.size + 1 by simp] at S0
      refine (HC.out _).mono ?_; rintro e w1 ⟨rfl, o1⟩
      have C1 : CAt w1 w.heap.size kind bits m k n := o1.has C0 (fun f => f)
      have S1 := o1.has S0 (fun f => f)
      have O1 := O0.trans o1
      obtain ⟨f0, f1, f2, f3, f4⟩ := cl_facts C1
      go_wp2_with fail
      refine (H1.out _).mono ?_; rintro e w2 ⟨rfl, o2⟩
      have C2 : CAt w2 w.heap.size kind bits m k n := o2.has C1 (fun f => f)
      have S2 := o2.has S1 (fun f => f)
      have O2 := O1.trans o2
      clear f0 f1 f2 f3 f4
      obtain ⟨f0, f1, f2, f3, f4⟩ := cl_facts C2
      go_wp2_with fail
      refine (H2.out _).mono ?_; rintro e w3 ⟨rfl, o3⟩
      have S3 := o3.has S2 (fun f => f)
      have O3 := O2.trans o3
      have x0 : w3.cell? ⟨w.heap.size + 1, 0, none⟩ = some va := S3.cell 0
      have x1 : w3.cell? ⟨w.heap.size + 1, 1, none⟩ = some vb := S3.cell 1
      have x2 : w3.cell? ⟨w.heap.size + 1, 2, none⟩ = some vc := S3.cell 2
      clear f0 f1 f2 f3 f4
      have HO3 := Lib.hid O3
      go_wp2_with (first | (go_at_call_of 61 va; refine (F1.out _ HO3.out).mono ?_; rintro e w4 ⟨rfl, rfl⟩) | (go_at_call_of 61 vb; refine (F2.out _ HO3.out).mono ?_; rintro e w4 ⟨rfl, rfl⟩) | (go_at_call_of 61 vc; refine (F3.out _ HO3.out).mono ?_; rintro e w4 ⟨rfl, rfl⟩))
      go_ret
      exact ⟨rfl, HO3.out⟩
  · have hR : c.fits s = false := by unfold Cl.fits; rw [if_neg hc]
    rw [hR]
    have h1 : (c.check != 0) = true := by simpa using hc
    generalize c.check = x at *
    obtain ⟨kind, bits, m, k, n⟩ := c
    simp only [Cl.cells] at *
    have HC := Lib.hid HC
    clear hR hc hs
    go_enter Try.func38, Try.ntmps38
    go_wp2_with fail
    refine (HC.out _).mono ?_; rintro e w1 ⟨rfl, o1⟩
    go_wp2_with fail
    go_ret
    exact ⟨rfl, (((Only.refl _ _).alloc _).alloc _).trans o1⟩
end Go.Proofs.Ytbajgbjpaliecaa
