/- The reference's Fits. -/
import Derived.Test.YtbajgbjpaliecaaSf
import Derived.Test.YtbajgbjpaliecaaSzr
set_option linter.unusedSimpArgs false
set_option linter.unusedVariables false
namespace Go.Proofs.Ytbajgbjpaliecaa
open Go.RowKit

theorem half_pow (x : Int) (d : Nat) (hd : 1 ≤ d) : x / 2 / 2 ^ (d - 1) = x / 2 ^ d := by
  rw [Int.ediv_ediv_of_nonneg (by decide), ← Int.pow_succ', show d - 1 + 1 = d by omega]
theorem okW_half {x : Int} {d : Nat} (h0 : 0 ≤ x) (h1 : x ≤ 18446744073709551615) (hd : 1 ≤ d) (hd2 : d ≤ 64) : okW d x = decide (x / 2 / 2 ^ (d - 1) = 0) := by
  rw [half_pow x d hd]
  unfold okW
  by_cases h : d < 64
  · simp [h]
  · obtain rfl : d = 64 := by omega
    simp
    omega

/-- A part of the share: its slice, its words, how many there should be, of how many bits. -/
structure Part where
  v : Value
  l : List Int
  n : Int
  d : Nat
def Part.fits (p : Part) : Bool := fitsB p.n p.d p.l
structure Part.Ok (w : World) (p : Part) : Prop where
  sl : SlU w p.v p.l
  x : ∀ x ∈ p.l, 0 ≤ x ∧ x ≤ 18446744073709551615
  len : p.l.length ≤ 9223372036854775807
  d0 : 1 ≤ p.d
  d1 : p.d ≤ 64
abbrev I3 (w : World) (b : Nat) (x y z : Int) : Prop := Has w b 3 #[.int .i64 x, .int .i64 y, .int .i64 z]
theorem s3_facts {w : World} {b : Nat} {x y z : Value} (h : Has w b 51 #[x, y, z]) : w.cell? ⟨b, 0, none⟩ = some x ∧ w.cell? ⟨b, 1, none⟩ = some y ∧ w.cell? ⟨b, 2, none⟩ = some z := ⟨h.cell 0, h.cell 1, h.cell 2⟩

set_option maxRecDepth 100000 in
set_option maxHeartbeats 4000000 in
theorem rfits_any (w : World) (c : Cl) (va vb vc : Value) (s : Sh) (hs : ShAt w va vb vc s) : Calls Try.prog 26 #[.agg c.cells, .agg #[va, vb, vc]] w fun e w' => e = .returned (.bool (c.fits s)) ∧ Only (fun _ => False) w w' := by
  have HC := fun W => srcheck_any W c
  by_cases hc : c.check = 0
  · have hR : c.fits s = (fitsB c.sizes.1 c.widths.1.toNat s.a && fitsB c.sizes.2.1 c.widths.2.1.toNat s.b && fitsB c.sizes.2.2 c.widths.2.2.toNat s.c) := by unfold Cl.fits; rw [if_pos hc]
    rw [hR]
    have hw := widths_range hc
    rw [hc] at HC
    have H1 := fun W => rsizes_any W c
    have H2 := fun W => rwidths_any W c
    clear hR hc
    obtain ⟨⟨a1, a2⟩, ⟨b1, b2⟩, ⟨c1, c2⟩⟩ := hw
    have p1 : Part.Ok w ⟨va, s.a, c.sizes.1, c.widths.1.toNat⟩ := ⟨hs.a, hs.xa, hs.la, by show 1 ≤ c.widths.1.toNat; omega, by show c.widths.1.toNat ≤ 64; omega⟩
    have p2 : Part.Ok w ⟨vb, s.b, c.sizes.2.1, c.widths.2.1.toNat⟩ := ⟨hs.b, hs.xb, hs.lb, by show 1 ≤ c.widths.2.1.toNat; omega, by show c.widths.2.1.toNat ≤ 64; omega⟩
    have p3 : Part.Ok w ⟨vc, s.c, c.sizes.2.2, c.widths.2.2.toNat⟩ := ⟨hs.c, hs.xc, hs.lc, by show 1 ≤ c.widths.2.2.toNat; omega, by show c.widths.2.2.toNat ≤ 64; omega⟩
    have e1 : ((c.widths.1.toNat : Nat) : Int) = c.widths.1 := by omega
    have e2 : ((c.widths.2.1.toNat : Nat) : Int) = c.widths.2.1 := by omega
    have e3 : ((c.widths.2.2.toNat : Nat) : Int) = c.widths.2.2 := by omega
    rw [← e1, ← e2, ← e3] at H2
    obtain ⟨Aa, na, ca, ea⟩ : ∃ A n c, va = .slice A n c := by obtain ⟨A, c, e, _⟩ := hs.a; exact ⟨A, _, c, e⟩
    obtain ⟨Ab, nb, cb, eb⟩ : ∃ A n c, vb = .slice A n c := by obtain ⟨A, c, e, _⟩ := hs.b; exact ⟨A, _, c, e⟩
    obtain ⟨Ac, nc, cc, ec⟩ : ∃ A n c, vc = .slice A n c := by obtain ⟨A, c, e, _⟩ := hs.c; exact ⟨A, _, c, e⟩
    clear a1 a2 b1 b2 c1 c2 hs e1 e2 e3
    subst ea eb ec
    generalize c.sizes.1 = s0 at *
    generalize c.sizes.2.1 = s1 at *
    generalize c.sizes.2.2 = s2 at *
    generalize c.widths.1.toNat = t0 at *
    generalize c.widths.2.1.toNat = t1 at *
    generalize c.widths.2.2.toNat = t2 at *
    obtain ⟨la, lb, lc⟩ := s
    simp only at *
    have PK : ∀ k, k < 3 → ∃ p : Part, Part.Ok w p ∧ #[.slice Aa na ca, .slice Ab nb cb, .slice Ac nc cc][k]? = some p.v ∧ #[Value.int .i64 s0, .int .i64 s1, .int .i64 s2][k]? = some (.int .i64 p.n) ∧ #[Value.int .i64 (t0 : Int), .int .i64 t1, .int .i64 t2][k]? = some (.int .i64 p.d) ∧ [fitsB s0 t0 la, fitsB s1 t1 lb, fitsB s2 t2 lc][k]? = some p.fits := by
      intro k hk
      have hk : k = 0 ∨ k = 1 ∨ k = 2 := by omega
      rcases hk with rfl | rfl | rfl
      · exact ⟨_, p1, rfl, rfl, rfl, rfl⟩
      · exact ⟨_, p2, rfl, rfl, rfl, rfl⟩
      · exact ⟨_, p3, rfl, rfl, rfl, rfl⟩
    clear p1 p2 p3
    have hRS : (fitsB s0 t0 la && fitsB s1 t1 lb && fitsB s2 t2 lc) = [fitsB s0 t0 la, fitsB s1 t1 lb, fitsB s2 t2 lc].all id := by simp [Bool.and_assoc]
    rw [hRS]
    clear hRS
    have hrl : [fitsB s0 t0 la, fitsB s1 t1 lb, fitsB s2 t2 lc].length = 3 := rfl
    generalize [fitsB s0 t0 la, fitsB s1 t1 lb, fitsB s2 t2 lc] = rs at *
    generalize hR : rs.all id = R
    have HR := Lib.hid hR
    have HRL := Lib.hid hrl
    replace PK := Lib.hid PK
    clear hR hrl
    obtain ⟨kind, bits, m, k, n⟩ := c
    simp only [Cl.cells] at *
    replace HC := Lib.hid HC
    replace H1 := Lib.hid H1
    replace H2 := Lib.hid H2
    go_enter Try.func26, Try.ntmps26
    go_wp2_with fail
    have O0 : Only (fun _ => False) w ((w.alloc (.cells #[.int .i64 kind, .int .i64 bits, .int .i64 m, .int .i64 k, .int .i64 n] 25)).alloc (.cells #[.slice Aa na ca, .slice Ab nb cb, .slice Ac nc cc] 51)) := ((Only.refl _ _).alloc _).alloc _
    have C0 : CAt ((w.alloc (.cells #[.int .i64 kind, .int .i64 bits, .int .i64 m, .int .i64 k, .int .i64 n] 25)).alloc (.cells #[.slice Aa na ca, .slice Ab nb cb, .slice Ac nc cc] 51)) w.heap.size kind bits m k n := (Has.new w _ _).alloc _
    have S0 := Has.new (w.alloc (.cells #[.int .i64 kind, .int .i64 bits, .int .i64 m, .int .i64 k, .int .i64 n] 25)) 51 #[.slice Aa na ca, .slice Ab nb cb, .slice Ac nc cc]
    rw [show (w.alloc (.cells #[.int .i64 kind, .int .i64 bits, .int .i64 m, .int .i64 k, .int .i64 n] 25)).heap.size = w.heap.size + 1 by simp] at S0
    refine (HC.out _).mono ?_; rintro e w1 ⟨rfl, o1⟩
    have C1 : CAt w1.drew w.heap.size kind bits m k n := (o1.has C0 (fun f => f)).drew
    have S1 : Has w1.drew (w.heap.size + 1) 51 #[.slice Aa na ca, .slice Ab nb cb, .slice Ac nc cc] := (o1.has S0 (fun f => f)).drew
    have O1 : Only (fun _ => False) w w1.drew := (O0.trans o1).drew
    clear C0 S0 O0
    go_wp2_with fail
    go_region_held3 (fun W => (W.cell? ⟨w.heap.size, 0, none⟩ = some (.int .i64 kind) ∧ W.cell? ⟨w.heap.size, 1, none⟩ = some (.int .i64 bits) ∧ W.cell? ⟨w.heap.size, 2, none⟩ = some (.int .i64 m) ∧ W.cell? ⟨w.heap.size, 3, none⟩ = some (.int .i64 k) ∧ W.cell? ⟨w.heap.size, 4, none⟩ = some (.int .i64 n)) ∧ Has W (w.heap.size + 1) 51 #[.slice Aa na ca, .slice Ab nb cb, .slice Ac nc cc] ∧ Only (fun _ => False) w W) (exact ⟨cl_facts (by assumption), by assumption, by assumption⟩) (first
      | (go_at_call 41; refine (H1.out _).mono ?_; rintro e w5 ⟨g5, rfl, hg5, o5⟩; have C5 : CAt w5 w.heap.size kind bits m k n := Only.has o5 (by assumption) (fun f => f); have S5 : Has w5 (w.heap.size + 1) 51 #[.slice Aa na ca, .slice Ab nb cb, .slice Ac nc cc] := Only.has o5 (by assumption) (fun f => f); have O5 : Only (fun _ => False) w w5 := Only.trans (by assumption) o5)
      | (go_at_call 42; refine (H2.out _).mono ?_; rintro e w6 ⟨g6, rfl, hg6, o6⟩; have C6 : CAt w6 w.heap.size kind bits m k n := Only.has o6 (by assumption) (fun f => f); have S6 : Has w6 (w.heap.size + 1) 51 #[.slice Aa na ca, .slice Ab nb cb, .slice Ac nc cc] := Only.has o6 (by assumption) (fun f => f); have O6 : Only (fun _ => False) w w6 := Only.trans (by assumption) o6))
    rename_i hS
    clear hS
    have G6 : I3 w6 g5 s0 s1 s2 := o6.has hg5 (fun f => f)
    obtain ⟨x0, x1, x2⟩ := s3_facts S6
    clear C5 S5 O5 C6 C1 S1 O1 o1 hg5 o5 o6
    go_wp2_with fail
    have P7 : Has (w6.alloc (.cells #[.slice Aa na ca, .slice Ab nb cb, .slice Ac nc cc] 26)) w6.heap.size 26 #[.slice Aa na ca, .slice Ab nb cb, .slice Ac nc cc] := Has.new _ _ _
    have G7 : I3 (w6.alloc (.cells #[.slice Aa na ca, .slice Ab nb cb, .slice Ac nc cc] 26)) g5 s0 s1 s2 := G6.alloc _
    have T7 : I3 (w6.alloc (.cells #[.slice Aa na ca, .slice Ab nb cb, .slice Ac nc cc] 26)) g6 t0 t1 t2 := hg6.alloc _
    have O7 : Only (fun _ => False) w (w6.alloc (.cells #[.slice Aa na ca, .slice Ab nb cb, .slice Ac nc cc] 26)) := O6.alloc _
    generalize w6.heap.size = gp at *
    generalize w6.alloc (.cells #[.slice Aa na ca, .slice Ab nb cb, .slice Ac nc cc] 26) = w7 at *
    clear G6 S6 O6 hg6 x0 x1 x2
    go_loopw [8, 9] (fun i j W => ∃ k : Nat, k ≤ 3 ∧ i = .int .i64 k ∧ (∀ q, (h : q < rs.length) → q < k → rs[q] = true) ∧ Has W gp 26 #[.slice Aa na ca, .slice Ab nb cb, .slice Ac nc cc] ∧ I3 W g5 s0 s1 s2 ∧ I3 W g6 t0 t1 t2 ∧ Only (fun _ => False) w W) (fun i _ _ => 3 - (intOf i).toNat)
    case atStart => exact ⟨0, by omega, rfl, fun q h hq => by omega, P7, G7, T7, O7⟩
    case round =>
      obtain ⟨wo, rfl⟩ : ∃ wo : World, wo = wr := ⟨_, rfl⟩
      obtain ⟨k, hk, rfl, hall, P8, G8, T8, O8⟩ := hrel
      have HALL := Lib.hid hall
      clear hall
      have hlt' : k < 3 ∨ k = 3 := by omega
      rcases hlt' with hlt | rfl
      · obtain ⟨⟨v, l, pn, pd⟩, hp, hv, hn, hd, hr⟩ := PK.out k hlt
        have c0 := (P8.cell k).trans hv
        have c1 := (G8.cell k).trans hn
        have c2 := (T8.cell k).trans hd
        obtain ⟨hsl, hx, hl, d0, d1⟩ := hp
        simp only at c0 c1 c2 hsl hx hl d0 d1 hr
        obtain ⟨A, c', rfl, hA⟩ := hsl
        have hk1 : (k : Int) < 3 := by omega
        have hk0 : (0 : Int) ≤ (k : Int) := by omega
        have hkr : k < rs.length := by rw [HRL.out]; exact hlt
        have hrk : rs[k] = fitsB pn pd l := by
          rw [List.getElem?_eq_getElem hkr] at hr
          exact Option.some.inj hr
        have hgood : fitsB pn pd l = true → ∀ q, (h : q < rs.length) → q < k + 1 → rs[q] = true := by
          intro h q hq hqk
          by_cases e : q = k
          · subst e; rw [hrk]; exact h
          · exact HALL.out q hq (by omega)
        have hbad : fitsB pn pd l = false → R = false := by
          intro h
          rw [← HR.out, List.all_eq_false]
          exact ⟨rs[k], List.getElem_mem hkr, by rw [hrk, h]; decide⟩
        have HGOOD := Lib.hid hgood
        have HBAD := Lib.hid hbad
        have HV := Lib.hid hv
        have HN := Lib.hid hn
        have HD := Lib.hid hd
        clear hgood hbad hrk hkr hr hv hn hd
        by_cases hln : (l.length : Int) = pn
        · subst hln
          have hal : fitsB (l.length : Int) pd l = l.all (okW pd) := by unfold fitsB; rw [decide_eq_true rfl, Bool.true_and]
          rw [hal] at HGOOD HBAD
          have HX := Lib.hid hx
          have HA := Lib.hid hA
          clear hal hx hA
          go_wp2_with fail
          go_quiet (fail)
          go_wp2_with fail
          go_loopw [9] (fun j W => ∃ m : Nat, m ≤ l.length ∧ j = .int .i64 m ∧ (∀ q, (h : q < l.length) → q < m → okW pd l[q] = true) ∧ Has W gp 26 #[.slice Aa na ca, .slice Ab nb cb, .slice Ac nc cc] ∧ I3 W g5 s0 s1 s2 ∧ I3 W g6 t0 t1 t2 ∧ Only (fun _ => False) w W) (fun j _ => l.length - (intOf j).toNat)
          case atStart => exact ⟨0, by omega, rfl, fun q h hq => by omega, P8.drewN _, G8.drewN _, T8.drewN _, O8.drewN _⟩
          case round =>
            obtain ⟨m, hm, rfl, hall2, P9, G9, T9, O9⟩ := hrel
            have HALL2 := Lib.hid hall2
            clear hall2 c0 c1 c2
            have c0 := (P9.cell k).trans HV.out
            have c2 := (T9.cell k).trans HD.out
            have hlt2 : m < l.length ∨ m = l.length := by omega
            rcases hlt2 with hlt2 | rfl
            · obtain ⟨ad, rfl, cx0⟩ := HA.out m hlt2
              have cx := O9.cell cx0 (fun f => f)
              clear cx0
              have hx := HX.out l[m] (List.getElem_mem hlt2)
              have hm1 : (m : Int) < (l.length : Int) := by omega
              have hbad2 : okW pd l[m] = false → R = false := by
                intro h
                apply HBAD.out
                rw [List.all_eq_false]
                exact ⟨l[m], List.getElem_mem hlt2, by rw [h]; decide⟩
              have hgood2 : okW pd l[m] = true → ∀ q, (h : q < l.length) → q < m + 1 → okW pd l[q] = true := by
                intro h q hq hqm
                by_cases e : q = m
                · subst e; exact h
                · exact HALL2.out q hq (by omega)
              have HBAD2 := Lib.hid hbad2
              have HGOOD2 := Lib.hid hgood2
              clear hbad2 hgood2
              generalize l[m] = x at *
              obtain ⟨hx0, hx1⟩ := hx
              have hoh := okW_half hx0 hx1 d0 d1
              obtain ⟨e, hpe⟩ : ∃ e, pd = e + 1 := ⟨pd - 1, by omega⟩
              have hs1 : IntKind.i64.wrap ((pd : Int) - 1) = (e : Int) := by rw [IntKind.wrap_i64]; omega
              have hs2 : IntKind.u64.wrap (e : Int) = (e : Int) := by rw [IntKind.wrap_u64]; omega
              have hq2 : IntKind.u64.wrap (x / 2) = x / 2 := by rw [IntKind.wrap_u64]; omega
              have hmin : min e 64 = e := by omega
              rw [show pd - 1 = e by omega] at hoh
              clear hpe
              generalize hy : x / 2 = y at *
              by_cases hq : y / 2 ^ e = 0
              · have HO := Lib.hid (show okW pd x = true by rw [hoh]; exact decide_eq_true hq)
                clear hoh
                go_wp2_with fail
                go_quiet (fail)
                go_wp2_with fail
                go_roundw
                case rel => exact ⟨m + 1, by omega, by go_num, HGOOD2.out HO.out, P9.drewN _, G9.drewN _, T9.drewN _, O9.drewN _⟩
                case measure => simp only [intOf]; omega
              · have HO := Lib.hid (show okW pd x = false by rw [hoh]; exact decide_eq_false hq)
                have hq' : (y / 2 ^ e == 0) = false := by simpa using hq
                clear hq hoh
                go_wp2_with fail
                go_quiet (fail)
                go_wp2_with fail
                go_ret
                refine ⟨?_, O9.drewN _⟩
                rw [HBAD2.out HO.out]
                rfl
            · have ht : l.all (okW pd) = true := by
                rw [List.all_eq_true]
                intro x hx
                obtain ⟨j, hj, rfl⟩ := List.getElem_of_mem hx
                exact HALL2.out j hj hj
              have HG := Lib.hid (HGOOD.out ht)
              clear ht
              go_wp2_with fail
              go_roundw
              case rel => exact ⟨k + 1, by omega, by go_num, HG.out, P9, G9, T9, O9⟩
              case measure => simp only [intOf]; omega
        · have HF := Lib.hid (show fitsB pn pd l = false by unfold fitsB; rw [decide_eq_false hln, Bool.false_and])
          have hln' : ((l.length : Int) == pn) = false := by simpa using hln
          clear hln
          go_wp2_with fail
          go_quiet (fail)
          go_wp2_with fail
          go_ret
          refine ⟨?_, O8.drewN _⟩
          rw [HBAD.out HF.out]
          rfl
      · have ht : R = true := by
          rw [← HR.out, List.all_eq_true]
          intro x hx
          obtain ⟨j, hj, rfl⟩ := List.getElem_of_mem hx
          rw [HALL.out j hj (by rw [← HRL.out]; exact hj)]
          rfl
        have HT := Lib.hid ht
        clear ht
        go_wp2_with fail
        go_ret
        refine ⟨?_, O8⟩
        rw [HT.out]
        rfl
  · have hR : c.fits s = false := by unfold Cl.fits; rw [if_neg hc]
    rw [hR]
    have h1 : (c.check != 0) = true := by simpa using hc
    generalize c.check = x at *
    obtain ⟨kind, bits, m, k, n⟩ := c
    simp only [Cl.cells] at *
    replace HC := Lib.hid HC
    clear hR hc hs
    go_enter Try.func26, Try.ntmps26
    go_wp2_with fail
    refine (HC.out _).mono ?_; rintro e w1 ⟨rfl, o1⟩
    go_wp2_with fail
    go_ret
    exact ⟨rfl, (((Only.refl _ _).alloc _).alloc _).trans o1⟩
end Go.Proofs.Ytbajgbjpaliecaa
