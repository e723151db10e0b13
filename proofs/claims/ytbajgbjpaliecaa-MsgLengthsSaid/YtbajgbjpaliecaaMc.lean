/- msg: words, shares, Check. -/
import Derived.Test.YtbajgbjpaliecaaMk
set_option linter.unusedSimpArgs false
set_option linter.unusedVariables false
namespace Go.Proofs.Ytbajgbjpaliecaa
open Go.RowKit

def wordsC (m : Mg) : Int := if m.width < 1 ∨ 64 < m.width then 11 else if 3072 < m.words.length then 2 else if m.words.all (okW m.width.toNat) then 0 else 13
def sharesC (m : Mg) : Int := if m.c.check ≠ 0 then m.c.check else if 24 < m.shares.length then 2 else if m.shares.all m.c.fits then 0 else 11
theorem all_false {α : Type} {l : List α} {p : α → Bool} {k : Nat} (h : k < l.length) (hp : p l[k] = false) : l.all p = false := by
  rw [List.all_eq_false]
  exact ⟨l[k], List.getElem_mem h, by rw [hp]; decide⟩
theorem all_true {α : Type} {l : List α} {p : α → Bool} (h : ∀ j, (h : j < l.length) → p l[j] = true) : l.all p = true := by
  rw [List.all_eq_true]
  intro x hx
  obtain ⟨j, hj, rfl⟩ := List.getElem_of_mem hx
  exact h j hj
/-- The box of a message. -/
theorem box_of (w : World) (t : TypeId) (m : Mg) (vw vs : Value) (ok : m.Ok) : MF (w.alloc (.cells (m.cells vw vs).toArray t)) w.heap.size m vw vs := mf_of (Has.new w t _) ok
set_option maxRecDepth 100000 in
set_option maxHeartbeats 2000000 in
theorem mwords_any (w : World) (m : Mg) (vw vs : Value) (ok : m.Ok) (hv : SlU w vw m.words) : Calls Try.prog 20 #[.agg (m.cells vw vs).toArray] w fun e w' => e = .returned (.int .i64 (wordsC m)) ∧ Only (fun _ => False) w w' := by
  have O0 := (Only.refl (fun _ => False) w).alloc (.cells (m.cells vw vs).toArray 39)
  have hsz : (m.cells vw vs).toArray.size = 82 := by simpa using Mg.cells_length ok vw vs
  have F := box_of w 39 m vw vs ok
  have hv := hv.only O0
  obtain ⟨A, c, rfl, hA⟩ := hv
  have hx := ok.words
  have hlw := ok.lw
  have hwr := ok.width
  generalize hw0 : w.alloc (.cells (m.cells (.slice A m.words.length c) vs).toArray 39) = w0 at *
  have HW0 := Lib.hid hw0
  clear hw0
  generalize (m.cells (.slice A m.words.length c) vs).toArray = cs at *
  obtain ⟨-, -, -, -, -, -, -, -, -, -, -, -, -, -, -, f15, f16, -⟩ := F
  unfold wordsC
  obtain ⟨d, hd⟩ := Int.eq_ofNat_of_zero_le hwr.1
  rw [hd] at f15 hwr ⊢
  have hd2 : d ≤ 255 := by omega
  clear hd hwr
  generalize m.words = l at *
  clear ok
  by_cases h1 : d < 1
  · rw [if_pos (by omega)]
    have h1 : (d : Int) < 1 := by omega
    clear hA hx
    go_enter Try.func20, Try.ntmps20
    go_upto_region 1 with fail
    rw [HW0.out]
    go_wp2_with fail
    go_ret
    exact ⟨rfl, O0⟩
  · by_cases h2 : 64 < d
    · rw [if_pos (by omega)]
      have h1 : ¬ (d : Int) < 1 := by omega
      have h2 : (64 : Int) < d := by omega
      clear hA hx
      go_enter Try.func20, Try.ntmps20
      go_upto_region 1 with fail
      rw [HW0.out]
      go_wp2_with fail
      go_ret
      exact ⟨rfl, O0⟩
    · rw [if_neg (by omega)]
      have h1 : ¬ (d : Int) < 1 := by omega
      have h2 : ¬ (64 : Int) < d := by omega
      by_cases h3 : 3072 < l.length
      · rw [if_pos h3]
        have h3 : (3072 : Int) < l.length := by omega
        clear hA hx
        go_enter Try.func20, Try.ntmps20
        go_upto_region 1 with fail
        rw [HW0.out]
        go_wp2_with fail
        go_ret
        exact ⟨rfl, O0⟩
      · rw [if_neg h3, show ((d : Int)).toNat = d by omega]
        have h3 : ¬ (3072 : Int) < l.length := by omega
        have HX := Lib.hid hx
        clear hx
        have HO := Lib.hid O0
        clear O0
        obtain ⟨r, hr⟩ : ∃ r : Int, r = if l.all (okW d) = true then 0 else 13 := ⟨_, rfl⟩
        rw [← hr]
        have HR := Lib.hid hr
        clear hr
        go_enter Try.func20, Try.ntmps20
        go_upto_region 1 with fail
        rw [HW0.out]
        go_wp2_with fail
        go_loopw [22] (fun i W => ∃ k : Nat, k ≤ l.length ∧ i = .int .i64 k ∧ (∀ j, (h : j < l.length) → j < k → okW d l[j] = true) ∧ W = w0) (fun i _ => l.length - (intOf i).toNat)
        case atStart => exact ⟨0, by omega, rfl, fun j h hj => by omega, rfl⟩
        case round =>
          obtain ⟨k, hk, rfl, hall, rfl⟩ := hrel
          have HALL := Lib.hid hall
          clear hall
          have hlt' : k < l.length ∨ k = l.length := by omega
          rcases hlt' with hlt | rfl
          · obtain ⟨ad, rfl, c0⟩ := hA k hlt
            have hx := HX.out l[k] (List.getElem_mem hlt)
            have hk1 : (k : Int) < (l.length : Int) := by omega
            have hbad : okW d l[k] = false → r = 13 := by
              intro h
              rw [HR.out, all_false hlt h]
              rfl
            have hgood : okW d l[k] = true → ∀ j, (h : j < l.length) → j < k + 1 → okW d l[j] = true := by
              intro h j hj hjk
              by_cases e : j = k
              · subst e; exact h
              · exact HALL.out j hj (by omega)
            have HBAD := Lib.hid hbad
            have HGOOD := Lib.hid hgood
            clear hbad hgood
            generalize l[k] = x at *
            obtain ⟨hx0, hx1⟩ := hx
            have hw0 : IntKind.u64.wrap (d : Int) = d := by rw [IntKind.wrap_u64]; omega
            by_cases h64 : d < 64
            · have h64' : (d : Int) < 64 := by omega
              by_cases hq : x / 2 ^ d = 0
              · have HO := Lib.hid (show okW d x = true from decide_eq_true (fun _ => hq))
                go_wp2_with fail
                go_roundw
                case rel => exact ⟨k + 1, by omega, by go_num, HGOOD.out HO.out, trivial⟩
                case measure => simp only [intOf]; omega
              · have HO2 := Lib.hid (show okW d x = false from decide_eq_false (fun h => hq (h h64)))
                have hq' : (x / 2 ^ d == 0) = false := by simpa using hq
                clear hq
                go_wp2_with fail
                go_ret
                refine ⟨?_, HO.out⟩
                rw [HBAD.out HO2.out]
                rfl
            · have h64' : ¬ (d : Int) < 64 := by omega
              have HO := Lib.hid (show okW d x = true from decide_eq_true (fun h => absurd h h64))
              go_wp2_with fail
              go_roundw
              case rel => exact ⟨k + 1, by omega, by go_num, HGOOD.out HO.out, trivial⟩
              case measure => simp only [intOf]; omega
          · have ht : r = 0 := by
              rw [HR.out, all_true (fun j hj => HALL.out j hj hj)]
              rfl
            have HT := Lib.hid ht
            clear ht
            go_wp2_with fail
            go_ret
            refine ⟨?_, HO.out⟩
            rw [HT.out]
            rfl
/-- Shares that are short. -/
def Mg.Short (m : Mg) : Prop := ∀ s ∈ m.shares, s.a.length ≤ 9223372036854775807 ∧ s.b.length ≤ 9223372036854775807 ∧ s.c.length ≤ 9223372036854775807
theorem ShU.at {w : World} {va vb vc : Value} {s : Sh} (h : ShU w va vb vc s) (hs : s.a.length ≤ 9223372036854775807 ∧ s.b.length ≤ 9223372036854775807 ∧ s.c.length ≤ 9223372036854775807) : ShAt w va vb vc s := ⟨h.a, h.b, h.c, h.xa, h.xb, h.xc, hs.1, hs.2.1, hs.2.2⟩
theorem sh3 {w : World} {b : Nat} {t : TypeId} {x y z : Value} (h : Has w b t #[x, y, z]) : w.cell? ⟨b, 0, none⟩ = some x ∧ w.cell? ⟨b, 1, none⟩ = some y ∧ w.cell? ⟨b, 2, none⟩ = some z := ⟨h.cell 0, h.cell 1, h.cell 2⟩
set_option maxRecDepth 100000 in
set_option maxHeartbeats 4000000 in
theorem shares_any (w : World) (m : Mg) (vw vs : Value) (ok : m.Ok) (hs : m.Short) (hv : SlSh w vs m.shares) : Calls Try.prog 21 #[.agg (m.cells vw vs).toArray] w fun e w' => e = .returned (.int .i64 (sharesC m)) ∧ Only (fun _ => False) w w' := by
  have HC := Lib.hid (fun W => scheck_any W m.c)
  have HS := Lib.hid (fun W va vb vc s (h : ShAt W va vb vc s) => sfits_any W m.c va vb vc s h)
  have O0 := (Only.refl (fun _ => False) w).alloc (.cells (m.cells vw vs).toArray 39)
  have B0 := Has.new w 39 (m.cells vw vs).toArray
  have hsz : (m.cells vw vs).toArray.size = 82 := by simpa using Mg.cells_length ok vw vs
  have HF := Lib.hid (fun W (h : Has W w.heap.size 39 (m.cells vw vs).toArray) => mf_of h ok)
  have hv := hv.only O0
  obtain ⟨A, c, rfl, hA⟩ := hv
  generalize hw0 : w.alloc (.cells (m.cells vw (.slice A m.shares.length c)).toArray 39) = w0 at *
  have HW0 := Lib.hid hw0
  clear hw0
  generalize (m.cells vw (.slice A m.shares.length c)).toArray = cs at *
  have hb0 : w.heap.size < w0.heap.size := B0.lt
  obtain ⟨-, -, -, -, f4, f5, f6, f7, f8, -, -, -, -, -, -, -, -, -⟩ := HF.out _ B0
  unfold sharesC
  by_cases hc : m.c.check = 0
  · rw [if_neg (by simpa using hc)]
    rw [hc] at HC
    clear hc
    by_cases h3 : 24 < m.shares.length
    · rw [if_pos h3]
      have h3 : (24 : Int) < m.shares.length := by omega
      clear hA hs HS
      go_enter Try.func21, Try.ntmps21
      go_upto_region 1 with fail
      rw [HW0.out]
      go_wp2_with fail
      refine (HC.out _).mono ?_; rintro e w1 ⟨rfl, o1⟩
      have g81 := (HF.out _ (o1.has B0 (fun f => f))).c81
      go_wp2_with fail
      go_ret
      exact ⟨rfl, O0.trans o1⟩
    · rw [if_neg h3]
      have h3 : ¬ (24 : Int) < m.shares.length := by omega
      have HSM := Lib.hid hs
      have HA := Lib.hid hA
      have HO := Lib.hid O0
      clear hs hA O0
      obtain ⟨r, hr⟩ : ∃ r : Int, r = if m.shares.all m.c.fits = true then 0 else 11 := ⟨_, rfl⟩
      rw [← hr]
      have HR := Lib.hid hr
      clear hr
      go_enter Try.func21, Try.ntmps21
      go_upto_region 1 with fail
      rw [HW0.out]
      go_wp2_with fail
      refine (HC.out _).mono ?_; rintro e w1 ⟨rfl, o1⟩
      have g81 := (HF.out _ (o1.has B0 (fun f => f))).c81
      go_wp2_with fail
      go_loopw [19] (fun i W => ∃ k : Nat, k ≤ m.shares.length ∧ i = .int .i64 k ∧ (∀ j, (h : j < m.shares.length) → j < k → m.c.fits m.shares[j] = true) ∧ Only (fun _ => False) w0 W) (fun i _ => m.shares.length - (intOf i).toNat)
      case atStart => exact ⟨0, by omega, rfl, fun j h hj => by omega, o1⟩
      case round =>
        clear g81 f4 f5 f6 f7 f8
        obtain ⟨k, hk, rfl, hall, ho⟩ := hrel
        have HALL := Lib.hid hall
        have HHO := Lib.hid ho
        clear hall ho
        have hlt' : k < m.shares.length ∨ k = m.shares.length := by omega
        rcases hlt' with hlt | rfl
        · obtain ⟨ad, va, vb, vc, rfl, x0, x1, x2, hsh⟩ := HA.out k hlt
          have c0 := HHO.out.cell x0 (fun f => f)
          have c1 := row_cell (by decide) (HHO.out.cell x1 (fun f => f))
          have c2 := row_cell (by decide) (HHO.out.cell x2 (fun f => f))
          have hAt := (hsh.at (HSM.out _ (List.getElem_mem hlt))).only HHO.out
          obtain ⟨A1, e1, rfl, -⟩ := hsh.a
          obtain ⟨A2, e2, rfl, -⟩ := hsh.b
          obtain ⟨A3, e3, rfl, -⟩ := hsh.c
          clear x0 x1 x2 hsh
          have HAT := Lib.hid hAt
          clear hAt
          have hk1 : (k : Int) < (m.shares.length : Int) := by omega
          have hbad : m.c.fits m.shares[k] = false → r = 11 := by
            intro h
            rw [HR.out, all_false hlt h]
            rfl
          have HBAD := Lib.hid hbad
          have HGOOD := Lib.hid (show m.c.fits m.shares[k] = true → ∀ j, (h : j < m.shares.length) → j < k + 1 → m.c.fits m.shares[j] = true from by
            intro h j hj hjk
            by_cases e : j = k
            · subst e; exact h
            · exact HALL.out j hj (by omega))
          clear hbad
          generalize m.shares[k] = s at *
          generalize s.a.length = n1 at *
          generalize s.b.length = n2 at *
          generalize s.c.length = n3 at *
          go_upto_region 9 with fail
          have B1 := (HHO.out.has B0 (fun f => f)).alloc (.cells #[.slice A1 n1 e1, .slice A2 n2 e2, .slice A3 n3 e3] 51)
          have O1 := HHO.out.alloc (.cells #[.slice A1 n1 e1, .slice A2 n2 e2, .slice A3 n3 e3] 51)
          have T1 := HAT.out.only ((Only.refl (fun _ => False) wr).alloc (.cells #[.slice A1 n1 e1, .slice A2 n2 e2, .slice A3 n3 e3] 51))
          obtain ⟨-, -, -, -, f4, f5, f6, f7, f8, -, -, -, -, -, -, -, -, -⟩ := HF.out _ B1
          go_wp2_with fail
          refine (HS.out _ _ _ _ s T1).mono ?_; rintro e w2 ⟨rfl, o2⟩
          have HO2 := Lib.hid (O1.trans o2)
          clear f4 f5 f6 f7 f8 T1 B1 O1 o2
          cases hfit : m.c.fits s
          · have HFIT := Lib.hid (HBAD.out hfit)
            clear hfit
            go_wp2_with fail
            go_ret
            rw [HFIT.out]
            exact ⟨rfl, HO.out.trans HO2.out⟩
          · have HFIT := Lib.hid (HGOOD.out hfit)
            clear hfit
            go_wp2_with fail
            go_roundw
            case rel => exact ⟨k + 1, by omega, by go_num, HFIT.out, HO2.out⟩
            case measure => simp only [intOf]; omega
        · have ht : r = 0 := by
            rw [HR.out, all_true (fun j hj => HALL.out j hj hj)]
            rfl
          have HT := Lib.hid ht
          clear ht
          go_wp2_with fail
          go_ret
          refine ⟨?_, HO.out.trans HHO.out⟩
          rw [HT.out]
          rfl
  · rw [if_pos hc]
    have h1 : (m.c.check != 0) = true := by simpa using hc
    clear hc hA hs
    generalize m.c.check = x at *
    go_enter Try.func21, Try.ntmps21
    go_upto_region 1 with fail
    rw [HW0.out]
    go_wp2_with fail
    refine (HC.out _).mono ?_; rintro e w1 ⟨rfl, o1⟩
    go_wp2_with fail
    go_ret
    exact ⟨rfl, O0.trans o1⟩
end Go.Proofs.Ytbajgbjpaliecaa
