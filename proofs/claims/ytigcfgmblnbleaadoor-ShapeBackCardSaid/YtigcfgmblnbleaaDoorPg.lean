/- shape.Parse, every case. -/
import Derived.Test.YtigcfgmblnbleaaDoorPg0
set_option linter.unusedSimpArgs false
set_option linter.unusedVariables false
namespace Go.Proofs.YtigcfgmblnbleaaDoor
open Go.RowKit

def zeroCl : Cl := ⟨0, 0, 0, 0, 0⟩
def finF (c : Cl) : Cl × Int := if c.check = 0 then (c, 0) else (zeroCl, c.check)
/-- What Parse answers, by the kind, whether there is a colon, the number ahead of it and the pieces behind it. -/
def parseG (k : Int) (is : Bool) (nu : Int × Bool) (ps : List ByteArray) : Cl × Int :=
  if nu.2 = false ∨ k < 1 ∨ is ≠ decide (k = 2) then (zeroCl, 13)
  else if k = 2 then
    match ps with
    | [p0, p1, p2] => if (numR p0).2 && (numR p1).2 && (numR p2).2 then finF ⟨2, nu.1, (numR p0).1, (numR p1).1, (numR p2).1⟩ else (zeroCl, 13)
    | _ => (zeroCl, 13)
  else finF ⟨k, nu.1, 0, 0, 0⟩
def parseF (s : ByteArray) : Cl × Int :=
  if s = ⟨#[98]⟩ then (⟨3, 1, 0, 0, 0⟩, 0)
  else if s.size = 0 then (zeroCl, 13)
  else parseG (kindOf (s.data.toList.head?.getD 0)) (cutB s) (numR (cutH s)) (pieces (cutT s))
theorem parseG_len {nb : Int} {ps : List ByteArray} (h : ps.length ≠ 3) : parseG 2 true (nb, true) ps = (zeroCl, 13) := by
  unfold parseG
  rw [if_neg (by simp), if_pos rfl]
  match ps, h with
  | [], _ => rfl
  | [_], _ => rfl
  | [_, _], _ => rfl
  | [_, _, _], h => exact absurd rfl h
  | _ :: _ :: _ :: _ :: _, _ => rfl
theorem parseG_m {nb v0 v1 v2 : Int} {b0 b1 b2 : Bool} {p0 p1 p2 : ByteArray} (h0 : numR p0 = (v0, b0)) (h1 : numR p1 = (v1, b1)) (h2 : numR p2 = (v2, b2)) :
    parseG 2 true (nb, true) [p0, p1, p2] = if b0 && b1 && b2 then finF ⟨2, nb, v0, v1, v2⟩ else (zeroCl, 13) := by
  unfold parseG
  rw [if_neg (by simp), if_pos rfl]
  simp only [h0, h1, h2]
theorem len3 {ps : List ByteArray} (h : ps.length = 3) : ∃ p0 p1 p2, ps = [p0, p1, p2] := by
  match ps, h with
  | [p0, p1, p2], _ => exact ⟨p0, p1, p2, rfl⟩
theorem parseF_b {s : ByteArray} (h : s = ⟨#[98]⟩) : parseF s = (⟨3, 1, 0, 0, 0⟩, 0) := by unfold parseF; rw [if_pos h]
theorem parseF_nil {s : ByteArray} (hb : s ≠ ⟨#[98]⟩) (h : s.size = 0) : parseF s = (zeroCl, 13) := by unfold parseF; rw [if_neg hb, if_pos h]
def clK (k nb v0 v1 v2 : Int) : Nat → Array Value
  | 0 => #[.int .i64 k, .int .i64 nb, .int .i64 0, .int .i64 0, .int .i64 0]
  | 1 => #[.int .i64 k, .int .i64 nb, .int .i64 v0, .int .i64 0, .int .i64 0]
  | 2 => #[.int .i64 k, .int .i64 nb, .int .i64 v0, .int .i64 v1, .int .i64 0]
  | _ => #[.int .i64 k, .int .i64 nb, .int .i64 v0, .int .i64 v1, .int .i64 v2]

set_option maxRecDepth 100000 in
set_option maxHeartbeats 16000000 in
theorem parse_g (w : World) (s : ByteArray) (hm : Ml w) (hs : s.size ≤ 1000000) (hb : s ≠ ⟨#[98]⟩) (hpos : 0 < s.size) :
    Calls Tryd.prog 20 #[.string s] w fun e w' => e = .returned (.tuple #[.agg (parseG (kindOf s[0]) (cutB s) (numR (cutH s)) (pieces (cutT s))).1.cells, .int .i64 (parseG (kindOf s[0]) (cutB s) (numR (cutH s)) (pieces (cutT s))).2]) ∧ Only (fun _ => False) w w' := by
  have HK := fun W => kind_any W s[0]
  have HCU := fun W h => cut_any W s hs h
  have HNU := fun W => snum_any W (cutH s) (by have := cutH_size s; omega)
  have HSP := fun W h => pieces_any W (cutT s) (by have := cutT_size s; omega) h
  have hmem : ∀ p ∈ pieces (cutT s), p.size ≤ 140737488351232 := fun p h => by have := splitB_mem _ _ _ _ h; have := cutT_size s; omega
  have he := not_empty hpos
  have hb' := ne_b hb
  have hpos' : (0 : Int) < (s.size : Int) := by omega
  have hpos1 : (1 : Int) ≤ (s.size : Int) := by omega
  have hlen1 : (pieces (cutT s)).length ≤ 1000001 := by
    have h1 : (pieces (cutT s)).length = Lib.countB (cutT s) ⟨#[120]⟩ + 1 := Lib.splitB_all ⟨#[120]⟩ (by decide) 0 _ (cutT s) rfl
    have h2 := Lib.countB_le ⟨#[120]⟩ (by decide) _ (cutT s) (Nat.le_refl _)
    have h3 := cutT_size s
    omega
  generalize hKK : kindOf s[0] = k at *
  generalize cutB s = is at *
  generalize numR (cutH s) = nu at *
  generalize pieces (cutT s) = ps at *
  obtain ⟨nb, ok⟩ := nu
  replace HK := Lib.hid HK
  replace HCU := Lib.hid HCU
  replace HNU := Lib.hid HNU
  replace HSP := Lib.hid HSP
  have HM := Lib.hid hm
  clear hb hm hKK
  generalize cutH s = H at *
  generalize cutT s = T at *
  have HX5 := fun W => scheck_any W ⟨k, nb, 0, 0, 0⟩
  simp only [Cl.cells] at HX5
  go_enter Tryd.func20, Tryd.ntmps20
  go_wp2_with fail
  refine (HK.out _).mono ?_; rintro e w1 ⟨rfl, rfl⟩
  go_wp2_with fail
  have R1 : Has (w.alloc (.cells #[.int .i64 0, .int .i64 0, .int .i64 0, .int .i64 0, .int .i64 0] 23)) w.heap.size 23 #[.int .i64 0, .int .i64 0, .int .i64 0, .int .i64 0, .int .i64 0] := Has.new _ _ _
  have C1 := Has.new (w.alloc (.cells #[.int .i64 0, .int .i64 0, .int .i64 0, .int .i64 0, .int .i64 0] 23)) 23 (clK k 0 0 0 0 0)
  rw [show (w.alloc (.cells #[.int .i64 0, .int .i64 0, .int .i64 0, .int .i64 0, .int .i64 0] 23)).heap.size = w.heap.size + 1 by simp] at C1
  have o1 : Only (fun _ => False) w ((w.alloc (.cells #[.int .i64 0, .int .i64 0, .int .i64 0, .int .i64 0, .int .i64 0] 23)).alloc (.cells (clK k 0 0 0 0 0) 23)) := ((Only.refl _ _).alloc _).alloc _
  refine (HCU.out _ (HM.out.only o1)).mono ?_; rintro e w2 ⟨rfl, o2⟩
  have R2 := o2.has (R1.alloc _) (fun f => f)
  have C2 := o2.has C1 (fun f => f)
  have O2 := o1.trans o2
  clear o1 o2 R1 C1
  go_wp2_with fail
  refine (HNU.out _).mono ?_; rintro e w3 ⟨rfl, rfl⟩
  have c0 : w2.cell? ⟨w.heap.size + 1, 0, none⟩ = some (.int .i64 k) := C2.cell 0
  have c1 : w2.cell? ⟨w.heap.size + 1, 1, none⟩ = some (.int .i64 0) := C2.cell 1
  have cf := C2.free 1
  have hlt2 := C2.lt
  have HO2 := Lib.hid O2
  cases ok with
  | false =>
    have HE := Lib.hid (show parseG k is (nb, false) ps = (zeroCl, 13) by unfold parseG; rw [if_pos (.inl rfl)])
    obtain ⟨z0, z1, z2, z3, z4, zf⟩ := Has.facts5 R2
    go_wp2_with fail
    refine bodyPost_ret (v := .tuple #[.agg #[.int .i64 0, .int .i64 0, .int .i64 0, .int .i64 0, .int .i64 0], .int .i64 13]) ?hr rfl ?hp
    case hr => exact res_ps (b := w.heap.size) (Has.put5 R2 rfl _ _ _ _ _) rfl rfl
    case hp =>
      refine ⟨?_, Only.then_ HO2.out (Only.put5 w2 w.heap.size (.int .i64 0) (.int .i64 0) (.int .i64 0) (.int .i64 0) (.int .i64 0)) (fun i hi e => absurd hi (by have : i = w.heap.size := e; omega))⟩
      rw [HE.out]
      rfl
  | true =>
  by_cases hk1 : k < 1
  · have HE := Lib.hid (show parseG k is (nb, true) ps = (zeroCl, 13) by unfold parseG; rw [if_pos (.inr (.inl hk1))])
    obtain ⟨z0, z1, z2, z3, z4, zf⟩ := Has.facts5 R2
    go_wp2_with fail
    refine bodyPost_ret (v := .tuple #[.agg #[.int .i64 0, .int .i64 0, .int .i64 0, .int .i64 0, .int .i64 0], .int .i64 13]) ?hr rfl ?hp
    case hr => exact res_ps (b := w.heap.size) (Has.put5 R2 rfl _ _ _ _ _) rfl rfl
    case hp =>
      refine ⟨?_, Only.then_ HO2.out (Only.put5 w2 w.heap.size (.int .i64 0) (.int .i64 0) (.int .i64 0) (.int .i64 0) (.int .i64 0)) (fun i hi e => absurd hi (by have : i = w.heap.size := e; omega))⟩
      rw [HE.out]
      rfl
  by_cases hk2 : k = 2
  · subst hk2
    cases is with
    | false =>
      have HE := Lib.hid (show parseG 2 false (nb, true) ps = (zeroCl, 13) by unfold parseG; rw [if_pos (.inr (.inr (by decide)))])
      obtain ⟨z0, z1, z2, z3, z4, zf⟩ := Has.facts5 R2
      go_wp2_with fail
      refine bodyPost_ret (v := .tuple #[.agg #[.int .i64 0, .int .i64 0, .int .i64 0, .int .i64 0, .int .i64 0], .int .i64 13]) ?hr rfl ?hp
      case hr => exact res_ps (b := w.heap.size) (Has.put5 R2 rfl _ _ _ _ _) rfl rfl
      case hp =>
        refine ⟨?_, Only.then_ HO2.out (Only.put5 w2 w.heap.size (.int .i64 0) (.int .i64 0) (.int .i64 0) (.int .i64 0) (.int .i64 0)) (fun i hi e => absurd hi (by have : i = w.heap.size := e; omega))⟩
        rw [HE.out]
        rfl
    | true =>
    go_wp2_with fail
    have C3 : Has (w2.setCell ⟨w.heap.size + 1, 1, none⟩ (.int .i64 nb)) (w.heap.size + 1) 23 (clK 2 nb 0 0 0 0) := C2.put 1 (.int .i64 nb) rfl
    have R3 := R2.far (p := ⟨w.heap.size + 1, 1, none⟩) (by show w.heap.size ≠ w.heap.size + 1; omega) (.int .i64 nb)
    have O3 := HO2.out.setCell ⟨w.heap.size + 1, 1, none⟩ (.int .i64 nb) (fun h => absurd h (by show ¬ w.heap.size + 1 < w.heap.size; omega))
    clear c0 c1 cf
    refine (HSP.out _ (HM.out.only O3)).mono ?_; rintro e w4 ⟨g, rfl, S4, hg, o4⟩
    have hz : (w2.setCell ⟨w.heap.size + 1, 1, none⟩ (.int .i64 nb)).heap.size = w2.heap.size := by simp [World.setCell]
    rw [hz] at hg
    have hg4 := S4.lt
    have R4 := o4.has R3 (fun f => f)
    have C4 := o4.has C3 (fun f => f)
    have O4 := O3.trans o4
    have HO4 := Lib.hid O4
    clear O4 O3 hz O2 HO2 C3 R3 o4
    by_cases hl3 : ps.length = 3
    · obtain ⟨p0, p1, p2, rfl⟩ := len3 hl3
      have S4 : Has w4 g 9 #[.string p0, .string p1, .string p2] := S4
      have HP0 := fun W => snum_any W p0 (hmem p0 (by simp))
      have HP1 := fun W => snum_any W p1 (hmem p1 (by simp))
      have HP2 := fun W => snum_any W p2 (hmem p2 (by simp))
      obtain ⟨v0, b0, e0⟩ : ∃ v b, numR p0 = (v, b) := ⟨_, _, rfl⟩
      obtain ⟨v1, b1, e1⟩ : ∃ v b, numR p1 = (v, b) := ⟨_, _, rfl⟩
      obtain ⟨v2, b2, e2⟩ : ∃ v b, numR p2 = (v, b) := ⟨_, _, rfl⟩
      have HE := Lib.hid (parseG_m (nb := nb) e0 e1 e2)
      rw [e0] at HP0
      rw [e1] at HP1
      rw [e2] at HP2
      have HX6 := fun W => scheck_any W ⟨2, nb, v0, v1, v2⟩
      simp only [Cl.cells] at HX6
      replace HP0 := Lib.hid HP0
      replace HP1 := Lib.hid HP1
      replace HP2 := Lib.hid HP2
      have HFG : Cl.check ⟨2, nb, v0, v1, v2⟩ = 0 → finF ⟨2, nb, v0, v1, v2⟩ = (⟨2, nb, v0, v1, v2⟩, 0) := fun h => by unfold finF; rw [if_pos h]
      have HFB : Cl.check ⟨2, nb, v0, v1, v2⟩ ≠ 0 → finF ⟨2, nb, v0, v1, v2⟩ = (zeroCl, Cl.check ⟨2, nb, v0, v1, v2⟩) := fun h => by unfold finF; rw [if_neg h]
      clear e0 e1 e2 hmem HX5 C2 R2
      generalize Cl.check ⟨2, nb, v0, v1, v2⟩ = x at *
      replace HX6 := Lib.hid HX6
      replace HFG := Lib.hid HFG
      replace HFB := Lib.hid HFB
      go_wp2_with fail
      go_loopw [9, 11, 12, 65] (fun a b c i W => ∃ (k : Nat), k ≤ 3 ∧ i = .int .i64 k ∧ ((0 < k → b0 = true) ∧ (1 < k → b1 = true) ∧ (2 < k → b2 = true)) ∧ Has W w.heap.size 23 #[.int .i64 0, .int .i64 0, .int .i64 0, .int .i64 0, .int .i64 0] ∧ Has W (w.heap.size + 1) 23 (clK 2 nb v0 v1 v2 k) ∧ Has W g 9 #[.string p0, .string p1, .string p2] ∧ Has W w4.heap.size 74 #[.pointer (some ⟨w.heap.size + 1, 2, none⟩), .pointer (some ⟨w.heap.size + 1, 3, none⟩), .pointer (some ⟨w.heap.size + 1, 4, none⟩)] ∧ Only (fun _ => False) w W) (fun _ _ _ i _ => 3 - (intOf i).toNat)
      case atStart => exact ⟨0, by omega, rfl, ⟨fun h => by omega, fun h => by omega, fun h => by omega⟩, R4.alloc _, C4.alloc _, S4.alloc _, Has.new _ _ _, HO4.out.alloc _⟩
      case round =>
        obtain ⟨k, hk, rfl, hbs, hR, hC, hS, hP, ho⟩ := hrel
        have HBS := Lib.hid hbs
        clear hbs
        have hkk : k = 0 ∨ k = 1 ∨ k = 2 ∨ k = 3 := by omega
        rcases hkk with rfl | rfl | rfl | rfl
        · have t0 : wr.cell? ⟨w4.heap.size, 0, none⟩ = some (.pointer (some ⟨w.heap.size + 1, 2, none⟩)) := hP.cell 0
          have t1 : wr.cell? ⟨g, 0, none⟩ = some (.string p0) := hS.cell 0
          have t2 : wr.cell? ⟨w.heap.size + 1, 2, none⟩ = some (.int .i64 0) := hC.cell 2
          have t3 := hC.free 2
          have hR' := hR.far (p := ⟨w.heap.size + 1, 2, none⟩) (by show w.heap.size ≠ w.heap.size + 1; omega) (.int .i64 v0)
          have ho' := ho.setCell ⟨w.heap.size + 1, 2, none⟩ (.int .i64 v0) (fun h => absurd h (by show ¬ w.heap.size + 1 < w.heap.size; omega))
          have HO5 := Lib.hid ho'
          clear ho'
          go_wp2_with fail
          refine (HP0.out _).mono ?_; rintro e w5 ⟨rfl, rfl⟩
          cases b0 with
          | false =>
            obtain ⟨z0, z1, z2, z3, z4, zf⟩ := Has.facts5 hR'
            go_wp2_with fail
            refine bodyPost_ret (v := .tuple #[.agg #[.int .i64 0, .int .i64 0, .int .i64 0, .int .i64 0, .int .i64 0], .int .i64 13]) ?hr rfl ?hp
            case hr => exact res_ps (b := w.heap.size) (Has.put5 hR' rfl _ _ _ _ _) rfl rfl
            case hp =>
              refine ⟨?_, Only.then_ HO5.out (Only.put5 _ w.heap.size (.int .i64 0) (.int .i64 0) (.int .i64 0) (.int .i64 0) (.int .i64 0)) (fun i hi e => absurd hi (by have : i = w.heap.size := e; omega))⟩
              rw [HE.out, if_neg (by simp)]
              rfl
          | true =>
            go_wp2_with fail
            go_roundw
            case rel => exact ⟨1, by omega, rfl, ⟨by simp, fun h => absurd h (by omega), fun h => absurd h (by omega)⟩, hR', hC.put 2 (.int .i64 v0) rfl, hS.far (p := ⟨w.heap.size + 1, 2, none⟩) (by show g ≠ w.heap.size + 1; omega) _, hP.far (p := ⟨w.heap.size + 1, 2, none⟩) (by show w4.heap.size ≠ w.heap.size + 1; omega) _, HO5.out⟩
            case measure => simp [intOf]
        · have t0 : wr.cell? ⟨w4.heap.size, 1, none⟩ = some (.pointer (some ⟨w.heap.size + 1, 3, none⟩)) := hP.cell 1
          have t1 : wr.cell? ⟨g, 1, none⟩ = some (.string p1) := hS.cell 1
          have t2 : wr.cell? ⟨w.heap.size + 1, 3, none⟩ = some (.int .i64 0) := hC.cell 3
          have t3 := hC.free 3
          have hR' := hR.far (p := ⟨w.heap.size + 1, 3, none⟩) (by show w.heap.size ≠ w.heap.size + 1; omega) (.int .i64 v1)
          have ho' := ho.setCell ⟨w.heap.size + 1, 3, none⟩ (.int .i64 v1) (fun h => absurd h (by show ¬ w.heap.size + 1 < w.heap.size; omega))
          have HO5 := Lib.hid ho'
          clear ho'
          go_wp2_with fail
          refine (HP1.out _).mono ?_; rintro e w5 ⟨rfl, rfl⟩
          cases b1 with
          | false =>
            obtain ⟨z0, z1, z2, z3, z4, zf⟩ := Has.facts5 hR'
            go_wp2_with fail
            refine bodyPost_ret (v := .tuple #[.agg #[.int .i64 0, .int .i64 0, .int .i64 0, .int .i64 0, .int .i64 0], .int .i64 13]) ?hr rfl ?hp
            case hr => exact res_ps (b := w.heap.size) (Has.put5 hR' rfl _ _ _ _ _) rfl rfl
            case hp =>
              refine ⟨?_, Only.then_ HO5.out (Only.put5 _ w.heap.size (.int .i64 0) (.int .i64 0) (.int .i64 0) (.int .i64 0) (.int .i64 0)) (fun i hi e => absurd hi (by have : i = w.heap.size := e; omega))⟩
              rw [HE.out, if_neg (by simp)]
              rfl
          | true =>
            go_wp2_with fail
            go_roundw
            case rel => exact ⟨2, by omega, rfl, ⟨fun _ => HBS.out.1 (by omega), by simp, fun h => absurd h (by omega)⟩, hR', hC.put 3 (.int .i64 v1) rfl, hS.far (p := ⟨w.heap.size + 1, 3, none⟩) (by show g ≠ w.heap.size + 1; omega) _, hP.far (p := ⟨w.heap.size + 1, 3, none⟩) (by show w4.heap.size ≠ w.heap.size + 1; omega) _, HO5.out⟩
            case measure => simp [intOf]
        · have t0 : wr.cell? ⟨w4.heap.size, 2, none⟩ = some (.pointer (some ⟨w.heap.size + 1, 4, none⟩)) := hP.cell 2
          have t1 : wr.cell? ⟨g, 2, none⟩ = some (.string p2) := hS.cell 2
          have t2 : wr.cell? ⟨w.heap.size + 1, 4, none⟩ = some (.int .i64 0) := hC.cell 4
          have t3 := hC.free 4
          have hR' := hR.far (p := ⟨w.heap.size + 1, 4, none⟩) (by show w.heap.size ≠ w.heap.size + 1; omega) (.int .i64 v2)
          have ho' := ho.setCell ⟨w.heap.size + 1, 4, none⟩ (.int .i64 v2) (fun h => absurd h (by show ¬ w.heap.size + 1 < w.heap.size; omega))
          have HO5 := Lib.hid ho'
          clear ho'
          go_wp2_with fail
          refine (HP2.out _).mono ?_; rintro e w5 ⟨rfl, rfl⟩
          cases b2 with
          | false =>
            obtain ⟨z0, z1, z2, z3, z4, zf⟩ := Has.facts5 hR'
            go_wp2_with fail
            refine bodyPost_ret (v := .tuple #[.agg #[.int .i64 0, .int .i64 0, .int .i64 0, .int .i64 0, .int .i64 0], .int .i64 13]) ?hr rfl ?hp
            case hr => exact res_ps (b := w.heap.size) (Has.put5 hR' rfl _ _ _ _ _) rfl rfl
            case hp =>
              refine ⟨?_, Only.then_ HO5.out (Only.put5 _ w.heap.size (.int .i64 0) (.int .i64 0) (.int .i64 0) (.int .i64 0) (.int .i64 0)) (fun i hi e => absurd hi (by have : i = w.heap.size := e; omega))⟩
              rw [HE.out, if_neg (by simp)]
              rfl
          | true =>
            go_wp2_with fail
            go_roundw
            case rel => exact ⟨3, by omega, rfl, ⟨fun _ => HBS.out.1 (by omega), fun _ => HBS.out.2.1 (by omega), by simp⟩, hR', hC.put 4 (.int .i64 v2) rfl, hS.far (p := ⟨w.heap.size + 1, 4, none⟩) (by show g ≠ w.heap.size + 1; omega) _, hP.far (p := ⟨w.heap.size + 1, 4, none⟩) (by show w4.heap.size ≠ w.heap.size + 1; omega) _, HO5.out⟩
            case measure => simp [intOf]
        · obtain rfl : b0 = true := HBS.out.1 (by omega)
          obtain rfl : b1 = true := HBS.out.2.1 (by omega)
          obtain rfl : b2 = true := HBS.out.2.2 (by omega)
          have HO := Lib.hid ho
          clear ho
          have x0 : wr.cell? ⟨w.heap.size + 1, 0, none⟩ = some (.int .i64 2) := hC.cell 0
          have x1 : wr.cell? ⟨w.heap.size + 1, 1, none⟩ = some (.int .i64 nb) := hC.cell 1
          have x2 : wr.cell? ⟨w.heap.size + 1, 2, none⟩ = some (.int .i64 v0) := hC.cell 2
          have x3 : wr.cell? ⟨w.heap.size + 1, 3, none⟩ = some (.int .i64 v1) := hC.cell 3
          have x4 : wr.cell? ⟨w.heap.size + 1, 4, none⟩ = some (.int .i64 v2) := hC.cell 4
          go_wp2_with fail
          refine (HX6.out _).mono ?_; rintro e w6 ⟨rfl, o6⟩
          have C6 := o6.has hC (fun f => f)
          have R6 := o6.has hR (fun f => f)
          have O6 := Only.trans HO.out o6
          clear x0 x1 x2 x3 x4
          by_cases hx : x = 0
          · subst hx
            have x0 : w6.cell? ⟨w.heap.size + 1, 0, none⟩ = some (.int .i64 2) := C6.cell 0
            have x1 : w6.cell? ⟨w.heap.size + 1, 1, none⟩ = some (.int .i64 nb) := C6.cell 1
            have x2 : w6.cell? ⟨w.heap.size + 1, 2, none⟩ = some (.int .i64 v0) := C6.cell 2
            have x3 : w6.cell? ⟨w.heap.size + 1, 3, none⟩ = some (.int .i64 v1) := C6.cell 3
            have x4 : w6.cell? ⟨w.heap.size + 1, 4, none⟩ = some (.int .i64 v2) := C6.cell 4
            obtain ⟨z0, z1, z2, z3, z4, zf⟩ := Has.facts5 R6
            go_wp2_with fail
            refine bodyPost_ret (v := .tuple #[.agg #[.int .i64 2, .int .i64 nb, .int .i64 v0, .int .i64 v1, .int .i64 v2], .int .i64 0]) ?hr rfl ?hp
            case hr => exact res_ps (b := w.heap.size) (Has.put5 R6 rfl _ _ _ _ _) rfl rfl
            case hp =>
              refine ⟨?_, O6.then_ (Only.put5 w6 w.heap.size (.int .i64 2) (.int .i64 nb) (.int .i64 v0) (.int .i64 v1) (.int .i64 v2)) (fun i hi e => absurd hi (by have : i = w.heap.size := e; omega))⟩
              rw [HE.out, if_pos (show (true && true && true) = true from rfl), HFG.out (by simp)]
              rfl
          · have hx' : (x != 0) = true := by simpa using hx
            have HXN := Lib.hid hx
            clear hx
            obtain ⟨z0, z1, z2, z3, z4, zf⟩ := Has.facts5 R6
            go_wp2_with fail
            refine bodyPost_ret (v := .tuple #[.agg #[.int .i64 0, .int .i64 0, .int .i64 0, .int .i64 0, .int .i64 0], .int .i64 x]) ?hr rfl ?hp
            case hr => exact res_ps (b := w.heap.size) (Has.put5 R6 rfl _ _ _ _ _) rfl rfl
            case hp =>
              refine ⟨?_, Only.then_ O6 (Only.put5 w6 w.heap.size (.int .i64 0) (.int .i64 0) (.int .i64 0) (.int .i64 0) (.int .i64 0)) (fun i hi e => absurd hi (by have : i = w.heap.size := e; omega))⟩
              rw [HE.out, if_pos (show (true && true && true) = true from rfl), HFB.out HXN.out]
              rfl
    · have hl3' : ((ps.length : Int) == 3) = false := by simp; omega
      have HE := Lib.hid (parseG_len (nb := nb) hl3)
      clear hl3
      obtain ⟨z0, z1, z2, z3, z4, zf⟩ := Has.facts5 R4
      go_wp2_with fail
      refine bodyPost_ret (v := .tuple #[.agg #[.int .i64 0, .int .i64 0, .int .i64 0, .int .i64 0, .int .i64 0], .int .i64 13]) ?hr rfl ?hp
      case hr => exact res_ps (b := w.heap.size) (Has.put5 R4 rfl _ _ _ _ _) rfl rfl
      case hp =>
        refine ⟨?_, Only.then_ HO4.out (Only.put5 w4 w.heap.size (.int .i64 0) (.int .i64 0) (.int .i64 0) (.int .i64 0) (.int .i64 0)) (fun i hi e => absurd hi (by have : i = w.heap.size := e; omega))⟩
        rw [HE.out]
        rfl
  · have hk2' : (k == 2) = false := by simpa using hk2
    cases is with
    | true =>
      have HE := Lib.hid (show parseG k true (nb, true) ps = (zeroCl, 13) by unfold parseG; rw [if_pos (.inr (.inr (by simp [hk2])))])
      clear hk2
      obtain ⟨z0, z1, z2, z3, z4, zf⟩ := Has.facts5 R2
      go_wp2_with fail
      refine bodyPost_ret (v := .tuple #[.agg #[.int .i64 0, .int .i64 0, .int .i64 0, .int .i64 0, .int .i64 0], .int .i64 13]) ?hr rfl ?hp
      case hr => exact res_ps (b := w.heap.size) (Has.put5 R2 rfl _ _ _ _ _) rfl rfl
      case hp =>
        refine ⟨?_, Only.then_ HO2.out (Only.put5 w2 w.heap.size (.int .i64 0) (.int .i64 0) (.int .i64 0) (.int .i64 0) (.int .i64 0)) (fun i hi e => absurd hi (by have : i = w.heap.size := e; omega))⟩
        rw [HE.out]
        rfl
    | false =>
    have HE := Lib.hid (show parseG k false (nb, true) ps = finF ⟨k, nb, 0, 0, 0⟩ by unfold parseG; rw [if_neg (by simp [hk2, hk1]), if_neg hk2])
    have HFG : Cl.check ⟨k, nb, 0, 0, 0⟩ = 0 → finF ⟨k, nb, 0, 0, 0⟩ = (⟨k, nb, 0, 0, 0⟩, 0) := fun h => by unfold finF; rw [if_pos h]
    have HFB : Cl.check ⟨k, nb, 0, 0, 0⟩ ≠ 0 → finF ⟨k, nb, 0, 0, 0⟩ = (zeroCl, Cl.check ⟨k, nb, 0, 0, 0⟩) := fun h => by unfold finF; rw [if_neg h]
    generalize Cl.check ⟨k, nb, 0, 0, 0⟩ = x at *
    replace HX5 := Lib.hid HX5
    replace HFG := Lib.hid HFG
    replace HFB := Lib.hid HFB
    clear hk2
    have c2 : w2.cell? ⟨w.heap.size + 1, 2, none⟩ = some (.int .i64 0) := C2.cell 2
    have c3 : w2.cell? ⟨w.heap.size + 1, 3, none⟩ = some (.int .i64 0) := C2.cell 3
    have c4 : w2.cell? ⟨w.heap.size + 1, 4, none⟩ = some (.int .i64 0) := C2.cell 4
    go_wp2_with fail
    have C3 : Has (w2.setCell ⟨w.heap.size + 1, 1, none⟩ (.int .i64 nb)) (w.heap.size + 1) 23 (clK k nb 0 0 0 0) := C2.put 1 (.int .i64 nb) rfl
    have R3 := R2.far (p := ⟨w.heap.size + 1, 1, none⟩) (by show w.heap.size ≠ w.heap.size + 1; omega) (.int .i64 nb)
    have O3 := HO2.out.setCell ⟨w.heap.size + 1, 1, none⟩ (.int .i64 nb) (fun h => absurd h (by show ¬ w.heap.size + 1 < w.heap.size; omega))
    generalize w2.setCell ⟨w.heap.size + 1, 1, none⟩ (.int .i64 nb) = w3 at *
    refine (HX5.out _).mono ?_; rintro e w6 ⟨rfl, o6⟩
    have C6 := o6.has C3 (fun f => f)
    have R6 := o6.has R3 (fun f => f)
    have O6 := Only.trans O3 o6
    clear c0 c1 c2 c3 c4 cf
    by_cases hx : x = 0
    · subst hx
      have x0 : w6.cell? ⟨w.heap.size + 1, 0, none⟩ = some (.int .i64 k) := C6.cell 0
      have x1 : w6.cell? ⟨w.heap.size + 1, 1, none⟩ = some (.int .i64 nb) := C6.cell 1
      have x2 : w6.cell? ⟨w.heap.size + 1, 2, none⟩ = some (.int .i64 0) := C6.cell 2
      have x3 : w6.cell? ⟨w.heap.size + 1, 3, none⟩ = some (.int .i64 0) := C6.cell 3
      have x4 : w6.cell? ⟨w.heap.size + 1, 4, none⟩ = some (.int .i64 0) := C6.cell 4
      obtain ⟨z0, z1, z2, z3, z4, zf⟩ := Has.facts5 R6
      go_wp2_with fail
      refine bodyPost_ret (v := .tuple #[.agg #[.int .i64 k, .int .i64 nb, .int .i64 0, .int .i64 0, .int .i64 0], .int .i64 0]) ?hr rfl ?hp
      case hr => exact res_ps (b := w.heap.size) (Has.put5 R6 rfl _ _ _ _ _) rfl rfl
      case hp =>
        refine ⟨?_, O6.then_ (Only.put5 w6 w.heap.size (.int .i64 k) (.int .i64 nb) (.int .i64 0) (.int .i64 0) (.int .i64 0)) (fun i hi e => absurd hi (by have : i = w.heap.size := e; omega))⟩
        rw [HE.out, HFG.out (by simp)]
        rfl
    · have hx' : (x != 0) = true := by simpa using hx
      have HXN := Lib.hid hx
      clear hx
      obtain ⟨z0, z1, z2, z3, z4, zf⟩ := Has.facts5 R6
      go_wp2_with fail
      refine bodyPost_ret (v := .tuple #[.agg #[.int .i64 0, .int .i64 0, .int .i64 0, .int .i64 0, .int .i64 0], .int .i64 x]) ?hr rfl ?hp
      case hr => exact res_ps (b := w.heap.size) (Has.put5 R6 rfl _ _ _ _ _) rfl rfl
      case hp =>
        refine ⟨?_, Only.then_ O6 (Only.put5 w6 w.heap.size (.int .i64 0) (.int .i64 0) (.int .i64 0) (.int .i64 0) (.int .i64 0)) (fun i hi e => absurd hi (by have : i = w.heap.size := e; omega))⟩
        rw [HE.out, HFB.out HXN.out]
        rfl

theorem parse_any (w : World) (s : ByteArray) (hm : Ml w) (hs : s.size ≤ 1000000) : Calls Tryd.prog 20 #[.string s] w fun e w' => e = .returned (.tuple #[.agg (parseF s).1.cells, .int .i64 (parseF s).2]) ∧ Only (fun _ => False) w w' := by
  by_cases hb : s = ⟨#[98]⟩
  · rw [parseF_b hb, hb]
    exact parse_b w
  · by_cases h0 : s.size = 0
    · rw [parseF_nil hb h0, show s = ⟨#[]⟩ from ByteArray.ext (Array.eq_empty_of_size_eq_zero h0)]
      exact parse_nil w
    · have hpos : 0 < s.size := by omega
      have hh : s.data.toList.head?.getD 0 = s[0] := by rw [head_byte s hpos]; rfl
      have hE : parseF s = parseG (kindOf s[0]) (cutB s) (numR (cutH s)) (pieces (cutT s)) := by unfold parseF; rw [if_neg hb, if_neg h0, hh]
      rw [hE]
      exact parse_g w s hm hs hb hpos
end Go.Proofs.YtigcfgmblnbleaaDoor
