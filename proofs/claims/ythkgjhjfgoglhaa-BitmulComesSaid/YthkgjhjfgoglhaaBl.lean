/- bitmul: the law's of, short, is; word, Shares. -/
import Derived.Test.YthkgjhjfgoglhaaBm
import Derived.Maps.AppendAt
import Derived.OwnWalk
set_option linter.unusedSimpArgs false
set_option linter.unusedVariables false
namespace Go.Proofs.Ythkgjhjfgoglhaa
open Go.RowKit

theorem res_ofp {W : World} {b : Nat} {x0 x1 x2 x3 x4 x5 : Value} {tm : Array Value} (h : Has W b 34 #[x0, x1, x2, x3, x4, x5]) (h8 : tm.getD 2 undef = .pointer (some ⟨b, 0, none⟩)) :
    (results Try.f9 tm).run Try.prog W = .ok (.agg #[x0, x1, x2, x3, x4, x5]) W := by
  obtain ⟨c0, c1, c2, c3, c4, c5, _⟩ := h.facts6
  simp only [Array.getD_eq_getD_getElem?] at h8
  simp [results, Try.results9, go_sem, h8, c0, c1, c2, c3, c4, c5]
theorem part_facts {w : World} {b : Nat} {x0 x1 x2 : Value} (h : Has w b 24 #[x0, x1, x2]) : w.cell? ⟨b, 0, none⟩ = some x0 ∧ w.cell? ⟨b, 1, none⟩ = some x1 ∧ w.cell? ⟨b, 2, none⟩ = some x2 := ⟨h.cell 0, h.cell 1, h.cell 2⟩
abbrev ZPart (w : World) (b : Nat) : Prop := Has w b 34 #[.int .i64 0, .slice none 0 0, .int .i64 0, .slice none 0 0, .int .i64 0, .slice none 0 0]
set_option maxRecDepth 100000 in
set_option maxHeartbeats 4000000 in
theorem of_any (w : World) (v : Value) (p : Pt) (h : RefP w v p) (h1 : p.a.length ≤ 4194304) (h2 : p.b.length ≤ 4194304) (h3 : p.c.length ≤ 4194304) : Calls Try.prog 9 #[v] w fun x w' => (∃ u, x = .returned u ∧ PartV w' w.heap.size u p) ∧ Only (fun _ => False) w w' := by
  obtain ⟨a, b, c⟩ := p
  obtain ⟨sa, sb, sc, rfl, ra, rb, rc⟩ := h
  obtain ⟨A1, d1, rfl, _⟩ := ra.shape
  obtain ⟨A2, d2, rfl, _⟩ := rb.shape
  obtain ⟨A3, d3, rfl, _⟩ := rc.shape
  simp only [bcellsB_length] at *
  have HA := Lib.hid (fun W (o : Only (fun _ => False) w W) => vec_any W _ a (ra.inner o) h1)
  have HB := Lib.hid (fun W (o : Only (fun _ => False) w W) => vec_any W _ b (rb.inner o) h2)
  have HC := Lib.hid (fun W (o : Only (fun _ => False) w W) => vec_any W _ c (rc.inner o) h3)
  clear ra rb rc h1 h2 h3
  have B2 : Has ((w.alloc (.cells #[.slice A1 a.length d1, .slice A2 b.length d2, .slice A3 c.length d3] 24)).alloc (.cells #[.int .i64 0, .slice none 0 0, .int .i64 0, .slice none 0 0, .int .i64 0, .slice none 0 0] 34)).drew w.heap.size 24 #[.slice A1 a.length d1, .slice A2 b.length d2, .slice A3 c.length d3] := ((Has.new _ _ _).alloc _).drew
  have Z2 : ZPart ((w.alloc (.cells #[.slice A1 a.length d1, .slice A2 b.length d2, .slice A3 c.length d3] 24)).alloc (.cells #[.int .i64 0, .slice none 0 0, .int .i64 0, .slice none 0 0, .int .i64 0, .slice none 0 0] 34)).drew (w.heap.size + 1) := (has_new2 _ _ _ _).drew
  have O2 : Only (fun _ => False) w ((w.alloc (.cells #[.slice A1 a.length d1, .slice A2 b.length d2, .slice A3 c.length d3] 24)).alloc (.cells #[.int .i64 0, .slice none 0 0, .int .i64 0, .slice none 0 0, .int .i64 0, .slice none 0 0] 34)).drew := (((Only.refl _ _).alloc _).alloc _).drew
  have HS2 := Lib.hid (show ((w.alloc (.cells #[.slice A1 a.length d1, .slice A2 b.length d2, .slice A3 c.length d3] 24)).alloc (.cells #[.int .i64 0, .slice none 0 0, .int .i64 0, .slice none 0 0, .int .i64 0, .slice none 0 0] 34)).drew.heap.size = w.heap.size + 2 by simp)
  go_enter Try.func9, Try.ntmps9
  go_wp2_with fail
  go_region_held3 (fun W => (W.cell? ⟨w.heap.size, 0, none⟩ = some (.slice A1 a.length d1) ∧ W.cell? ⟨w.heap.size, 1, none⟩ = some (.slice A2 b.length d2) ∧ W.cell? ⟨w.heap.size, 2, none⟩ = some (.slice A3 c.length d3))) (first | (with_reducible exact part_facts (by assumption)) | exact part_facts (Bc.off6 (by omega) _ _ _ _ _ _)) (first
    | (go_at_call 16; (with_reducible refine (HA.out _ (by assumption)).mono ?_); rintro e wa ⟨⟨va, rfl, hva⟩, oa⟩; have Ba : Has wa w.heap.size 24 _ := Only.has oa B2 (fun f => f); have Za : ZPart wa (w.heap.size + 1) := Only.has oa Z2 (fun f => f); have Oa := O2.trans oa; (obtain ⟨Aa, ma, ca, rfl⟩ := hva.shape))
    | (go_at_call 16; (with_reducible refine (HB.out _ (by assumption)).mono ?_); rintro e wb ⟨⟨vb, rfl, hvb⟩, ob⟩; have Bb : Has wb w.heap.size 24 _ := Only.has ob Ba (fun f => f); have Zb : ZPart wb (w.heap.size + 1) := Only.has ob Za (fun f => f); have Ob := Oa.trans ob; (obtain ⟨Ab, mb, cb, rfl⟩ := hvb.shape))
    | (go_at_call 16; (with_reducible refine (HC.out _ (by assumption)).mono ?_); rintro e wc ⟨⟨vc, rfl, hvc⟩, oc⟩; have Bc : Has wc w.heap.size 24 _ := Only.has oc Bb (fun f => f); have Zc : ZPart wc (w.heap.size + 1) := Only.has oc Zb (fun f => f); have Oc := Ob.trans oc; (obtain ⟨Ac, mc, cc, rfl⟩ := hvc.shape); (obtain ⟨z0, z1, z2, z3, z4, z5, zf⟩ := Zc.facts6)))
  go_wp2_with fail
  refine bodyPost_ret (v := .agg #[.int .i64 a.length, .slice Aa ma ca, .int .i64 b.length, .slice Ab mb cb, .int .i64 c.length, .slice Ac mc cc]) ?hr rfl ?hp
  case hr => exact res_ofp (b := w.heap.size + 1) (Has.put6 Zc rfl _ _ _ _ _ _) rfl
  case hp =>
    have hsa : w.heap.size + 2 ≤ wa.heap.size := by have h := oa.size; rw [HS2.out] at h; exact h
    have hsb := ob.size
    rw [HS2.out] at hva
    refine ⟨⟨_, rfl, Aa, ma, ca, Ab, mb, cb, Ac, mc, cc, rfl, ?_, ?_, ?_⟩, Oc.then_ (Only.put6 _ (w.heap.size + 1) (.int .i64 a.length) (.slice Aa ma ca) (.int .i64 b.length) (.slice Ab mb cb) (.int .i64 c.length) (.slice Ac mc cc)) (fun i hi e => absurd hi (by have : i = w.heap.size + 1 := e; omega))⟩
    · exact (VL.put (hva.inner (ob.trans oc)) (Only.put6 _ (w.heap.size + 1) _ _ _ _ _ _) (by omega)).mono (by omega)
    · exact (VL.put (hvb.inner oc) (Only.put6 _ (w.heap.size + 1) _ _ _ _ _ _) (by omega)).mono (by omega)
    · exact (VL.put hvc (Only.put6 _ (w.heap.size + 1) _ _ _ _ _ _) (by omega)).mono (by omega)

def shortB (p : Pt) : Bool := decide (p.a.length ≤ 300) && decide (p.b.length ≤ 300) && decide (p.c.length ≤ 300)
set_option maxRecDepth 100000 in
theorem short_any (w : World) (v : Value) (p : Pt) (h : RefP w v p) : Calls Try.prog 6 #[v] w fun x w' => x = .returned (.bool (shortB p)) ∧ Only (fun _ => False) w w' := by
  obtain ⟨a, b, c⟩ := p
  obtain ⟨sa, sb, sc, rfl, ra, rb, rc⟩ := h
  obtain ⟨A1, d1, rfl, _⟩ := ra.shape
  obtain ⟨A2, d2, rfl, _⟩ := rb.shape
  obtain ⟨A3, d3, rfl, _⟩ := rc.shape
  simp only [bcellsB_length] at *
  have hr : shortB ⟨a, b, c⟩ = (decide ((a.length : Int) ≤ 300) && decide ((b.length : Int) ≤ 300) && decide ((c.length : Int) ≤ 300)) := by
    unfold shortB
    simp only
    congr 1
    · congr 1
      · exact decide_eq_decide.2 (by omega)
      · exact decide_eq_decide.2 (by omega)
    · exact decide_eq_decide.2 (by omega)
  have HR := Lib.hid hr
  clear hr ra rb rc
  generalize a.length = na at *
  generalize b.length = nb at *
  generalize c.length = nc at *
  by_cases h1 : (na : Int) ≤ 300
  all_goals by_cases h2 : (nb : Int) ≤ 300
  all_goals by_cases h3 : (nc : Int) ≤ 300
  all_goals
    first | (have H1 := Lib.hid (decide_eq_false h1)) | (have H1 := Lib.hid (decide_eq_true h1))
    first | (have H2 := Lib.hid (decide_eq_false h2)) | (have H2 := Lib.hid (decide_eq_true h2))
    first | (have H3 := Lib.hid (decide_eq_false h3)) | (have H3 := Lib.hid (decide_eq_true h3))
    go_enter Try.func6, Try.ntmps6
    go_wp2_with fail
    go_ret
    refine ⟨?_, (Only.refl _ _).alloc _⟩
    rw [HR.out]
    simp only [H1.out, H2.out, H3.out, Bool.and_self, Bool.and_true, Bool.and_false, Bool.false_and, Bool.true_and]
    rfl
def bitN (b : Bool) : Int := if b = true then 1 else 0
theorem is_any (w : World) (g n c : Nat) (b : Bool) (h : Has w g 70 #[.int .u64 (bitN b)]) : Calls Try.prog 14 #[.slice (some ⟨g, 0, none⟩) 1 c, .bool b] w fun x w' => x = .returned (.bool true) ∧ w = w' := by
  have c0 := h.cell 0
  clear h
  cases b
  all_goals
    simp only [bitN] at c0
    have c0' : w.cell? ⟨g, 0, none⟩ = _ := c0
    simp at c0'
    clear c0
    go_enter Try.func14, Try.ntmps14
    go_wp2_with fail
    go_ret
    exact ⟨rfl, rfl⟩
theorem bword_any (w : World) (base i : Nat) (v : Value) (l : List Bool) (h : VL w base v l) (hl : l.length ≤ 4194304) (hi : i < l.length) : Calls Try.prog 31 #[v, .int .i64 i] w fun x w' => (∃ g, x = .returned (.slice (some ⟨g, 0, none⟩) 1 1) ∧ w.heap.size ≤ g ∧ Has w' g 70 #[.int .u64 (bitN (lf l i))]) ∧ Only (fun _ => False) w w' := by
  obtain ⟨A, m, c, rfl⟩ := h.shape
  have HG := fun W (o : Only (fun _ => False) w W) => bget_any W base l.length i _ (lf l) (h.inner o) hl (by omega)
  simp only [decide_eq_true hi, Bool.true_and] at HG
  have HG := Lib.hid HG
  have B1 : Has (w.alloc (.cells #[.int .i64 l.length, .slice A m c] 29)) w.heap.size 29 #[.int .i64 l.length, .slice A m c] := Has.new _ _ _
  have O1 : Only (fun _ => False) w (w.alloc (.cells #[.int .i64 l.length, .slice A m c] 29)) := (Only.refl _ _).alloc _
  clear h
  obtain ⟨b0, b1, _⟩ := B1.facts2
  cases hb : lf l i
  all_goals
    rw [hb] at HG
    go_enter Try.func31, Try.ntmps31
    go_wp2_with fail
    refine (HG.out _ O1).mono ?_; rintro e w2 ⟨rfl, o2⟩
    have O2 := O1.trans o2
    go_wp2_with fail
    go_ret
    exact ⟨⟨w2.heap.size, rfl, O2.size, Has.new _ _ _⟩, O2.alloc _⟩
end Go.Proofs.Ythkgjhjfgoglhaa
