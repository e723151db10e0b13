/- bitmul: the law's of, short, is; word, Shares. -/
import Derived.Test.YthkgjhjfgoglhaaDoorBm
import Derived.Maps.AppendAt
import Derived.OwnWalk
set_option linter.unusedSimpArgs false
set_option linter.unusedVariables false
namespace Go.Proofs.YthkgjhjfgoglhaaDoor
open Go.RowKit

theorem res_ofp {W : World} {b : Nat} {x0 x1 x2 x3 x4 x5 : Value} {tm : Array Value} (h : Has W b 32 #[x0, x1, x2, x3, x4, x5]) (h8 : tm.getD 2 undef = .pointer (some ⟨b, 0, none⟩)) :
    (results Tryd.f12 tm).run Tryd.prog W = .ok (.agg #[x0, x1, x2, x3, x4, x5]) W := by
  obtain ⟨c0, c1, c2, c3, c4, c5, _⟩ := h.facts6
  simp only [Array.getD_eq_getD_getElem?] at h8
  simp [results, Tryd.results12, go_sem, h8, c0, c1, c2, c3, c4, c5]
theorem part_facts {w : World} {b : Nat} {x0 x1 x2 : Value} (h : Has w b 39 #[x0, x1, x2]) : w.cell? ⟨b, 0, none⟩ = some x0 ∧ w.cell? ⟨b, 1, none⟩ = some x1 ∧ w.cell? ⟨b, 2, none⟩ = some x2 := ⟨h.cell 0, h.cell 1, h.cell 2⟩
abbrev ZPart (w : World) (b : Nat) : Prop := Has w b 32 #[.int .i64 0, .slice none 0 0, .int .i64 0, .slice none 0 0, .int .i64 0, .slice none 0 0]
set_option maxRecDepth 100000 in
set_option maxHeartbeats 4000000 in
theorem of_any (w : World) (v : Value) (p : Pt) (h : RefP w v p) (h1 : p.a.length ≤ 4194304) (h2 : p.b.length ≤ 4194304) (h3 : p.c.length ≤ 4194304) : Calls Tryd.prog 12 #[v] w fun x w' => (∃ u, x = .returned u ∧ PartV w' w.heap.size u p) ∧ Only (fun _ => False) w w' := by
  obtain ⟨a, b, c⟩ := p
  obtain ⟨sa, sb, sc, rfl, ra, rb, rc⟩ := h
  obtain ⟨A1, d1, rfl, _⟩ := ra.shape
  obtain ⟨A2, d2, rfl, _⟩ := rb.shape
  obtain ⟨A3, d3, rfl, _⟩ := rc.shape
  simp only [bcellsB_length] at *
  have HA := Lib.hid (fun W (o : Only (fun _ => False) w W) => vec_any W _ a (ra.inner o) h1)
  have HB := Lib.hid (fun W (o : Only (fun _ => False) w W) => vec_any W _ b (rb.inner o) h2)
  have HC := Lib.hid (fun W (o : Only (fun _ => False) w W) => vec_any W _ c (rc.inner o) h3)
  clear ra rb rc h1 h2 h3
  have B2 : Has ((w.alloc (.cells #[.slice A1 a.length d1, .slice A2 b.length d2, .slice A3 c.length d3] 39)).alloc (.cells #[.int .i64 0, .slice none 0 0, .int .i64 0, .slice none 0 0, .int .i64 0, .slice none 0 0] 32)).drew w.heap.size 39 #[.slice A1 a.length d1, .slice A2 b.length d2, .slice A3 c.length d3] := ((Has.new _ _ _).alloc _).drew
  have Z2 : ZPart ((w.alloc (.cells #[.slice A1 a.length d1, .slice A2 b.length d2, .slice A3 c.length d3] 39)).alloc (.cells #[.int .i64 0, .slice none 0 0, .int .i64 0, .slice none 0 0, .int .i64 0, .slice none 0 0] 32)).drew (w.heap.size + 1) := (has_new2 _ _ _ _).drew
  have O2 : Only (fun _ => False) w ((w.alloc (.cells #[.slice A1 a.length d1, .slice A2 b.length d2, .slice A3 c.length d3] 39)).alloc (.cells #[.int .i64 0, .slice none 0 0, .int .i64 0, .slice none 0 0, .int .i64 0, .slice none 0 0] 32)).drew := (((Only.refl _ _).alloc _).alloc _).drew
  have HS2 := Lib.hid (show ((w.alloc (.cells #[.slice A1 a.length d1, .slice A2 b.length d2, .slice A3 c.length d3] 39)).alloc (.cells #[.int .i64 0, .slice none 0 0, .int .i64 0, .slice none 0 0, .int .i64 0, .slice none 0 0] 32)).drew.heap.size = w.heap.size + 2 by simp)
  go_enter Tryd.func12, Tryd.ntmps12
  go_wp2_with fail
  go_region_held3 (fun W => (W.cell? ⟨w.heap.size, 0, none⟩ = some (.slice A1 a.length d1) ∧ W.cell? ⟨w.heap.size, 1, none⟩ = some (.slice A2 b.length d2) ∧ W.cell? ⟨w.heap.size, 2, none⟩ = some (.slice A3 c.length d3))) (first | (with_reducible exact part_facts (by assumption)) | exact part_facts (Bc.off6 (by omega) _ _ _ _ _ _)) (first
    | (go_at_call 28; (with_reducible refine (HA.out _ (by assumption)).mono ?_); rintro e wa ⟨⟨va, rfl, hva⟩, oa⟩; have Ba : Has wa w.heap.size 39 _ := Only.has oa B2 (fun f => f); have Za : ZPart wa (w.heap.size + 1) := Only.has oa Z2 (fun f => f); have Oa := O2.trans oa; (obtain ⟨Aa, ma, ca, rfl⟩ := hva.shape))
    | (go_at_call 28; (with_reducible refine (HB.out _ (by assumption)).mono ?_); rintro e wb ⟨⟨vb, rfl, hvb⟩, ob⟩; have Bb : Has wb w.heap.size 39 _ := Only.has ob Ba (fun f => f); have Zb : ZPart wb (w.heap.size + 1) := Only.has ob Za (fun f => f); have Ob := Oa.trans ob; (obtain ⟨Ab, mb, cb, rfl⟩ := hvb.shape))
    | (go_at_call 28; (with_reducible refine (HC.out _ (by assumption)).mono ?_); rintro e wc ⟨⟨vc, rfl, hvc⟩, oc⟩; have Bc : Has wc w.heap.size 39 _ := Only.has oc Bb (fun f => f); have Zc : ZPart wc (w.heap.size + 1) := Only.has oc Zb (fun f => f); have Oc := Ob.trans oc; (obtain ⟨Ac, mc, cc, rfl⟩ := hvc.shape); (obtain ⟨z0, z1, z2, z3, z4, z5, zf⟩ := Zc.facts6)))
  go_wp2_with fail
  refine bodyPost_ret (v := .agg #[.int .i64 a.length, .slice Aa ma ca, .int .i64 b.length, .slice Ab mb cb, .int .i64 c.length, .slice Ac mc cc]) ?hr rfl ?hp
  case hr => exact res_ofp (b := w.heap.size + 1) (Has.put6 Zc rfl _ _ _ _ _ _) rfl
  case hp =>
    have hsa : w.heap.size + 2 ≤ wa.heap.size := by have h := oa.size; rw [HS2.out] at h; exact h
    have hsb := ob.size
    rw [HS2.out] at hva
    refine ⟨⟨_, rfl, Aa, ma, ca, Ab, mb, cb, Ac, mc, cc, rfl, ?_, ?_, ?_⟩, Oc.then_ (Only.put6 _ (w.heap.size + 1) (.int .i64 a.length) (.slice Aa ma ca) (.int .i64 b.length) (.slice Ab mb cb) (.int .i64 c.length) (.slice Ac mc cc)) (fun i hi e => absurd hi (by have : i = w.heap.size + 1 := e; omega))⟩
    · exact (VL.put (hva.inner (ob.trans oc)) (Only.put6 _ (w.heap.size + 1) _ _ _ _ _ _) (by omega)).mono (by omega)
    · exact (VL.put (hvb.inner oc) (Only.put6 _ (w.heap.size + 1) _ _ _ _ _ _) (by omega)).mono (by omega)
    · exact (VL.put hvc (Only.put6 _ (w.heap.size + 1) _ _ _ _ _ _) (by omega)).mono (by omega)

def bitN (b : Bool) : Int := if b = true then 1 else 0
end Go.Proofs.YthkgjhjfgoglhaaDoor
