/- The reference of layer 34: Count. -/
import Derived.Test.YtebamcmcmojneaaDoorRef34
set_option linter.unusedSimpArgs false
set_option linter.unusedVariables false
namespace Go.Proofs.YtebamcmcmojneaaDoor
open Go.RowKit Go.Lib

abbrev RAtS (w : World) (p : Nat) (a b old : ByteArray) (last : Int) : Prop := Has w p 43 #[.string a, .string b, .int .i64 last, .string old]
theorem rheld {w X W : World} {p : Nat} {a b old : ByteArray} {last : Int} (o : Only (fun _ => False) X W)
    (h : (X.cell? ⟨p, 0, none⟩ = some (.string a) ∧ X.cell? ⟨p, 1, none⟩ = some (.string b)) ∧ RAtS X p a b old last ∧ Only (fun _ => False) w X) :
    (W.cell? ⟨p, 0, none⟩ = some (.string a) ∧ W.cell? ⟨p, 1, none⟩ = some (.string b)) ∧ RAtS W p a b old last ∧ Only (fun _ => False) w W := by
  have hh := o.has h.2.1 (fun f => f)
  exact ⟨⟨hh.cell 0, hh.cell 1⟩, hh, h.2.2.trans o⟩
theorem rheld_new {w X : World} {p : Nat} {a b old : ByteArray} {last : Int} (h : RAtS X p a b old last) (o : Only (fun _ => False) w X) :
    (X.cell? ⟨p, 0, none⟩ = some (.string a) ∧ X.cell? ⟨p, 1, none⟩ = some (.string b)) ∧ RAtS X p a b old last ∧ Only (fun _ => False) w X := ⟨⟨h.cell 0, h.cell 1⟩, h, o⟩

set_option maxRecDepth 100000 in
set_option maxHeartbeats 1000000 in
theorem count_ref (w : World) (a b old : ByteArray) (last : Int) (ha : a.size ≤ 9223372036854775807) (hb : b.size ≤ 9223372036854775807) : Calls Tryd.prog 14 #[.agg #[.string a, .string b, .int .i64 last, .string old]] w fun e w' => e = .returned (.int .u32 (max (decV a) (decV b))) ∧ Only (fun _ => False) w w' := by
  have VA := Lib.hid (fun W => value_ref34 W a ha)
  have VB := Lib.hid (fun W => value_ref34 W b hb)
  have k0 : RAtS (w.alloc (.cells #[.string a, .string b, .int .i64 last, .string old] 43)) w.heap.size a b old last := Has.new _ _ _
  have k1 := k0.drew
  have k2 := ((Only.refl (fun _ => False) w).alloc (.cells #[.string a, .string b, .int .i64 last, .string old] 43)).drew
  clear k0
  by_cases h : decV b < decV a
  · rw [show max (decV a) (decV b) = decV a by omega]
    go_enter Tryd.func14, Tryd.ntmps14
    go_wp2_with fail
    go_region_held3 (fun W => (W.cell? ⟨w.heap.size, 0, none⟩ = some (.string a) ∧ W.cell? ⟨w.heap.size, 1, none⟩ = some (.string b)) ∧ RAtS W w.heap.size a b old last ∧ Only (fun _ => False) w W) (first | exact rheld_new k1 k2 | exact rheld (by assumption) (rheld_new k1 k2) | exact rheld (by assumption) (rheld (by assumption) (rheld_new k1 k2))) (first | (go_at_call_of 20 (Value.string a); refine (VA.out _).mono ?_; rintro e w1 ⟨rfl, o1⟩) | (go_at_call_of 20 (Value.string b); refine (VB.out _).mono ?_; rintro e w1 ⟨rfl, o1⟩))
    rename_i hS
    obtain ⟨⟨c0, c1⟩, hh, O⟩ := hS
    go_wp2_with fail
    refine (VA.out _).mono ?_
    rintro e a3 ⟨rfl, o3⟩
    go_wp2_with fail
    go_ret
    exact ⟨rfl, O.trans o3⟩
  · rw [show max (decV a) (decV b) = decV b by omega]
    go_enter Tryd.func14, Tryd.ntmps14
    go_wp2_with fail
    go_region_held3 (fun W => (W.cell? ⟨w.heap.size, 0, none⟩ = some (.string a) ∧ W.cell? ⟨w.heap.size, 1, none⟩ = some (.string b)) ∧ RAtS W w.heap.size a b old last ∧ Only (fun _ => False) w W) (first | exact rheld_new k1 k2 | exact rheld (by assumption) (rheld_new k1 k2) | exact rheld (by assumption) (rheld (by assumption) (rheld_new k1 k2))) (first | (go_at_call_of 20 (Value.string a); refine (VA.out _).mono ?_; rintro e w1 ⟨rfl, o1⟩) | (go_at_call_of 20 (Value.string b); refine (VB.out _).mono ?_; rintro e w1 ⟨rfl, o1⟩))
    rename_i hS
    obtain ⟨⟨c0, c1⟩, hh, O⟩ := hS
    go_wp2_with fail
    refine (VB.out _).mono ?_
    rintro e a3 ⟨rfl, o3⟩
    go_wp2_with fail
    go_ret
    exact ⟨rfl, O.trans o3⟩
end Go.Proofs.YtebamcmcmojneaaDoor
