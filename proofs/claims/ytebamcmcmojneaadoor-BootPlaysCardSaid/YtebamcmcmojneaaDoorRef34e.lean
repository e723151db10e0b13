/- The reference of layer 34: Start, slot a. -/
import Derived.Test.YtebamcmcmojneaaDoorRef34d
set_option linter.unusedSimpArgs false
set_option linter.unusedVariables false
namespace Go.Proofs.YtebamcmcmojneaaDoor
open Go.RowKit Go.Lib

set_option maxRecDepth 100000 in
set_option maxHeartbeats 1000000 in
theorem rstart_a1 (w : World) (a b old : ByteArray) (last : Int) (ha : a.size ≤ 9223372036854775807) (hb : b.size ≤ 9223372036854775807) (c : Int) (hc : max (decV a) (decV b) = c) (hm : c < 1048575) (h0 : 0 ≤ c) (h1 : decV a ≠ c) : Calls Tryd.prog 13 #[rst a b old last] w fun e w' => e = .returned (.tuple #[rst (recS (c + 1)) b a 0, .int .u32 (c + 1), .int .i64 0]) ∧ Only (fun _ => False) w w' := by
  have CR := Lib.hid (fun W => count_ref W a b old last ha hb)
  rw [hc] at CR
  have VA := Lib.hid (fun W => value_ref34 W a ha)
  have b1 : (decV a == c) = false := by simpa using h1
  have RR := Lib.hid (fun W => record_ref W (c + 1) (by omega) (by omega))
  have e1 : IntKind.u32.wrap (c + 1) = c + 1 := by rw [IntKind.wrap_u32]; omega
  have e2 : (c + 1) % 4294967296 = c + 1 := by omega
  clear hc h1
  go_enter Tryd.func13, Tryd.ntmps13
  go_wp2_with fail
  refine (CR.out _).mono ?_
  rintro e w1 ⟨rfl, o1⟩
  have hx : RAtS w1 w.heap.size a b old last := o1.has ((Has.new w _ _).alloc _) (fun f => f)
  have hr : RAtS w1 (w.heap.size + 1) ⟨#[]⟩ ⟨#[]⟩ ⟨#[]⟩ 0 := o1.has (by
    have := Has.new (w.alloc (.cells #[.string a, .string b, .int .i64 last, .string old] 43)) 43 #[.string ⟨#[]⟩, .string ⟨#[]⟩, .int .i64 0, .string ⟨#[]⟩]
    simpa using this) (fun f => f)
  have x0 : w1.cell? ⟨w.heap.size, 0, none⟩ = some (.string a) := hx.cell 0
  go_wp2_with fail
  refine (VA.out _).mono ?_
  rintro e w2 ⟨rfl, o2⟩
  have hx2 : RAtS w2 w.heap.size a b old last := o2.has hx (fun f => f)
  have hr2 : RAtS w2 (w.heap.size + 1) ⟨#[]⟩ ⟨#[]⟩ ⟨#[]⟩ 0 := o2.has hr (fun f => f)
  have y0 : w2.cell? ⟨w.heap.size, 0, none⟩ = some (.string a) := hx2.cell 0
  have y1 : w2.cell? ⟨w.heap.size, 1, none⟩ = some (.string b) := hx2.cell 1
  go_wp2_with fail
  have hx2d := hx2.drew
  have hr2d := hr2.drew
  go_region_with (go_at_call 21; (with_reducible refine (RR.out _).mono ?_); rintro e w3 ⟨rfl, o3⟩; have hx3 := o3.has hx2d (fun f => f); have hr3 := o3.has hr2d (fun f => f); have z0 : w3.cell? ⟨w.heap.size, 0, none⟩ = some (.string a) := hx3.cell 0; have z1 : w3.cell? ⟨w.heap.size, 1, none⟩ = some (.string b) := hx3.cell 1; have r0 : w3.cell? ⟨w.heap.size + 1, 0, none⟩ = some (.string ⟨#[]⟩) := hr3.cell 0; have r1 : w3.cell? ⟨w.heap.size + 1, 1, none⟩ = some (.string ⟨#[]⟩) := hr3.cell 1; have r2 : w3.cell? ⟨w.heap.size + 1, 2, none⟩ = some (.int .i64 0) := hr3.cell 2; have r3 : w3.cell? ⟨w.heap.size + 1, 3, none⟩ = some (.string ⟨#[]⟩) := hr3.cell 3; have rf := hr3.free)
  go_wp2_with fail
  all_goals
    refine bodyPost_ret (v := .tuple #[rst (recS (c + 1)) b a 0, .int .u32 (c + 1), .int .i64 0]) ?hr rfl ?hp
    case hr =>
      refine res_rst (b := w.heap.size + 1) ?_ rfl rfl rfl
      exact hr3.put4 rfl _ _ _ _
    case hp =>
      exact ⟨rfl, ((((Only.refl (fun _ => False) w).alloc _).alloc _ |>.trans o1).trans o2 |>.drew.trans o3).then_ (Only.put4 w3 (w.heap.size + 1) (.string (recS (c + 1))) (.string b) (.int .i64 0) (.string a)) (fun i hi e => absurd hi (by have : i = w.heap.size + 1 := e; omega))⟩
set_option maxRecDepth 100000 in
set_option maxHeartbeats 1000000 in
theorem rstart_a2 (w : World) (a b old : ByteArray) (last : Int) (ha : a.size ≤ 9223372036854775807) (hb : b.size ≤ 9223372036854775807) (c : Int) (hc : max (decV a) (decV b) = c) (hm : c < 1048575) (h0 : 0 ≤ c) (h1 : decV a = c) (h2 : c ≤ 0) : Calls Tryd.prog 13 #[rst a b old last] w fun e w' => e = .returned (.tuple #[rst (recS (c + 1)) b a 0, .int .u32 (c + 1), .int .i64 0]) ∧ Only (fun _ => False) w w' := by
  have CR := Lib.hid (fun W => count_ref W a b old last ha hb)
  rw [hc] at CR
  have VA := Lib.hid (fun W => value_ref34 W a ha)
  rw [h1] at VA
  have RR := Lib.hid (fun W => record_ref W (c + 1) (by omega) (by omega))
  have e1 : IntKind.u32.wrap (c + 1) = c + 1 := by rw [IntKind.wrap_u32]; omega
  have e2 : (c + 1) % 4294967296 = c + 1 := by omega
  clear hc h1
  go_enter Tryd.func13, Tryd.ntmps13
  go_wp2_with fail
  refine (CR.out _).mono ?_
  rintro e w1 ⟨rfl, o1⟩
  have hx : RAtS w1 w.heap.size a b old last := o1.has ((Has.new w _ _).alloc _) (fun f => f)
  have hr : RAtS w1 (w.heap.size + 1) ⟨#[]⟩ ⟨#[]⟩ ⟨#[]⟩ 0 := o1.has (by
    have := Has.new (w.alloc (.cells #[.string a, .string b, .int .i64 last, .string old] 43)) 43 #[.string ⟨#[]⟩, .string ⟨#[]⟩, .int .i64 0, .string ⟨#[]⟩]
    simpa using this) (fun f => f)
  have x0 : w1.cell? ⟨w.heap.size, 0, none⟩ = some (.string a) := hx.cell 0
  go_wp2_with fail
  refine (VA.out _).mono ?_
  rintro e w2 ⟨rfl, o2⟩
  have hx2 : RAtS w2 w.heap.size a b old last := o2.has hx (fun f => f)
  have hr2 : RAtS w2 (w.heap.size + 1) ⟨#[]⟩ ⟨#[]⟩ ⟨#[]⟩ 0 := o2.has hr (fun f => f)
  have y0 : w2.cell? ⟨w.heap.size, 0, none⟩ = some (.string a) := hx2.cell 0
  have y1 : w2.cell? ⟨w.heap.size, 1, none⟩ = some (.string b) := hx2.cell 1
  go_wp2_with fail
  have hx2d := hx2.drew
  have hr2d := hr2.drew
  go_region_with (go_at_call 21; (with_reducible refine (RR.out _).mono ?_); rintro e w3 ⟨rfl, o3⟩; have hx3 := o3.has hx2d (fun f => f); have hr3 := o3.has hr2d (fun f => f); have z0 : w3.cell? ⟨w.heap.size, 0, none⟩ = some (.string a) := hx3.cell 0; have z1 : w3.cell? ⟨w.heap.size, 1, none⟩ = some (.string b) := hx3.cell 1; have r0 : w3.cell? ⟨w.heap.size + 1, 0, none⟩ = some (.string ⟨#[]⟩) := hr3.cell 0; have r1 : w3.cell? ⟨w.heap.size + 1, 1, none⟩ = some (.string ⟨#[]⟩) := hr3.cell 1; have r2 : w3.cell? ⟨w.heap.size + 1, 2, none⟩ = some (.int .i64 0) := hr3.cell 2; have r3 : w3.cell? ⟨w.heap.size + 1, 3, none⟩ = some (.string ⟨#[]⟩) := hr3.cell 3; have rf := hr3.free)
  go_wp2_with fail
  all_goals
    refine bodyPost_ret (v := .tuple #[rst (recS (c + 1)) b a 0, .int .u32 (c + 1), .int .i64 0]) ?hr rfl ?hp
    case hr =>
      refine res_rst (b := w.heap.size + 1) ?_ rfl rfl rfl
      exact hr3.put4 rfl _ _ _ _
    case hp =>
      exact ⟨rfl, ((((Only.refl (fun _ => False) w).alloc _).alloc _ |>.trans o1).trans o2 |>.drew.trans o3).then_ (Only.put4 w3 (w.heap.size + 1) (.string (recS (c + 1))) (.string b) (.int .i64 0) (.string a)) (fun i hi e => absurd hi (by have : i = w.heap.size + 1 := e; omega))⟩
end Go.Proofs.YtebamcmcmojneaaDoor
