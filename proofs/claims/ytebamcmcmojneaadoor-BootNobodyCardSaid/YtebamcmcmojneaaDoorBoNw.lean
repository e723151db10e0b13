/- Chapter 34: BootNobody walked. -/
import Derived.Test.YtebamcmcmojneaaDoorBoN
import Derived.Test.YtebamcmcmojneaaDoorBoA
set_option linter.unusedSimpArgs false
set_option linter.unusedVariables false
namespace Go.Proofs.YtebamcmcmojneaaDoor
open Go.RowKit Go.Lib

set_option maxRecDepth 100000 in
set_option maxHeartbeats 2000000 in
theorem nobody_any (w : World) (keep : Int) (hE : Et w) : Calls Tryd.prog 3 #[.int .i64 keep] w fun e w' => e = .returned (.bool true) ∧ Only (fun _ => False) w w' := by
  have HAW := Lib.hid awake_any
  go_enter Tryd.func3, Tryd.ntmps3
  go_wp2_with fail
  go_loopw [13] (fun i W => ∃ (k : Nat), k ≤ 2 ∧ i = .int .i64 k ∧ Has W (w.heap.size + 1) 22 #[.pointer none, .pointer (some ⟨w.heap.size, 0, none⟩)] ∧ Unmade W w.heap.size ∧ Only (fun _ => False) w W) (fun i _ => 2 - (intOf i).toNat)
  case atStart =>
    refine ⟨0, by omega, rfl, ?_, (Has.new w _ _).alloc _, ((Only.refl _ _).alloc _).alloc _⟩
    have hn := Has.new (w.alloc (.cells #[.string ⟨#[]⟩, .string ⟨#[]⟩, .int .i64 0, .string ⟨#[]⟩, .bool false] 25)) 22 #[.pointer none, .pointer (some ⟨w.heap.size, 0, none⟩)]
    simpa using hn
  case round =>
    obtain ⟨k, hk, rfl, hsl, hun, ho⟩ := hrel
    have hEr := hE.only ho (fun f => f)
    have e0 : wr.cell? ⟨w.heap.size + 1, 0, none⟩ = some (.pointer none) := hsl.cell 0
    have e1 : wr.cell? ⟨w.heap.size + 1, 1, none⟩ = some (.pointer (some ⟨w.heap.size, 0, none⟩)) := hsl.cell 1
    have hkk : k = 0 ∨ k = 1 ∨ k = 2 := by omega
    rcases hkk with rfl | rfl | rfl
    · go_wp2_with fail
      refine (tear_nil _ _).mono ?_
      rintro e w2 ⟨rfl, o2⟩
      go_wp2_with fail
      refine (start_nil _).mono ?_
      rintro e w3 ⟨g, s, rfl, hg, o3⟩
      go_wp2_with fail
      refine (records_nil _).mono ?_
      rintro e w4 ⟨rfl, o4⟩
      have hg4 := o4.has hg (fun f => f)
      have oo := ((ho.then_ o2 (fun _ _ f => f)).then_ o3 (fun _ _ f => f)).then_ o4 (fun _ _ f => f)
      have hE4 := hE.only oo (fun f => f)
      go_wp2_with fail
      refine (code_new _ g 3 s hg4 hE4).mono ?_
      rintro e w5 ⟨rfl, o5⟩
      go_wp2_with fail
      refine (count_nil _).mono ?_
      rintro e w6 ⟨rfl, o6⟩
      have o7 := (oo.then_ o5 (fun _ _ f => f)).then_ o6 (fun _ _ f => f)
      have q7 := ((((o2.then_ o3 (fun _ _ f => f)).then_ o4 (fun _ _ f => f)).then_ o5 (fun _ _ f => f)).then_ o6 (fun _ _ f => f))
      go_wp2_with fail
      go_roundw
      case rel => exact ⟨1, by omega, rfl, q7.has hsl (fun f => f), q7.has hun (fun f => f), o7⟩
      case measure => simp [intOf]
    · go_wp2_with fail
      refine (tear_unmade _ _ _ hun).mono ?_
      rintro e w2 ⟨rfl, o2⟩
      have hu2 : Unmade w2 w.heap.size := o2.has hun (fun f => f)
      go_wp2_with fail
      refine (start_unmade _ _ hu2).mono ?_
      rintro e w3 ⟨g, s, rfl, hg, o3⟩
      have hu3 : Unmade w3 w.heap.size := o3.has hu2 (fun f => f)
      go_wp2_with fail
      refine (records_any _ _ _ _ _ _ _ hu3).mono ?_
      rintro e w4 ⟨rfl, o4⟩
      have hg4 := o4.has hg (fun f => f)
      have hu4 : Unmade w4 w.heap.size := o4.has hu3 (fun f => f)
      have oo := ((ho.then_ o2 (fun _ _ f => f)).then_ o3 (fun _ _ f => f)).then_ o4 (fun _ _ f => f)
      have hE4 := hE.only oo (fun f => f)
      go_wp2_with fail
      refine (code_new _ g 3 s hg4 hE4).mono ?_
      rintro e w5 ⟨rfl, o5⟩
      have hu5 : Unmade w5 w.heap.size := o5.has hu4 (fun f => f)
      go_wp2_with fail
      refine (count_unmade _ _ hu5).mono ?_
      rintro e w6 ⟨rfl, o6⟩
      have o7 := (oo.then_ o5 (fun _ _ f => f)).then_ o6 (fun _ _ f => f)
      have q7 := ((((o2.then_ o3 (fun _ _ f => f)).then_ o4 (fun _ _ f => f)).then_ o5 (fun _ _ f => f)).then_ o6 (fun _ _ f => f))
      go_wp2_with fail
      go_roundw
      case rel => exact ⟨2, by omega, rfl, q7.has hsl (fun f => f), q7.has hun (fun f => f), o7⟩
      case measure => simp [intOf]
    · go_wp2_with fail
      refine (HAW.out _).mono ?_; rintro e w2 ⟨rfl, o2⟩
      go_wp2_with fail
      go_ret
      exact ⟨rfl, ho.trans o2⟩
end Go.Proofs.YtebamcmcmojneaaDoor
