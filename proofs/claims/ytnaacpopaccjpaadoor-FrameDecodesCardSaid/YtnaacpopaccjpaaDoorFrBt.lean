/- Chapter 11: told. -/
import Derived.Test.YtnaacpopaccjpaaDoorFrF
set_option linter.unusedSimpArgs false
set_option linter.unusedVariables false
namespace Go.Proofs.YtnaacpopaccjpaaDoor
open Go.RowKit Go.Lib

theorem told_any (w : World) (f : Fr) : Calls Tryd.prog 14 #[.agg f.cells] w fun e w' => e = .returned (.agg f.cells) ∧ Only (fun _ => False) w w' := by
  simp only [Fr.cells]
  go_enter Tryd.func14, Tryd.ntmps14
  go_wp2
  refine bodyPost_ret (v := .agg f.cells) ?_ rfl ⟨rfl, ((Only.refl _ _).alloc _).alloc _⟩
  simp [results, Tryd.results14, go_sem, Fr.cells]
end Go.Proofs.YtnaacpopaccjpaaDoor
