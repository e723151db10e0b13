/- Chapter 9: the example. -/
import Derived.Test.YtigcfgmblnbleaaDoorPs
set_option linter.unusedSimpArgs false
set_option linter.unusedVariables false
namespace Go.Proofs.YtigcfgmblnbleaaDoor
open Go.RowKit

def exName : ByteArray := ⟨#[109, 49, 54, 58, 50, 120, 51, 120, 52]⟩
theorem exA : kindOf 109 = 2 ∧ cutB exName = true ∧ numR (cutH exName) = (16, true) ∧ numR ⟨#[50]⟩ = (2, true) ∧ numR ⟨#[51]⟩ = (3, true) ∧ numR ⟨#[52]⟩ = (4, true) ∧ Cl.check ⟨2, 16, 2, 3, 4⟩ = 0 := by decide +kernel
theorem exB : pieces (cutT exName) = [⟨#[50]⟩, ⟨#[51]⟩, ⟨#[52]⟩] := by decide +kernel
theorem exC : Cl.sizes ⟨2, 16, 2, 3, 4⟩ = (6, 12, 8) ∧ Cl.transfers ⟨2, 16, 2, 3, 4⟩ = (96, 4) ∧ Cl.words ⟨2, 16, 2, 3, 4⟩ = 18 := by decide +kernel

set_option maxRecDepth 100000 in
set_option maxHeartbeats 2000000 in
theorem awake09_any (w : World) (hM : Ml w) : Calls Tryd.prog 19 #[] w fun e w' => e = .returned (.bool true) ∧ Only (fun _ => False) w w' := by
  obtain ⟨a1, a2, a3, a4, a5, a6, a7⟩ := exA
  have HP := Lib.hid (parse_m w exName hM (by decide) (by decide) (by decide) a1 a2 16 2 3 4 a3 _ _ _ exB a4 a5 a6 a7)
  have HS := fun W => ssizes_any W ⟨2, 16, 2, 3, 4⟩
  have HT := fun W => stransfers_any W ⟨2, 16, 2, 3, 4⟩
  have HW := fun W => swords_any W ⟨2, 16, 2, 3, 4⟩
  obtain ⟨b1, b2, b3⟩ := exC
  rw [b1] at HS
  rw [b2] at HT
  rw [b3] at HW
  simp only [Cl.cells] at HS HT HW
  have HS := Lib.hid HS
  have HT := Lib.hid HT
  have HW := Lib.hid HW
  clear a1 a2 a3 a4 a5 a6 a7 b1 b2 b3
  go_enter Tryd.func19, Tryd.ntmps19
  go_wp2_with fail
  refine (HP.out).mono ?_; rintro e w1 ⟨rfl, o1⟩
  have c1 := Has.new w1 23 #[.int .i64 2, .int .i64 16, .int .i64 2, .int .i64 3, .int .i64 4]
  go_wp2_with fail
  refine (HS.out _).mono ?_; rintro e w2 ⟨rfl, o2⟩
  have c2 := o2.has c1 (fun f => f)
  obtain ⟨f0, f1, f2, f3, f4, ff⟩ := Has.facts5 c2
  clear ff
  go_wp2_with fail
  refine (HT.out _).mono ?_; rintro e w3 ⟨rfl, o3⟩
  have c3 := o3.has c2 (fun f => f)
  clear f0 f1 f2 f3 f4
  obtain ⟨f0, f1, f2, f3, f4, ff⟩ := Has.facts5 c3
  clear ff
  go_wp2_with fail
  refine (HW.out _).mono ?_; rintro e w4 ⟨rfl, o4⟩
  go_wp2_with fail
  go_ret
  exact ⟨rfl, (((o1.alloc _).trans o2).trans o3).trans o4⟩
end Go.Proofs.YtigcfgmblnbleaaDoor
