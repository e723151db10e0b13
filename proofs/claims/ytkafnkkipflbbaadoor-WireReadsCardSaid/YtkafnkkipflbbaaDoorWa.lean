/- Chapter 8: the example. -/
import Derived.Test.YtkafnkkipflbbaaDoorWw
import Derived.Test.YtkafnkkipflbbaaDoorPut
import Derived.Deep.LoopGhost
set_option linter.unusedSimpArgs false
set_option linter.unusedVariables false
namespace Go.Proofs.YtkafnkkipflbbaaDoor
open Go.RowKit Go.Lib

theorem written_ex : strOfNums ([0, 0, 1, 2] ++ ([0, 0, 0, 2] ++ [0, 1, 1, 44])) = ⟨#[0, 0, 1, 2, 0, 0, 0, 2, 0, 1, 1, 44]⟩ := by decide +kernel
def exItems (g : Nat) : Array Value := #[.int .i64 1, .int .u64 258, .string ⟨#[]⟩, .int .i64 0, .slice none 0 0, .slice none 0 0, .int .i64 5, .int .u64 0, .string ⟨#[]⟩, .int .i64 12, .slice (some ⟨g, 0, none⟩) 2 2, .slice none 0 0]
def exBytes : Nat → List Int
  | 0 => []
  | 1 => [] ++ beB 258 4
  | _ => [] ++ beB 258 4 ++ beB ([1, 300] : List Int).length 4 ++ wordsB [1, 300] 2

set_option maxRecDepth 100000 in
set_option maxHeartbeats 2000000 in
theorem written_any (w : World) (g b : Nat) (hg : Has w g 25 (u64s [1, 300])) (hb : Has w b 50 (exItems g)) : Calls Tryd.prog 15 #[.slice (some ⟨b, 0, none⟩) 2 2] w fun e w' => e = .returned (.string (strOfNums (exBytes 2))) ∧ Only (fun _ => False) w w' := by
  have HWD := Lib.hid (fun W p base v bs hW hG => words_any W p base v bs [1, 300] g 2 2 12 hW hG (by decide) (by decide) (by decide) (by decide) (by decide))
  have HU := Lib.hid (fun W p base v bs hW hl => u32_any W p base v bs 258 hW (by decide) (by decide) hl)
  go_enter Tryd.func15, Tryd.ntmps15
  go_wp2_with fail
  have W0 : WAt (w.alloc (.cells #[.slice none 0 0] 85)) w.heap.size (w.heap.size + 1) (.slice none 0 0) [] := ⟨Has.new _ _ _, World.ownsRow_nil _ _ _ _, by simp⟩
  go_loopw [4] (fun i W => ∃ (k : Nat) (v : Value), k ≤ 2 ∧ i = .int .i64 k ∧ WAt W w.heap.size (w.heap.size + 1) v (exBytes k) ∧ Has W g 25 (u64s [1, 300]) ∧ Has W b 50 (exItems g) ∧ Only (fun _ => False) w W) (fun i _ => 2 - (intOf i).toNat)
  case atStart => exact ⟨0, _, by omega, rfl, W0, hg.alloc _, hb.alloc _, (Only.refl _ _).alloc _⟩
  case round =>
    obtain ⟨k, v, hk, rfl, hW, hG, hB, ho⟩ := hrel
    have hkk : k = 0 ∨ k = 1 ∨ k = 2 := by omega
    rcases hkk with rfl | rfl | rfl
    · have c0 : wr.cell? ⟨b, 0, none⟩ = some (.int .i64 1) := hB.cell 0
      have c1 : wr.cell? ⟨b, 1, none⟩ = some (.int .u64 258) := hB.cell 1
      have c2 : wr.cell? ⟨b, 2, none⟩ = some (.string ⟨#[]⟩) := hB.cell 2
      have c3 : wr.cell? ⟨b, 3, none⟩ = some (.int .i64 0) := hB.cell 3
      have c4 : wr.cell? ⟨b, 4, none⟩ = some (.slice none 0 0) := hB.cell 4
      have c5 : wr.cell? ⟨b, 5, none⟩ = some (.slice none 0 0) := hB.cell 5
      go_wp2_with fail
      have hW1 := hW.alloc (.cells #[.int .i64 1, .int .u64 258, .string ⟨#[]⟩, .int .i64 0, .slice none 0 0, .slice none 0 0] 50)
      refine (HU.out _ _ _ _ _ hW1 (by decide)).mono ?_
      rintro e w3 ⟨rfl, v3, W3, S3⟩
      have g3 := hW1.keeps S3 (hG.alloc _) (by decide) (by decide)
      have b3 := hW1.keeps S3 (hB.alloc _) (by decide) (by decide)
      have o3 := S3.inner hW1 (ho.alloc _) (Nat.le_refl _) (by omega)
      go_wp2_with fail
      go_roundw
      case rel => exact ⟨1, v3, by omega, rfl, W3, g3, b3, o3⟩
      case measure => simp [intOf]
    · have c0 : wr.cell? ⟨b, 6, none⟩ = some (.int .i64 5) := hB.cell 6
      have c1 : wr.cell? ⟨b, 7, none⟩ = some (.int .u64 0) := hB.cell 7
      have c2 : wr.cell? ⟨b, 8, none⟩ = some (.string ⟨#[]⟩) := hB.cell 8
      have c3 : wr.cell? ⟨b, 9, none⟩ = some (.int .i64 12) := hB.cell 9
      have c4 : wr.cell? ⟨b, 10, none⟩ = some (.slice (some ⟨g, 0, none⟩) 2 2) := hB.cell 10
      have c5 : wr.cell? ⟨b, 11, none⟩ = some (.slice none 0 0) := hB.cell 11
      go_wp2_with fail
      have hW1 := hW.alloc (.cells #[.int .i64 5, .int .u64 0, .string ⟨#[]⟩, .int .i64 12, .slice (some ⟨g, 0, none⟩) 2 2, .slice none 0 0] 50)
      refine (HWD.out _ _ _ _ _ hW1 (hG.alloc _) (by decide)).mono ?_
      rintro e w3 ⟨rfl, v3, W3, S3⟩
      have g3 := hW1.keeps S3 (hG.alloc _) (by decide) (by decide)
      have b3 := hW1.keeps S3 (hB.alloc _) (by decide) (by decide)
      have o3 := S3.inner hW1 (ho.alloc _) (Nat.le_refl _) (by omega)
      go_wp2_with fail
      go_roundw
      case rel => exact ⟨2, v3, by omega, rfl, W3, g3, b3, o3⟩
      case measure => simp [intOf]
    · go_wp2_with fail
      refine (bytes_any _ _ _ _ _ hW).mono ?_
      rintro e w3 ⟨rfl, rfl⟩
      go_wp2_with fail
      go_ret
      exact ⟨rfl, ho⟩

set_option maxRecDepth 100000 in
set_option maxHeartbeats 1000000 in
theorem awake08_any (w : World) : Calls Tryd.prog 6 #[] w fun e w' => e = .returned (.bool true) ∧ Only (fun _ => False) w w' := by
  have HX := written_any
  rw [show strOfNums (exBytes 2) = ⟨#[0, 0, 1, 2, 0, 0, 0, 2, 0, 1, 1, 44]⟩ by decide +kernel] at HX
  have HX := Lib.hid HX
  go_enter Tryd.func6, Tryd.ntmps6
  go_wp2_with fail
  have h1 := (Has.new w 25 (u64s [1, 300])).alloc (.cells (exItems w.heap.size) 50)
  have h2 := Has.new (w.alloc (.cells (u64s [1, 300]) 25)) 50 (exItems w.heap.size)
  rw [show (w.alloc (.cells (u64s [1, 300]) 25)).heap.size = w.heap.size + 1 by simp] at h2
  refine (HX.out _ w.heap.size (w.heap.size + 1) h1 h2).mono ?_
  rintro e w3 ⟨rfl, o3⟩
  go_wp2_with fail
  go_ret
  exact ⟨rfl, (((Only.refl (fun _ => False) w).alloc _).alloc _).trans o3⟩
end Go.Proofs.YtkafnkkipflbbaaDoor
