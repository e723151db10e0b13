/- shape.Put. -/
import Derived.Test.YtbajgbjpaliecaaSg
import Derived.Test.YtbajgbjpaliecaaSc
import Derived.Test.YtbajgbjpaliecaaWr
import Derived.LoopTactic
set_option linter.unusedSimpArgs false
set_option linter.unusedVariables false
namespace Go.Proofs.Ytbajgbjpaliecaa
open Go.RowKit

def Cl.nums (c : Cl) : List Int := [c.kind, c.bits, c.m, c.k, c.n]
set_option maxRecDepth 100000 in
set_option maxHeartbeats 2000000 in
theorem sput_any (w : World) (p base : Nat) (v : Value) (bs : List Int) (c : Cl) (h : WAt w p base v bs) (hc : ∀ x ∈ c.nums, 0 ≤ x ∧ x ≤ 255) (hl : bs.length ≤ 1000) :
    Calls Try.prog 45 #[.pointer (some ⟨p, 0, none⟩), .agg c.cells] w fun e w' => e = .returned (.tuple #[]) ∧ ∃ v', WAt w' p base v' (bs ++ c.nums) ∧ WStep p v.ownBlock w w' v'.ownBlock := by
  obtain ⟨kind, bits, m, k, n⟩ := c
  have HC : ∀ i, (hi : i < 5) → ∃ x, Cl.nums ⟨kind, bits, m, k, n⟩ = Cl.nums ⟨kind, bits, m, k, n⟩ ∧ (Cl.nums ⟨kind, bits, m, k, n⟩)[i]? = some x ∧ #[Value.int .i64 kind, .int .i64 bits, .int .i64 m, .int .i64 k, .int .i64 n][i]? = some (.int .i64 x) ∧ 0 ≤ x ∧ x ≤ 255 ∧ (Cl.nums ⟨kind, bits, m, k, n⟩).take (i + 1) = (Cl.nums ⟨kind, bits, m, k, n⟩).take i ++ [x] := by
    intro i hi
    have hi : i = 0 ∨ i = 1 ∨ i = 2 ∨ i = 3 ∨ i = 4 := by omega
    rcases hi with rfl | rfl | rfl | rfl | rfl
    · exact ⟨kind, rfl, rfl, rfl, (hc kind (by simp [Cl.nums])).1, (hc kind (by simp [Cl.nums])).2, rfl⟩
    · exact ⟨bits, rfl, rfl, rfl, (hc bits (by simp [Cl.nums])).1, (hc bits (by simp [Cl.nums])).2, rfl⟩
    · exact ⟨m, rfl, rfl, rfl, (hc m (by simp [Cl.nums])).1, (hc m (by simp [Cl.nums])).2, rfl⟩
    · exact ⟨k, rfl, rfl, rfl, (hc k (by simp [Cl.nums])).1, (hc k (by simp [Cl.nums])).2, rfl⟩
    · exact ⟨n, rfl, rfl, rfl, (hc n (by simp [Cl.nums])).1, (hc n (by simp [Cl.nums])).2, rfl⟩
  have HCH := Lib.hid HC
  have HLL := Lib.hid (show (Cl.nums ⟨kind, bits, m, k, n⟩).take 5 = Cl.nums ⟨kind, bits, m, k, n⟩ from rfl)
  clear HC hc
  generalize Cl.nums ⟨kind, bits, m, k, n⟩ = L at *
  simp only [Cl.cells]
  have g0 : Has ((w.alloc (.cells #[.int .i64 kind, .int .i64 bits, .int .i64 m, .int .i64 k, .int .i64 n] 25)).alloc (.cells #[.int .i64 kind, .int .i64 bits, .int .i64 m, .int .i64 k, .int .i64 n] 3)) (w.heap.size + 1) 3 #[.int .i64 kind, .int .i64 bits, .int .i64 m, .int .i64 k, .int .i64 n] := by
    have h := Has.new (w.alloc (.cells #[.int .i64 kind, .int .i64 bits, .int .i64 m, .int .i64 k, .int .i64 n] 25)) 3 #[.int .i64 kind, .int .i64 bits, .int .i64 m, .int .i64 k, .int .i64 n]
    rwa [show (w.alloc (.cells #[.int .i64 kind, .int .i64 bits, .int .i64 m, .int .i64 k, .int .i64 n] 25)).heap.size = w.heap.size + 1 by simp] at h
  go_enter Try.func45, Try.ntmps45
  go_wp2_with fail
  go_loopw [5, 18] (fun x i W => ∃ (q : Nat) (u : Value), q ≤ 5 ∧ i = .int .i64 q ∧ WAt W p base u (bs ++ L.take q) ∧ Has W (w.heap.size + 1) 3 #[.int .i64 kind, .int .i64 bits, .int .i64 m, .int .i64 k, .int .i64 n] ∧ WStep p v.ownBlock w W u.ownBlock) (fun _ i _ => 5 - (intOf i).toNat)
  case atStart => exact ⟨0, v, by omega, rfl, by simpa using (h.alloc _).alloc _, g0, ⟨((Only.refl _ _).alloc _).alloc _, .inl rfl⟩⟩
  case round =>
    obtain ⟨q, u, hq, rfl, hW, hG, hst⟩ := hrel
    have hqq : q < 5 ∨ q = 5 := by omega
    rcases hqq with hq5 | rfl
    · obtain ⟨x, _, _, hx, x0, x1, ht⟩ := HCH.out q hq5
      have c0 := (hG.cell q).trans hx
      have hq1 : (q : Int) < 5 := by omega
      have hwx : IntKind.u8.wrap x = x := by rw [IntKind.wrap_u8]; omega
      have hlq : (bs ++ L.take q).length ≤ 100000000000 := by rw [List.length_append, List.length_take]; omega
      have HU := Lib.hid (u8_any wr p base u (bs ++ L.take q) x hW x0 x1 hlq)
      have HT := Lib.hid ht
      clear hx ht hlq
      go_wp2_with fail
      refine (HU.out).mono ?_; rintro e w1 ⟨rfl, u1, W1, S1⟩
      have G1 := hW.keeps S1 hG (by decide) (by decide)
      go_wp2_with fail
      go_roundw
      case rel => exact ⟨q + 1, u1, by omega, by go_num, by rw [HT.out, ← List.append_assoc]; exact W1, G1, hst.trans S1⟩
      case measure => simp only [intOf]; omega
    · go_wp2_with fail
      go_end0
      refine ⟨rfl, u, ?_, hst⟩
      have := hW
      rwa [HLL.out] at this
end Go.Proofs.Ytbajgbjpaliecaa
