/- tape: slices of numbers, Clone, New. -/
import Derived.Test.YthkgjhjfgoglhaaDoorBq
import Derived.Test.YthkgjhjfgoglhaaDoorFault
import Derived.Test.YthkgjhjfgoglhaaDoorErr
import Derived.Maps.AppendAt
import Derived.Lib.SliceRun
set_option linter.unusedSimpArgs false
set_option linter.unusedVariables false
namespace Go.Proofs.YthkgjhjfgoglhaaDoor
open Go.RowKit

def ucells (l : List Int) : List Value := l.map (Value.int .u64)
theorem ucells_length (l : List Int) : (ucells l).length = l.length := by simp [ucells]
/-- A slice of numbers: nil, or at an address. -/
def RU (w : World) (v : Value) (l : List Int) : Prop := (v = .slice none 0 0 ∧ l = []) ∨ ∃ a c, v = .slice (some a) l.length c ∧ l.length ≤ c ∧ ∀ k x, (ucells l)[k]? = some x → w.cell? (a.add k) = some x
theorem RU.inner {w w' : World} {v : Value} {l : List Int} (h : RU w v l) (o : Only (fun _ => False) w w') : RU w' v l := by
  rcases h with h | ⟨a, c, h1, h2, h3⟩
  · exact .inl h
  · exact .inr ⟨a, c, h1, h2, fun k x hx => o.cell (h3 k x hx) (fun f => f)⟩
theorem RU.len0 {w : World} {v : Value} {l : List Int} (h : RU w v l) : ∃ A c, v = .slice A l.length c := by
  rcases h with ⟨h, rfl⟩ | ⟨a, c, h1, _⟩
  · exact ⟨_, _, h⟩
  · exact ⟨_, _, h1⟩
theorem own_empty (w : World) (base : Nat) (e : TypeId) (hb : base ≤ w.heap.size) : (w.alloc (.cells #[] e)).ownsRow base e 1 (.slice (some ⟨w.heap.size, 0, none⟩) 0 0) 0 [] :=
  ⟨rfl, .inr ⟨w.heap.size, 0, #[], rfl, hb, heap_alloc_new w _, Nat.le_refl _, by simp, by simp, by simp⟩⟩
set_option maxRecDepth 100000 in
set_option maxHeartbeats 1000000 in
theorem uclone_any (w : World) (v : Value) (l : List Int) (h : RU w v l) (hl : l.length ≤ 4194304) : Calls Tryd.prog 16 #[v] w fun x w' => (∃ A c, x = .returned (.slice A l.length c) ∧ w'.ownsRow w.heap.size 52 1 (.slice A l.length c) l.length (ucells l)) ∧ Only (fun _ => False) w w' := by
  have q22 : ∀ (w : World) (a : Option Addr) (n c n' c' : Nat), (binOp .eql 22 (.slice a n c) (.slice none n' c')).run Tryd.prog w = .ok (.bool a.isNone) w := fun w a n c n' c' => Lib.run_eql_slice_nil w _ _ a n c n' c' Tryd.underlying22
  rcases h with ⟨rfl, rfl⟩ | ⟨a, c, rfl, hc, hk⟩
  · go_enter Tryd.func16, Tryd.ntmps16
    go_wp2_with fail
    go_ret
    exact ⟨⟨none, 0, rfl, World.ownsRow_nil _ _ _ _⟩, Only.refl _ _⟩
  · obtain ⟨i0, hi, hz0, hz1, hz2⟩ := info_parts Tryd.info_w
    have HK := Lib.hid hk
    clear hk
    go_enter Tryd.func16, Tryd.ntmps16
    go_wp2_with (at_builtin; refine wpList_append_own _ rfl _ _ 22 rfl w.heap.size 52 i0 (.int .u64 0) 1 8 Tryd.underlying22 hi hz0 hz1 hz2 rfl (by decide) _ _ _ rfl (World.ownsRow_made w #[] 0 (Nat.le_refl _) (Nat.zero_le _) rfl) a l.length c (ucells l) rfl ?qc1 ?qc2 ?qc3 ?qc4 ?qc5 ?qc6 ?_)
    case qc1 => rw [ucells_length]; omega
    case qc2 =>
      intro j u hj
      exact Lib.cell?_alloc_some _ (HK.out j u hj)
    case qc3 => intro u hu; obtain ⟨x, _, rfl⟩ := List.mem_map.1 hu; rfl
    case qc4 => unfold maxLen; omega
    case qc5 => omega
    case qc6 => simp
    intro v' w1 hown hgrow hnil
    have hown' : w1.ownsRow w.heap.size 52 1 v' l.length (ucells l) := by simpa using hown
    obtain ⟨A, c', rfl⟩ : ∃ A c', v' = .slice A l.length c' := by
      rcases hown'.2 with ⟨rfl, h0⟩ | ⟨g, cap, cur, rfl, _⟩
      · exact ⟨none, 0, by rw [h0]⟩
      · exact ⟨_, _, rfl⟩
    have HOWN := Lib.hid hown'
    have HO := Lib.hid (Only.grown (((Only.refl (fun _ => False) w).alloc _)) hgrow (fun j e hj => absurd hj (by simp [Value.ownBlock] at e; omega)))
    clear hown hgrow hnil hown'
    go_wp2_with fail
    go_ret
    exact ⟨⟨A, c', rfl, HOWN.out⟩, HO.out⟩
/-- A tape: its block, its words, how many were read. -/
def TapeAt (w : World) (T : Nat) (A : Option Addr) (c : Nat) (l : List Int) (at_ : Nat) : Prop := Has w T 54 #[.slice A l.length c, .int .i64 at_, .bool true] ∧ w.ownsRow 0 52 1 (.slice A l.length c) l.length (ucells l)
set_option maxRecDepth 100000 in
set_option maxHeartbeats 1000000 in
theorem tnew_any (w : World) (v : Value) (l : List Int) (h : RU w v l) (hl : l.length ≤ 1000000) : Calls Tryd.prog 5 #[v] w fun x w' => (∃ T A c, x = .returned (.tuple #[.pointer (some ⟨T, 0, none⟩), .nilIface]) ∧ w.heap.size ≤ T ∧ TapeAt w' T A c l 0) ∧ Only (fun _ => False) w w' := by
  have HC := Lib.hid (uclone_any w v l h (by omega))
  obtain ⟨A0, c0, rfl⟩ := h.len0
  have h1 : ¬ (l.length : Int) > 1048576 := by omega
  clear h
  go_enter Tryd.func5, Tryd.ntmps5
  go_wp2_with fail
  refine (HC.out).mono ?_; rintro e w1 ⟨⟨A, c, rfl, hown⟩, o1⟩
  have HOWN := Lib.hid hown
  clear hown
  go_wp2_with fail
  go_ret2
  exact ⟨⟨w1.heap.size, A, c, rfl, o1.size, Has.new _ _ _, own_base (HOWN.out.alloc _) (Nat.zero_le _)⟩, o1.alloc _⟩
end Go.Proofs.YthkgjhjfgoglhaaDoor
