/- wire.Reader: count, Blob, End where there was a fault. -/
import Derived.Test.YtkafnkkipflbbaaDoorRu
set_option linter.unusedSimpArgs false
set_option linter.unusedVariables false
namespace Go.Proofs.YtkafnkkipflbbaaDoor
open Go.RowKit Go.Lib

theorem RS.had {w : World} {p : Nat} {s : ByteArray} {r : Rs8} {y : List ByteArray × Int} (h : RS w p s r) (hr : r.err = some y) : ∃ b, RAt w p s r.at_ (some b) ∧ r.at_ ≤ s.size ∧ ErrAt w (some b) y.1 y.2 := by
  obtain ⟨e, h1, h2, h3⟩ := h
  rw [hr] at h3
  cases e with
  | none => exact absurd rfl h3.1
  | some b => exact ⟨b, h1, h2, h3.2⟩
theorem RS.mk_had {w : World} {p b : Nat} {s : ByteArray} {r : Rs8} {y : List ByteArray × Int} (hr : r.err = some y) (h1 : RAt w p s r.at_ (some b)) (h2 : r.at_ ≤ s.size) (h3 : ErrAt w (some b) y.1 y.2) : RS w p s r := by
  refine ⟨some b, h1, h2, ?_⟩
  rw [hr]
  exact ⟨by simp, h3⟩
theorem number_had {s f : ByteArray} {r : Rs8} {n : Nat} {y : List ByteArray × Int} (hr : r.err = some y) : r.number s f n = (r, 0) := by
  obtain ⟨a, e⟩ := r
  subst hr
  rfl

set_option maxRecDepth 100000 in
set_option maxHeartbeats 1000000 in
theorem count_had (w : World) (p : Nat) (s f : ByteArray) (r : Rs8) (y : List ByteArray × Int) (hr : r.err = some y) (most size : Int) (hs : s.size ≤ 140737488351232) (h : RS w p s r) :
    Calls Tryd.prog 20 #[.pointer (some ⟨p, 0, none⟩), .string f, .int .i64 most, .int .i64 size] w fun x w' => x = .returned (.int .i64 0) ∧ RS w' p s r ∧ Only (· = p) w w' := by
  have hu := ru32_any w p s f r hs h
  rw [number_had hr] at hu
  have HU := Lib.hid hu
  obtain ⟨b, h1, h2, h3⟩ := h.had hr
  have c1 : w.cell? ⟨p, 1, none⟩ = some (.int .i64 r.at_) := h1.cell 1
  have HR := Lib.hid hr
  clear hu h h1 h2 h3 hr
  go_enter Tryd.func20, Tryd.ntmps20
  go_wp2_with fail
  refine (HU.out).mono ?_
  rintro e w1 ⟨rfl, R1, o1⟩
  obtain ⟨b1, h1, h2, h3⟩ := R1.had HR.out
  have d2 : w1.cell? ⟨p, 2, none⟩ = some (ev (some b1)) := h1.cell 2
  simp only [ev] at d2
  clear h1 h2 h3
  go_wp2_with fail
  go_ret
  exact ⟨rfl, R1, o1⟩

set_option maxRecDepth 100000 in
set_option maxHeartbeats 1000000 in
theorem blob_had (w : World) (p : Nat) (s f : ByteArray) (r : Rs8) (y : List ByteArray × Int) (hr : r.err = some y) (most : Int) (hs : s.size ≤ 140737488351232) (h : RS w p s r) :
    Calls Tryd.prog 12 #[.pointer (some ⟨p, 0, none⟩), .string f, .int .i64 most] w fun x w' => x = .returned (.string ⟨#[]⟩) ∧ RS w' p s r ∧ Only (· = p) w w' := by
  have HC := Lib.hid (fun m => count_had w p s f r y hr m 1 hs h)
  have HR := Lib.hid hr
  clear hr h
  go_enter Tryd.func12, Tryd.ntmps12
  go_wp2_with fail
  all_goals
    refine (HC.out _).mono ?_
    rintro e w1 ⟨rfl, R1, o1⟩
    obtain ⟨b1, h1, h2, h3⟩ := R1.had HR.out
    go_wp2_with fail
    refine (take_had _ p s f _ b1 0 h1).mono ?_
    rintro e w2 ⟨rfl, rfl⟩
    go_wp2_with fail
    go_ret
    exact ⟨rfl, R1, o1⟩

set_option maxRecDepth 100000 in
set_option maxHeartbeats 1000000 in
theorem end_had (w : World) (p : Nat) (s : ByteArray) (r : Rs8) (y : List ByteArray × Int) (hr : r.err = some y) (hs : s.size ≤ 140737488351232) (h : RS w p s r) :
    Calls Tryd.prog 13 #[.pointer (some ⟨p, 0, none⟩)] w fun x w' => ∃ b, x = .returned (ev (some b)) ∧ ErrAt w' (some b) y.1 y.2 ∧ RS w' p s r ∧ Only (· = p) w w' := by
  obtain ⟨b, h1, h2, h3⟩ := h.had hr
  have H3 := Lib.hid h3
  have HR := Lib.hid hr
  obtain ⟨c0, c1, c2, cf⟩ := h1.facts
  simp only [ev] at c2 ⊢
  clear h3 h hr
  by_cases hl : r.at_ < s.size
  · have hl' : (r.at_ : Int) < (s.size : Int) := by omega
    go_enter Tryd.func13, Tryd.ntmps13
    go_wp2_with fail
    go_quiet (fail)
    go_wp2_with fail
    refine (fail_had _ p s _ _ b _ (Has.drewN h1 _)).mono ?_
    rintro e w2 ⟨rfl, rfl⟩
    go_wp2_with fail
    go_ret
    exact ⟨b, rfl, H3.out.only ((Only.refl (fun _ => False) w).drewN _) (fun _ _ _ f => f), RS.mk_had HR.out (Has.drewN h1 _) h2 (H3.out.only ((Only.refl (fun _ => False) w).drewN _) (fun _ _ _ f => f)), (Only.refl _ _).drewN _⟩
  · have hl' : ¬ (r.at_ : Int) < (s.size : Int) := by omega
    go_enter Tryd.func13, Tryd.ntmps13
    go_wp2_with fail
    go_quiet (fail)
    go_wp2_with fail
    go_ret
    exact ⟨b, rfl, H3.out.only ((Only.refl (fun _ => False) w).drewN _) (fun _ _ _ f => f), RS.mk_had HR.out (Has.drewN h1 _) h2 (H3.out.only ((Only.refl (fun _ => False) w).drewN _) (fun _ _ _ f => f)), (Only.refl _ _).drewN _⟩
end Go.Proofs.YtkafnkkipflbbaaDoor
