/- Chapter 31: what the methods of verdict.Stand do, on a block that holds one. -/
import Derived.Test.YtffnjnkaefodlaaProg
import Derived.Test.YtffnjnkaefodlaaMem
import Derived.WalkKit
import Derived.WalkSpells
import Derived.LaidEqlPtr
import Derived.Outline
import Derived.Lib.Hide
import Derived.BigQuiet
import Derived.Deep.QuietTactic
set_option linter.unusedSimpArgs false
set_option linter.unusedVariables false
namespace Go.Proofs.Ytffnjnkaefodlaa
open Go.RowKit

structure St where
  code : Int
  who : Int
  batch : Int
  on : Bool
  own : Bool
  other : Bool
  good : Int
  made : Bool

def St.cells (s : St) : Array Value := #[.int .i64 s.code, .int .i64 s.who, .int .u32 s.batch, .bool s.on, .bool s.own, .bool s.other, .int .i64 s.good, .bool s.made]
abbrev At (w : World) (b : Nat) (s : St) : Prop := Has w b 49 s.cells


theorem At.facts {w : World} {b : Nat} {s : St} (h : At w b s) :
    w.cell? ⟨b, 0, none⟩ = some (.int .i64 s.code) ∧ w.cell? ⟨b, 1, none⟩ = some (.int .i64 s.who) ∧ w.cell? ⟨b, 2, none⟩ = some (.int .u32 s.batch) ∧ w.cell? ⟨b, 3, none⟩ = some (.bool s.on) ∧
    w.cell? ⟨b, 4, none⟩ = some (.bool s.own) ∧ w.cell? ⟨b, 5, none⟩ = some (.bool s.other) ∧ w.cell? ⟨b, 6, none⟩ = some (.int .i64 s.good) ∧ w.cell? ⟨b, 7, none⟩ = some (.bool s.made) ∧ (∀ i, w.frozen? ⟨b, i, none⟩ = false) :=
  ⟨h.cell 0, h.cell 1, h.cell 2, h.cell 3, h.cell 4, h.cell 5, h.cell 6, h.cell 7, h.free⟩

def St.ready (s : St) : Int := if s.made = false then 3 else if s.code = 0 then 0 else 33

theorem ready_any (w : World) (b : Nat) (s : St) (h : At w b s) :
   Calls Try.prog 19 #[.pointer (some ⟨b, 0, none⟩)] w fun e w' => e = .returned (.int .i64 s.ready) ∧ w = w' := by
  obtain ⟨h0, h1, h2, h3, h4, h5, h6, h7, hf⟩ := h.facts
  clear h
  go_enter Try.func19, Try.ntmps19
  go_wp2
  all_goals
    go_ret
    refine ⟨?_, rfl⟩
    simp_all [St.ready]

def St.begin_ (s : St) (batch : Int) : St × Int :=
  if s.ready ≠ 0 then (s, s.ready) else if s.on = true then (s, 8) else ({ s with batch := batch, on := true, own := false, other := false }, 0)

theorem begin_any (w : World) (b : Nat) (s : St) (batch : Int) (h : At w b s) :
   Calls Try.prog 8 #[.pointer (some ⟨b, 0, none⟩), .int .u32 batch] w fun e w' => e = .returned (.int .i64 (s.begin_ batch).2) ∧ Only (· = b) w w' ∧ At w' b (s.begin_ batch).1 := by
  obtain ⟨h0, h1, h2, h3, h4, h5, h6, h7, hf⟩ := h.facts
  have hr := ready_any w b s h
  go_enter Try.func8, Try.ntmps8
  go_wp2_with (go_at_call 19; refine hr.mono ?_; rintro e w' ⟨rfl, rfl⟩)
  all_goals
    go_ret
    refine ⟨?_, ?_, ?_⟩
    · simp_all [St.begin_]
    · repeat' (first | (with_reducible exact Only.refl _ _) | (with_reducible refine Only.setCell ?_ _ _ (fun _ => rfl)))
    · simp_all [St.begin_]
      try (repeat' (first | (with_reducible exact h) | (with_reducible apply Has.put)))
      all_goals (first | rfl | (simp_all [St.cells]; done))

def St.stop (s : St) (who code : Int) : St := if s.ready ≠ 0 ∨ code = 0 then s else { s with code := code, who := who, on := false }

theorem stop_any (w : World) (b : Nat) (s : St) (who code : Int) (h : At w b s) :
   Calls Try.prog 11 #[.pointer (some ⟨b, 0, none⟩), .int .i64 who, .int .i64 code] w fun e w' => e = .returned (.tuple #[]) ∧ Only (· = b) w w' ∧ At w' b (s.stop who code) := by
  obtain ⟨h0, h1, h2, h3, h4, h5, h6, h7, hf⟩ := h.facts
  have hr := ready_any w b s h
  go_enter Try.func11, Try.ntmps11
  go_wp2_with (go_at_call 19; refine hr.mono ?_; rintro e w' ⟨rfl, rfl⟩)
  all_goals
    (first | go_end0 | ((try simp only [Exit.inBlock, Exit.then]); refine bodyPost_ret (results_none rfl _ _ _) rfl ?_))
    refine ⟨rfl, ?_, ?_⟩
    · repeat' (first | (with_reducible exact Only.refl _ _) | (with_reducible refine Only.setCell ?_ _ _ (fun _ => rfl)))
    · simp_all [St.stop]
      try (repeat' (first | (with_reducible exact h) | (with_reducible apply Has.put)))
      all_goals (first | rfl | (simp_all [St.cells]; done))

def St.say (s : St) (who batch code : Int) : St × Int :=
  if s.ready ≠ 0 then (s, s.ready) else if who ≠ 1 ∧ who ≠ 2 then (s, 1) else if s.on = false ∨ batch ≠ s.batch then (s, 8) else
  if (who = 1 ∧ s.own = true) ∨ (who = 2 ∧ s.other = true) then (s, 7) else if code ≠ 0 then (s.stop who code, 33) else
  let s1 : St := if who = 1 then { s with own := true } else { s with other := true }
  if s1.own = true ∧ s1.other = true then ({ s1 with on := false, good := wrap64 (s1.good + 1) }, 0) else (s1, 0)

theorem say_any (w : World) (b : Nat) (s : St) (who batch code : Int) (h : At w b s) :
   Calls Try.prog 9 #[.pointer (some ⟨b, 0, none⟩), .int .i64 who, .int .u32 batch, .int .i64 code] w fun e w' => e = .returned (.int .i64 (s.say who batch code).2) ∧ Only (· = b) w w' ∧ At w' b (s.say who batch code).1 := by
  obtain ⟨h0, h1, h2, h3, h4, h5, h6, h7, hf⟩ := h.facts
  have hr := ready_any w b s h
  go_enter Try.func9, Try.ntmps9
  go_wp2_with fail
  refine hr.mono ?_; rintro e w' ⟨rfl, rfl⟩
  clear hr
  go_wp2_with fail
  all_goals (try (with_reducible refine (stop_any _ _ s _ _ h).mono ?_; rintro e w' ⟨rfl, ho, hs'⟩; go_wp2_with fail))
  all_goals (try (exfalso; clear h0 h1 h2 h3 h4 h5 h6 h7 hf h; simp_all; done))
  all_goals
    go_ret
    refine ⟨?_, ?_, ?_⟩
    · clear h0 h1 h2 h3 h4 h5 h6 h7 hf h
      simp_all [St.say]
    · first | exact ho | (repeat' (first | (with_reducible exact Only.refl _ _) | (with_reducible refine Only.setCell ?_ _ _ (fun _ => rfl))))
    · clear h0 h1 h2 h3 h4 h5 h6 h7 hf
      have H := Lib.hid h
      clear h
      simp_all [St.say]
      try (repeat' (first | (with_reducible exact H.out) | (with_reducible apply Has.put)))
      all_goals (first | rfl | (simp_all [St.cells]; done))
end Go.Proofs.Ytffnjnkaefodlaa
