/- Chapter 31: the reference's stand, as a value. -/
import Derived.Test.YtffnjnkaefodlaaProg
import Derived.Test.YtffnjnkaefodlaaMem
import Derived.Test.YtffnjnkaefodlaaPut
import Derived.WalkKit
import Derived.WalkSpells
import Derived.Outline
import Derived.Lib.Hide
set_option linter.unusedSimpArgs false
set_option linter.unusedVariables false
namespace Go.Proofs.Ytffnjnkaefodlaa
open Go.RowKit

structure Rs where
  code : Int
  who : Int
  batch : Int
  on : Bool
  s0 : Bool
  s1 : Bool
  s2 : Bool
  good : Int
def Rs.cells (r : Rs) : Array Value := #[.int .i64 r.code, .int .i64 r.who, .int .u32 r.batch, .bool r.on, .bool r.s0, .bool r.s1, .bool r.s2, .int .i64 r.good]

def Rs.begin_ (r : Rs) (batch : Int) : Rs × Int := if r.code ≠ 0 then (r, 33) else if r.on = true then (r, 8) else (⟨0, 0, batch, true, false, false, false, r.good⟩, 0)
def Rs.stop (r : Rs) (who code : Int) : Rs := if r.code ≠ 0 ∨ code = 0 then r else ⟨code, who, 0, false, false, false, false, r.good⟩
def Rs.say (r : Rs) (who batch code : Int) : Rs × Int :=
  if r.code ≠ 0 then (r, 33) else if who ≠ 1 ∧ who ≠ 2 then (r, 1) else if r.on = false ∨ batch ≠ r.batch then (r, 8) else
  if (if who = 1 then r.s1 else r.s2) = true then (r, 7) else if code ≠ 0 then (r.stop who code, 33) else
  let r1 : Rs := if who = 1 then { r with s1 := true } else { r with s2 := true }
  if r1.s1 = true ∧ r1.s2 = true then (⟨0, 0, 0, false, false, false, false, wrap64 (r1.good + 1)⟩, 0) else (r1, 0)

theorem rbegin_any (w : World) (r : Rs) (batch : Int) : Calls Try.prog 14 #[.agg r.cells, .int .u32 batch] w fun e w' =>
    e = .returned (.tuple #[.agg (r.begin_ batch).1.cells, .int .i64 (r.begin_ batch).2]) ∧ Only (fun _ => False) w w' := by
  simp only [Rs.cells]
  go_enter Try.func14, Try.ntmps14
  go_wp2
  all_goals
    refine bodyPost_ret (v := .tuple #[.agg (r.begin_ batch).1.cells, .int .i64 (r.begin_ batch).2]) ?_ rfl ⟨rfl, ((Only.refl _ _).alloc _).alloc _⟩
    simp [results, Try.results14, go_sem]
    simp_all [Rs.begin_, Rs.cells]
theorem rstop_any (w : World) (r : Rs) (who code : Int) : Calls Try.prog 16 #[.agg r.cells, .int .i64 who, .int .i64 code] w fun e w' =>
    e = .returned (.agg (r.stop who code).cells) ∧ Only (fun _ => False) w w' := by
  simp only [Rs.cells]
  go_enter Try.func16, Try.ntmps16
  go_wp2
  all_goals
    refine bodyPost_ret (v := .agg (r.stop who code).cells) ?_ rfl ⟨rfl, ((Only.refl _ _).alloc _).alloc _⟩
    simp [results, Try.results16, go_sem]
    simp_all [Rs.stop, Rs.cells]

theorem rstop_lit (w : World) (c wh ba : Int) (on s0 s1 s2 : Bool) (g who code : Int) : Calls Try.prog 16 #[.agg #[.int .i64 c, .int .i64 wh, .int .u32 ba, .bool on, .bool s0, .bool s1, .bool s2, .int .i64 g], .int .i64 who, .int .i64 code] w fun e w' =>
    e = .returned (.agg #[.int .i64 (Rs.stop ⟨c, wh, ba, on, s0, s1, s2, g⟩ who code).code, .int .i64 (Rs.stop ⟨c, wh, ba, on, s0, s1, s2, g⟩ who code).who, .int .u32 (Rs.stop ⟨c, wh, ba, on, s0, s1, s2, g⟩ who code).batch, .bool (Rs.stop ⟨c, wh, ba, on, s0, s1, s2, g⟩ who code).on,
      .bool (Rs.stop ⟨c, wh, ba, on, s0, s1, s2, g⟩ who code).s0, .bool (Rs.stop ⟨c, wh, ba, on, s0, s1, s2, g⟩ who code).s1, .bool (Rs.stop ⟨c, wh, ba, on, s0, s1, s2, g⟩ who code).s2, .int .i64 (Rs.stop ⟨c, wh, ba, on, s0, s1, s2, g⟩ who code).good]) ∧ Only (fun _ => False) w w' :=
  rstop_any w ⟨c, wh, ba, on, s0, s1, s2, g⟩ who code

theorem fresh8 {w w' : World} {t t' : TypeId} {cs cs' : Array Value} (o : Only (fun _ => False) ((w.alloc (.cells cs t')).alloc (.cells cs' t)) w') : Has w' (w.heap.size + 1) t cs' := by
  simpa using o.has (Has.new (w.alloc (.cells cs t')) t cs') (fun f => f)
theorem facts8 {w : World} {b : Nat} {t : TypeId} {x0 x1 x2 x3 x4 x5 x6 x7 : Value} (h : Has w b t #[x0, x1, x2, x3, x4, x5, x6, x7]) :
    w.cell? ⟨b, 0, none⟩ = some x0 ∧ w.cell? ⟨b, 1, none⟩ = some x1 ∧ w.cell? ⟨b, 2, none⟩ = some x2 ∧ w.cell? ⟨b, 3, none⟩ = some x3 ∧
    w.cell? ⟨b, 4, none⟩ = some x4 ∧ w.cell? ⟨b, 5, none⟩ = some x5 ∧ w.cell? ⟨b, 6, none⟩ = some x6 ∧ w.cell? ⟨b, 7, none⟩ = some x7 ∧ (∀ i, w.frozen? ⟨b, i, none⟩ = false) :=
  ⟨h.cell 0, h.cell 1, h.cell 2, h.cell 3, h.cell 4, h.cell 5, h.cell 6, h.cell 7, h.free⟩
theorem say_res {W : World} {b : Nat} {x0 x1 x2 x3 x4 x5 x6 x7 n : Value} {tm : Array Value} (h : Has W b 39 #[x0, x1, x2, x3, x4, x5, x6, x7]) (h8 : tm.getD 8 undef = .pointer (some ⟨b, 0, none⟩)) (h9 : tm.getD 9 undef = n) :
    (results Try.f15 tm).run Try.prog W = .ok (.tuple #[.agg #[x0, x1, x2, x3, x4, x5, x6, x7], n]) W := by
  obtain ⟨c0, c1, c2, c3, c4, c5, c6, c7, _⟩ := facts8 h
  simp only [Array.getD_eq_getD_getElem?] at h8 h9
  simp [results, Try.results15, go_sem, h8, h9, c0, c1, c2, c3, c4, c5, c6, c7]

set_option maxHeartbeats 1000000 in
theorem rsay_stop (w : World) (r : Rs) (who batch code : Int) (hw : who = 1 ∨ who = 2) (h0 : r.code = 0) (h1 : r.on = true) (h2 : batch = r.batch) (h3 : (if who = 1 then r.s1 else r.s2) = false) (h4 : code ≠ 0) :
    Calls Try.prog 15 #[.agg r.cells, .int .i64 who, .int .u32 batch, .int .i64 code] w fun e w' =>
    e = .returned (.tuple #[.agg (r.say who batch code).1.cells, .int .i64 (r.say who batch code).2]) ∧ Only (fun _ => False) w w' := by
  have hs : r.say who batch code = (r.stop who code, 33) := by
    unfold Rs.say
    rw [if_neg (by simp [h0]), if_neg (by omega), if_neg (by simp [h1, h2]), if_neg (by simp [h3]), if_pos h4]
  rw [hs]
  obtain ⟨c, wh, ba, on, s0, s1, s2, g⟩ := r
  simp only at h0 h1 h2 h3
  subst h0 h1 h2
  have hb : (code != 0) = true := by simpa using h4
  clear h4 hs
  rcases hw with rfl | rfl
  all_goals
    simp at h3
    subst h3
    simp only [Rs.cells]
    go_enter Try.func15, Try.ntmps15
    go_wp2_with fail
    refine (rstop_lit _ _ _ _ _ _ _ _ _ _ _).mono ?_
    rintro e w' ⟨rfl, o⟩
    have hh := fresh8 o
    obtain ⟨q0, q1, q2, q3, q4, q5, q6, q7, qf⟩ := facts8 hh
    go_wp2_with fail
    refine bodyPost_ret (say_res (b := w.heap.size + 1) (hh.put8 rfl _ _ _ _ _ _ _ _) rfl rfl) rfl ⟨rfl, ?_⟩
    refine Only.then_ (T := fun k => k = w.heap.size + 1) ((((Only.refl _ _).alloc _).alloc _).trans o) ?_ ?_
    · (repeat' (first | (with_reducible exact Only.refl _ _) | (with_reducible refine Only.setCell ?_ _ _ (fun _ => rfl))))
    · intro i hi e
      omega

set_option maxHeartbeats 1000000 in
theorem rsay_any (w : World) (r : Rs) (who batch code : Int) : Calls Try.prog 15 #[.agg r.cells, .int .i64 who, .int .u32 batch, .int .i64 code] w fun e w' =>
    e = .returned (.tuple #[.agg (r.say who batch code).1.cells, .int .i64 (r.say who batch code).2]) ∧ Only (fun _ => False) w w' := by
  by_cases hst : (who = 1 ∨ who = 2) ∧ r.code = 0 ∧ r.on = true ∧ batch = r.batch ∧ (if who = 1 then r.s1 else r.s2) = false ∧ code ≠ 0
  · exact rsay_stop w r who batch code hst.1 hst.2.1 hst.2.2.1 hst.2.2.2.1 hst.2.2.2.2.1 hst.2.2.2.2.2
  have HST := Lib.hid hst
  clear hst
  by_cases hw : who = 1 ∨ who = 2
  rcases hw with rfl | rfl
  · simp only [Rs.cells]
    go_enter Try.func15, Try.ntmps15
    go_wp2_with fail
    all_goals (try (exfalso; have hst := HST.out; clear HST; simp_all; done))
    all_goals
      refine bodyPost_ret (v := .tuple #[.agg (r.say 1 batch code).1.cells, .int .i64 (r.say 1 batch code).2]) ?_ rfl ⟨rfl, ?_⟩
      · simp [results, Try.results15, go_sem]
        simp_all [Rs.say, Rs.cells, Rs.stop]
      · exact ((Only.refl _ _).alloc _).alloc _
  · simp only [Rs.cells]
    go_enter Try.func15, Try.ntmps15
    go_wp2_with fail
    all_goals (try (exfalso; have hst := HST.out; clear HST; simp_all; done))
    all_goals
      refine bodyPost_ret (v := .tuple #[.agg (r.say 2 batch code).1.cells, .int .i64 (r.say 2 batch code).2]) ?_ rfl ⟨rfl, ?_⟩
      · simp [results, Try.results15, go_sem]
        simp_all [Rs.say, Rs.cells, Rs.stop]
      · exact ((Only.refl _ _).alloc _).alloc _
  · have h1 : (who != 1) = true := by simp; omega
    have h2 : (who != 2) = true := by simp; omega
    simp only [Rs.cells]
    go_enter Try.func15, Try.ntmps15
    go_wp2_with fail
    all_goals
      refine bodyPost_ret (v := .tuple #[.agg (r.say who batch code).1.cells, .int .i64 (r.say who batch code).2]) ?_ rfl ⟨rfl, ((Only.refl _ _).alloc _).alloc _⟩
      simp [results, Try.results15, go_sem]
      simp_all [Rs.say, Rs.cells]
end Go.Proofs.Ytffnjnkaefodlaa
