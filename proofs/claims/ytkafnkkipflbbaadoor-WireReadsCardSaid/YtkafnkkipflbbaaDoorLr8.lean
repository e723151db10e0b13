/- The law WireReads: a reading of kind 8. -/
import Derived.Test.YtkafnkkipflbbaaDoorLr
set_option linter.unusedSimpArgs false
set_option linter.unusedVariables false
namespace Go.Proofs.YtkafnkkipflbbaaDoor
open Go.RowKit Go.Lib

set_option maxRecDepth 100000 in
set_option maxHeartbeats 2000000 in
theorem reads_8 (w : World) (p db : Nat) (s : ByteArray) (q : Q8) (kind most width : Int) (hk : ∀ j : Int, 0 ≤ j → j ≤ 7 → kind ≠ j) (hs : s.size ≤ 100000) (hE : Et w) (h : RQ w p s q) (hd : QA w db s q) :
    Calls Tryd.prog 14 #[.pointer (some ⟨p, 0, none⟩), .pointer (some ⟨db, 0, none⟩), .agg #[.int .i64 kind, .int .i64 most, .int .i64 width]] w fun x w' =>
      x = .returned (.bool true) ∧ ∃ q', RQ w' p s q' ∧ QA w' db s q' ∧ Only (fun k => k = p ∨ k = db) w w' := by
  have HP := fun W h => rq_fail W p s ⟨#[104]⟩ q 15 (by decide) h
  have HR := fun W => q_failed W s q 15
  generalize q.fail 15 = y at *
  simp only [Q8.cells] at HR
  have k0 : (kind == 0) = false := by simpa using hk 0 (by decide) (by decide)
  have k1 : (kind == 1) = false := by simpa using hk 1 (by decide) (by decide)
  have k2 : (kind == 2) = false := by simpa using hk 2 (by decide) (by decide)
  have k3 : (kind == 3) = false := by simpa using hk 3 (by decide) (by decide)
  have k4 : (kind == 4) = false := by simpa using hk 4 (by decide) (by decide)
  have k5 : (kind == 5) = false := by simpa using hk 5 (by decide) (by decide)
  have k6 : (kind == 6) = false := by simpa using hk 6 (by decide) (by decide)
  have k7 : (kind == 7) = false := by simpa using hk 7 (by decide) (by decide)
  clear hk
  have HP := Lib.hid HP
  have HR := Lib.hid HR
  have HQ := Lib.hid h
  have HE := Lib.hid hE
  have hpd : ¬ p = db := h.apart hd (by decide)
  have hdn : db ≠ w.heap.size + 1 := by have := hd.lt; omega
  have hEp : ¬ ((0 : Nat) = p ∨ (0 : Nat) = db) := by
    rintro (e | e)
    · have q1 : w.cell? ⟨p, 0, none⟩ = some (.string s) := by
        by_cases he : q.e = 0
        · exact (h.whole he).cell 0
        · obtain ⟨b, l, h1, _⟩ := h.had he
          exact h1.cell 0
      rw [← e, show w.cell? ⟨0, 0, none⟩ = _ from hE] at q1
      cases q1
    · have q1 : w.cell? ⟨db, 0, none⟩ = some (.string s) := hd.cell 0
      rw [← e, show w.cell? ⟨0, 0, none⟩ = _ from hE] at q1
      cases q1
  have HEP := Lib.hid hEp
  obtain ⟨d0, d1, d2, df⟩ := Has.facts3 hd
  have D2 : QA ((w.alloc (.cells #[.int .i64 kind, .int .i64 most, .int .i64 width] 42)).alloc (.cells #[.string s, .int .i64 q.at_, .int .i64 q.e] 38)) db s q := (hd.alloc _).alloc _
  have C2 : Has ((w.alloc (.cells #[.int .i64 kind, .int .i64 most, .int .i64 width] 42)).alloc (.cells #[.string s, .int .i64 q.at_, .int .i64 q.e] 38)) w.heap.size 42 #[.int .i64 kind, .int .i64 most, .int .i64 width] := (Has.new _ _ _).alloc _
  have N2 : QA ((w.alloc (.cells #[.int .i64 kind, .int .i64 most, .int .i64 width] 42)).alloc (.cells #[.string s, .int .i64 q.at_, .int .i64 q.e] 38)) (w.heap.size + 1) s q := has_new2 _ _ _ _
  have O2 : Only (fun k => k = p ∨ k = db) w ((w.alloc (.cells #[.int .i64 kind, .int .i64 most, .int .i64 width] 42)).alloc (.cells #[.string s, .int .i64 q.at_, .int .i64 q.e] 38)) := ((Only.refl _ _).alloc _).alloc _
  have Q2 : RQ ((w.alloc (.cells #[.int .i64 kind, .int .i64 most, .int .i64 width] 42)).alloc (.cells #[.string s, .int .i64 q.at_, .int .i64 q.e] 38)) p s q := h.inner (((Only.refl _ _).alloc _).alloc _)
  have D1 : QA (w.alloc (.cells #[.int .i64 kind, .int .i64 most, .int .i64 width] 42)) db s q := hd.alloc _
  obtain ⟨g0, g1, g2⟩ := qa_facts D1
  obtain ⟨e0, e1, e2⟩ := qa_facts D2
  obtain ⟨f0, f1, f2, ff⟩ := Has.facts3 C2
  have HQ2 := Lib.hid Q2
  clear h hE Q2 hEp
  go_enter Tryd.func14, Tryd.ntmps14
  go_upto_block 0 with fail
  go_cut [8] (fun s8 W => s8 = .bool true ∧ RQ W p s y ∧ QA W (w.heap.size + 1) s y ∧ QA W db s q ∧ Only (fun k => k = p ∨ k = db) w W)
  case first =>
    go_wp2_with fail
    refine (HR.out _).mono ?_; rintro e w1 ⟨rfl, o1⟩
    have hnb : w.heap.size + 1 < w1.heap.size := (o1.has N2 (fun f => f)).lt
    have N1 := o1.has N2 (fun f => f)
    have hpl : p < w.heap.size := HQ.out.lt
    have hdl : db < w.heap.size := hd.lt
    have R3 := RQ.put3 (HQ2.out.inner o1) N1 (.string s) (.int .i64 (y.at_ : Int)) (.int .i64 y.e)
    have B3 : QA _ (w.heap.size + 1) s y := Has.put3 N1 rfl (.string s) (.int .i64 (y.at_ : Int)) (.int .i64 y.e)
    have D3 := (o1.has D2 (fun f => f)).off3 hdn (.string s) (.int .i64 (y.at_ : Int)) (.int .i64 y.e)
    have O3 := (O2.then_ o1 (fun _ _ f => f.elim)).then_ (Only.put3 _ (w.heap.size + 1) (.string s) (.int .i64 (y.at_ : Int)) (.int .i64 y.e)) (fun i hi e => absurd hi (by have : i = w.heap.size + 1 := e; omega))
    obtain ⟨b0, b1, b2, bf⟩ := Has.facts3 N1
    go_wp2_with fail
    refine (HP.out _ R3).mono ?_; rintro e w6 ⟨rfl, R6, o6⟩
    go_wp2_with fail
    go_meet
    exact ⟨rfl, R6, o6.has B3 (by show ¬ w.heap.size + 1 = p; omega), o6.has D3 (by show ¬ db = p; omega), O3.then_ o6 (fun i hi e => .inl e)⟩
  case rest =>
    obtain ⟨rfl, R4, B4, D4, O4⟩ := hcut
    obtain ⟨b0, b1, b2, bf⟩ := Has.facts3 B4
    obtain ⟨d0, d1, d2, df⟩ := Has.facts3 D4
    have R5 := (RQ.put3 R4 D4 (.string s) (.int .i64 (y.at_ : Int)) (.int .i64 y.e)).inner (Only.refl _ _).drew
    have D5 : QA _ db s y := (Has.put3 D4 rfl (.string s) (.int .i64 (y.at_ : Int)) (.int .i64 y.e)).drew
    have O5 := Only.drew (O4.then_ (Only.put3 _ db (.string s) (.int .i64 (y.at_ : Int)) (.int .i64 y.e)) (fun i hi e => .inr e))
    go_wp2_with fail
    clear R4 B4 D4 O4 b0 b1 b2 bf d0 d1 d2 df
    go_region_held3 (fun W => (W.cell? ⟨db, 0, none⟩ = some (.string s) ∧ W.cell? ⟨db, 1, none⟩ = some (.int .i64 y.at_) ∧ W.cell? ⟨db, 2, none⟩ = some (.int .i64 y.e)) ∧ RQ W p s y ∧ QA W db s y ∧ Only (fun k => k = p ∨ k = db) w W) (with_reducible exact ⟨qa_facts (by assumption), by assumption, by assumption, by assumption⟩) (first
      | (go_at_call 37; refine (rq_at _ p s y (by with_reducible assumption)).mono ?_; rintro e w6 ⟨rfl, rfl⟩)
      | (go_at_call 8; refine (rq_code _ p s y (by with_reducible assumption)).mono ?_; rintro e w6 ⟨v, rfl, V6, rfl⟩)
      | (go_at_call 11; refine (code_any _ _ y.e (by with_reducible assumption) (HE.out.only (by with_reducible assumption) HEP.out)).mono ?_; rintro e w7 ⟨rfl, o7⟩; have R7 : RQ w7 p s y := RQ.inner (by with_reducible assumption) o7; have D7 : QA w7 db s y := Only.has o7 (by with_reducible assumption) (fun f => f); have O7 : Only (fun k => k = p ∨ k = db) w w7 := Only.then_ (by with_reducible assumption) o7 (fun _ _ f => f.elim)))
    rename_i hS
    obtain ⟨_, R8, D8, O8⟩ := hS
    go_wp2_with fail
    go_ret
    exact ⟨rfl, y, R8, D8, O8⟩
end Go.Proofs.YtkafnkkipflbbaaDoor
