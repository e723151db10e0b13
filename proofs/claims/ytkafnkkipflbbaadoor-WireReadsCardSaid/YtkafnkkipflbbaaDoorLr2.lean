/- The law WireReads: a reading of kind 2. -/
import Derived.Test.YtkafnkkipflbbaaDoorLr
set_option linter.unusedSimpArgs false
set_option linter.unusedVariables false
namespace Go.Proofs.YtkafnkkipflbbaaDoor
open Go.RowKit Go.Lib

set_option maxRecDepth 100000 in
set_option maxHeartbeats 2000000 in
theorem reads_2 (w : World) (p db : Nat) (s : ByteArray) (q : Q8) (most width : Int) (hs : s.size ≤ 100000) (hE : Et w) (h : RQ w p s q) (hd : QA w db s q) :
    Calls Tryd.prog 14 #[.pointer (some ⟨p, 0, none⟩), .pointer (some ⟨db, 0, none⟩), .agg #[.int .i64 2, .int .i64 most, .int .i64 width]] w fun x w' =>
      x = .returned (.bool true) ∧ ∃ q', RQ w' p s q' ∧ QA w' db s q' ∧ Only (fun k => k = p ∨ k = db) w w' := by
  have HP := fun W h => rq_u64 W p s ⟨#[99]⟩ q (by omega) h
  have HR := fun W => q_number W s q 8 (by omega) (by decide) h.atLe
  generalize (q.number s 8).1 = y at *
  generalize (q.number s 8).2 = x at *
  simp only [Q8.cells] at HR
  have HP := Lib.hid HP
  have HR := Lib.hid HR
  have HQ := Lib.hid h
  have HE := Lib.hid hE
  have hpd : ¬ p = db := h.apart hd (by decide)
  have hdn : db ≠ w.heap.size + 1 := by have := hd.lt; omega
  have hEp : ¬ ((0 : Nat) = p ∨ (0 : Nat) = db) := by
    rintro (e | e)
    · have q1 : w.cell? ⟨p, 0, none⟩ = some (.string s) := by
        by_cases he : q.e = 0
        · exact (h.whole he).cell 0
        · obtain ⟨b, l, h1, _⟩ := h.had he
          exact h1.cell 0
      rw [← e, show w.cell? ⟨0, 0, none⟩ = _ from hE] at q1
      cases q1
    · have q1 : w.cell? ⟨db, 0, none⟩ = some (.string s) := hd.cell 0
      rw [← e, show w.cell? ⟨0, 0, none⟩ = _ from hE] at q1
      cases q1
  have HEP := Lib.hid hEp
  obtain ⟨d0, d1, d2, df⟩ := Has.facts3 hd
  have D2 : QA ((w.alloc (.cells #[.int .i64 2, .int .i64 most, .int .i64 width] 42)).alloc (.cells #[.string s, .int .i64 q.at_, .int .i64 q.e] 38)) db s q := (hd.alloc _).alloc _
  have C2 : Has ((w.alloc (.cells #[.int .i64 2, .int .i64 most, .int .i64 width] 42)).alloc (.cells #[.string s, .int .i64 q.at_, .int .i64 q.e] 38)) w.heap.size 42 #[.int .i64 2, .int .i64 most, .int .i64 width] := (Has.new _ _ _).alloc _
  have N2 : QA ((w.alloc (.cells #[.int .i64 2, .int .i64 most, .int .i64 width] 42)).alloc (.cells #[.string s, .int .i64 q.at_, .int .i64 q.e] 38)) (w.heap.size + 1) s q := has_new2 _ _ _ _
  have O2 : Only (fun k => k = p ∨ k = db) w ((w.alloc (.cells #[.int .i64 2, .int .i64 most, .int .i64 width] 42)).alloc (.cells #[.string s, .int .i64 q.at_, .int .i64 q.e] 38)) := ((Only.refl _ _).alloc _).alloc _
  have Q2 : RQ ((w.alloc (.cells #[.int .i64 2, .int .i64 most, .int .i64 width] 42)).alloc (.cells #[.string s, .int .i64 q.at_, .int .i64 q.e] 38)) p s q := h.inner (((Only.refl _ _).alloc _).alloc _)
  have D1 : QA (w.alloc (.cells #[.int .i64 2, .int .i64 most, .int .i64 width] 42)) db s q := hd.alloc _
  obtain ⟨g0, g1, g2⟩ := qa_facts D1
  obtain ⟨e0, e1, e2⟩ := qa_facts D2
  obtain ⟨f0, f1, f2, ff⟩ := Has.facts3 C2
  have HQ2 := Lib.hid Q2
  clear h hE Q2 hEp
  go_enter Tryd.func14, Tryd.ntmps14
  go_upto_block 0 with fail
  go_cut [8] (fun s8 W => s8 = .bool true ∧ RQ W p s y ∧ QA W (w.heap.size + 1) s y ∧ QA W db s q ∧ Only (fun k => k = p ∨ k = db) w W)
  case first =>
    go_wp2_with fail
    refine (HR.out _).mono ?_; rintro e w1 ⟨rfl, o1⟩
    have N3 : QA (w1.alloc (.cells #[.string s, .int .i64 y.at_, .int .i64 y.e] 38)) w1.heap.size s y := Has.new _ _ _
    have B3 : QA (w1.alloc (.cells #[.string s, .int .i64 y.at_, .int .i64 y.e] 38)) (w.heap.size + 1) s q := (o1.has N2 (fun f => f)).alloc _
    have D3 : QA (w1.alloc (.cells #[.string s, .int .i64 y.at_, .int .i64 y.e] 38)) db s q := (o1.has D2 (fun f => f)).alloc _
    have O3 : Only (fun k => k = p ∨ k = db) w (w1.alloc (.cells #[.string s, .int .i64 y.at_, .int .i64 y.e] 38)) := (O2.then_ o1 (fun _ _ f => f.elim)).alloc _
    have R3 : RQ (w1.alloc (.cells #[.string s, .int .i64 y.at_, .int .i64 y.e] 38)) p s q := (HQ2.out.inner o1).inner ((Only.refl _ _).alloc _)
    have hnb : w.heap.size + 1 < w1.heap.size := (o1.has N2 (fun f => f)).lt
    go_wp2_with fail
    clear o1 O2 D2 N2 C2
    generalize w1.heap.size = n1 at *
    generalize w1.alloc (.cells #[.string s, .int .i64 y.at_, .int .i64 y.e] 38) = w3 at *
    have hpl : p < w.heap.size := HQ.out.lt
    have hdl : db < w.heap.size := hd.lt
    have R3d : RQ w3.drew p s q := R3.inner (Only.refl _ _).drew
    have N3d : QA w3.drew n1 s y := N3.drew
    have B3d : QA w3.drew (w.heap.size + 1) s q := B3.drew
    have D3d : QA w3.drew db s q := D3.drew
    have O3d : Only (fun k => k = p ∨ k = db) w w3.drew := O3.drew
    obtain ⟨n0, n1', n2⟩ := qa_facts N3
    obtain ⟨b0, b1, b2, bf⟩ := Has.facts3 B3
    go_region_with (go_at_call 7; (with_reducible refine (HP.out _ (by assumption)).mono ?_); rintro e w9 ⟨rfl, R9, o9⟩; have N9 : QA w9 n1 s y := Only.has o9 (by with_reducible assumption) (by show ¬ n1 = p; omega); have B9 : QA w9 (w.heap.size + 1) s q := Only.has o9 (by with_reducible assumption) (by show ¬ w.heap.size + 1 = p; omega); have D9 : QA w9 db s q := Only.has o9 (by with_reducible assumption) (by show ¬ db = p; omega); have O9 : Only (fun k => k = p ∨ k = db) w w9 := Only.then_ (by with_reducible assumption) o9 (fun i hi e => .inl e); (obtain ⟨z0, z1, z2⟩ := qa_facts N9); (obtain ⟨c0, c1, c2, cf⟩ := Has.facts3 B9))
    all_goals
      go_wp2_with fail
      go_meet
      first
        | exact ⟨rfl, RQ.put3 R9 B9 _ _ _, Has.put3 B9 rfl _ _ _, D9.off3 hdn _ _ _, O9.then_ (Only.put3 _ (w.heap.size + 1) (.string s) (.int .i64 (y.at_ : Int)) (.int .i64 y.e)) (fun i hi e => absurd hi (by have : i = w.heap.size + 1 := e; omega))⟩
        | exact ⟨rfl, RQ.inner (RQ.put3 R9 B9 _ _ _) (Only.refl _ _).drew, Has.drew (Has.put3 B9 rfl _ _ _), Has.drew (D9.off3 hdn _ _ _), Only.drew (O9.then_ (Only.put3 _ (w.heap.size + 1) (.string s) (.int .i64 (y.at_ : Int)) (.int .i64 y.e)) (fun i hi e => absurd hi (by have : i = w.heap.size + 1 := e; omega)))⟩
  case rest =>
    obtain ⟨rfl, R4, B4, D4, O4⟩ := hcut
    obtain ⟨b0, b1, b2, bf⟩ := Has.facts3 B4
    obtain ⟨d0, d1, d2, df⟩ := Has.facts3 D4
    have R5 := (RQ.put3 R4 D4 (.string s) (.int .i64 (y.at_ : Int)) (.int .i64 y.e)).inner (Only.refl _ _).drew
    have D5 : QA _ db s y := (Has.put3 D4 rfl (.string s) (.int .i64 (y.at_ : Int)) (.int .i64 y.e)).drew
    have O5 := Only.drew (O4.then_ (Only.put3 _ db (.string s) (.int .i64 (y.at_ : Int)) (.int .i64 y.e)) (fun i hi e => .inr e))
    go_wp2_with fail
    clear R4 B4 D4 O4 b0 b1 b2 bf d0 d1 d2 df
    go_region_held3 (fun W => (W.cell? ⟨db, 0, none⟩ = some (.string s) ∧ W.cell? ⟨db, 1, none⟩ = some (.int .i64 y.at_) ∧ W.cell? ⟨db, 2, none⟩ = some (.int .i64 y.e)) ∧ RQ W p s y ∧ QA W db s y ∧ Only (fun k => k = p ∨ k = db) w W) (with_reducible exact ⟨qa_facts (by assumption), by assumption, by assumption, by assumption⟩) (first
      | (go_at_call 37; refine (rq_at _ p s y (by with_reducible assumption)).mono ?_; rintro e w6 ⟨rfl, rfl⟩)
      | (go_at_call 8; refine (rq_code _ p s y (by with_reducible assumption)).mono ?_; rintro e w6 ⟨v, rfl, V6, rfl⟩)
      | (go_at_call 11; refine (code_any _ _ y.e (by with_reducible assumption) (HE.out.only (by with_reducible assumption) HEP.out)).mono ?_; rintro e w7 ⟨rfl, o7⟩; have R7 : RQ w7 p s y := RQ.inner (by with_reducible assumption) o7; have D7 : QA w7 db s y := Only.has o7 (by with_reducible assumption) (fun f => f); have O7 : Only (fun k => k = p ∨ k = db) w w7 := Only.then_ (by with_reducible assumption) o7 (fun _ _ f => f.elim)))
    rename_i hS
    obtain ⟨_, R8, D8, O8⟩ := hS
    go_wp2_with fail
    go_ret
    exact ⟨rfl, y, R8, D8, O8⟩
end Go.Proofs.YtkafnkkipflbbaaDoor
