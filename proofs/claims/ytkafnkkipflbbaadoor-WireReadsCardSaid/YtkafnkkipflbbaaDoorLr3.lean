/- The law WireReads: a reading of kind 3. -/
import Derived.Test.YtkafnkkipflbbaaDoorLr
set_option linter.unusedSimpArgs false
set_option linter.unusedVariables false
namespace Go.Proofs.YtkafnkkipflbbaaDoor
open Go.RowKit Go.Lib

set_option maxRecDepth 100000 in
set_option maxHeartbeats 8000000 in
theorem reads_3 (w : World) (p db : Nat) (s : ByteArray) (q : Q8) (most width : Int) (hs : s.size ≤ 100000) (hE : Et w) (h : RQ w p s q) (hd : QA w db s q) :
    Calls Tryd.prog 14 #[.pointer (some ⟨p, 0, none⟩), .pointer (some ⟨db, 0, none⟩), .agg #[.int .i64 3, .int .i64 most, .int .i64 width]] w fun x w' =>
      x = .returned (.bool true) ∧ ∃ q', RQ w' p s q' ∧ QA w' db s q' ∧ Only (fun k => k = p ∨ k = db) w w' := by
  have HP := fun W h => rq_blob W p s ⟨#[100]⟩ q most (by omega) h
  have HR := fun W => q_blob W s q most (by omega) h.atLe
  generalize (q.blob s most).1 = y at *
  generalize (q.blob s most).2 = x at *
  simp only [Q8.cells] at HR
  have HP := Lib.hid HP
  have HR := Lib.hid HR
  have HQ := Lib.hid h
  have HE := Lib.hid hE
  have hpd : ¬ p = db := h.apart hd (by decide)
  have hdn : db ≠ w.heap.size + 1 := by have := hd.lt; omega
  have hEp : ¬ ((0 : Nat) = p ∨ (0 : Nat) = db) := by
    rintro (e | e)
    · have q1 : w.cell? ⟨p, 0, none⟩ = some (.string s) := by
        by_cases he : q.e = 0
        · exact (h.whole he).cell 0
        · obtain ⟨b, l, h1, _⟩ := h.had he
          exact h1.cell 0
      rw [← e, show w.cell? ⟨0, 0, none⟩ = _ from hE] at q1
      cases q1
    · have q1 : w.cell? ⟨db, 0, none⟩ = some (.string s) := hd.cell 0
      rw [← e, show w.cell? ⟨0, 0, none⟩ = _ from hE] at q1
      cases q1
  have HEP := Lib.hid hEp
  obtain ⟨d0, d1, d2, df⟩ := Has.facts3 hd
  have D2 : QA ((w.alloc (.cells #[.int .i64 3, .int .i64 most, .int .i64 width] 42)).alloc (.cells #[.string s, .int .i64 q.at_, .int .i64 q.e] 38)) db s q := (hd.alloc _).alloc _
  have C2 : Has ((w.alloc (.cells #[.int .i64 3, .int .i64 most, .int .i64 width] 42)).alloc (.cells #[.string s, .int .i64 q.at_, .int .i64 q.e] 38)) w.heap.size 42 #[.int .i64 3, .int .i64 most, .int .i64 width] := (Has.new _ _ _).alloc _
  have N2 : QA ((w.alloc (.cells #[.int .i64 3, .int .i64 most, .int .i64 width] 42)).alloc (.cells #[.string s, .int .i64 q.at_, .int .i64 q.e] 38)) (w.heap.size + 1) s q := has_new2 _ _ _ _
  have O2 : Only (fun k => k = p ∨ k = db) w ((w.alloc (.cells #[.int .i64 3, .int .i64 most, .int .i64 width] 42)).alloc (.cells #[.string s, .int .i64 q.at_, .int .i64 q.e] 38)) := ((Only.refl _ _).alloc _).alloc _
  have Q2 : RQ ((w.alloc (.cells #[.int .i64 3, .int .i64 most, .int .i64 width] 42)).alloc (.cells #[.string s, .int .i64 q.at_, .int .i64 q.e] 38)) p s q := h.inner (((Only.refl _ _).alloc _).alloc _)
  have D1 : QA (w.alloc (.cells #[.int .i64 3, .int .i64 most, .int .i64 width] 42)) db s q := hd.alloc _
  obtain ⟨g0, g1, g2⟩ := qa_facts D1
  obtain ⟨e0, e1, e2⟩ := qa_facts D2
  obtain ⟨f0, f1, f2, ff⟩ := Has.facts3 C2
  have HQ2 := Lib.hid Q2
  clear h hE Q2 hEp
  go_enter Tryd.func14, Tryd.ntmps14
  go_upto_block 0 with fail
  go_cut [8] (fun s8 W => s8 = .bool true ∧ RQ W p s y ∧ QA W (w.heap.size + 1) s y ∧ QA W db s q ∧ Only (fun k => k = p ∨ k = db) w W)
  case first =>
    go_wp2_with fail
    have HC2 := Lib.hid C2
    have hs2 : ((w.alloc (.cells #[.int .i64 3, .int .i64 most, .int .i64 width] 42)).alloc (.cells #[.string s, .int .i64 q.at_, .int .i64 q.e] 38)).heap.size = w.heap.size + 2 := by simp
    clear C2 f0 f1 f2 ff e0 e1 e2 g0 g1 g2 D1
    obtain ⟨e0, e1, e2⟩ := qa_facts D2
    obtain ⟨f0, f1, f2, ff⟩ := Has.facts3 HC2.out
    generalize ((w.alloc (.cells #[.int .i64 3, .int .i64 most, .int .i64 width] 42)).alloc (.cells #[.string s, .int .i64 q.at_, .int .i64 q.e] 38)) = w2 at *
    have HS2 := Lib.hid hs2
    clear hs2
    have G0 : ∀ o, (w2.alloc o).cell? ⟨db, 0, none⟩ = some (.string s) := fun o => (D2.alloc o).cell 0
    have G1 : ∀ o, (w2.alloc o).cell? ⟨db, 1, none⟩ = some (.int .i64 q.at_) := fun o => (D2.alloc o).cell 1
    have G2 : ∀ o, (w2.alloc o).cell? ⟨db, 2, none⟩ = some (.int .i64 q.e) := fun o => (D2.alloc o).cell 2
    have G3 : ∀ o, (w2.alloc o).cell? ⟨w.heap.size, 1, none⟩ = some (.int .i64 most) := fun o => (HC2.out.alloc o).cell 1
    have G4 : ∀ o, (w2.alloc o).cell? ⟨w.heap.size, 2, none⟩ = some (.int .i64 width) := fun o => (HC2.out.alloc o).cell 2
    go_cut [15, 16] (fun sa sb W => ∃ (n1 : Nat), sa = .pointer (some ⟨n1, 0, none⟩) ∧ w.heap.size + 2 ≤ n1 ∧ QA W n1 s y ∧ QA W (w.heap.size + 1) s q ∧ QA W db s q ∧ Has W w.heap.size 42 #[.int .i64 3, .int .i64 most, .int .i64 width] ∧ RQ W p s q ∧ Only (fun k => k = p ∨ k = db) w W ∧ sb = .string x)
    case first =>
      go_region_with (go_at_call 25; (with_reducible refine (HR.out _).mono ?_); rintro e w1 ⟨rfl, o1⟩; first | (have Z1 : Has w1 w2.heap.size 38 #[.string ⟨#[]⟩, .int .i64 0, .int .i64 0] := Only.has o1 (Has.new w2 38 #[.string ⟨#[]⟩, .int .i64 0, .int .i64 0]).drew (fun f => f); obtain ⟨z0, z1, z2, zf⟩ := Has.facts3 Z1) | (have Z1 : Has w1 w2.heap.size 38 #[.string ⟨#[]⟩, .int .i64 0, .int .i64 0] := Only.has o1 (Has.new w2.drew 38 #[.string ⟨#[]⟩, .int .i64 0, .int .i64 0]) (fun f => f); obtain ⟨z0, z1, z2, zf⟩ := Has.facts3 Z1) | (have Z1 : Has w1 w2.heap.size 38 #[.string ⟨#[]⟩, .int .i64 0, .int .i64 0] := Only.has o1 (Has.new w2 38 #[.string ⟨#[]⟩, .int .i64 0, .int .i64 0]) (fun f => f); obtain ⟨z0, z1, z2, zf⟩ := Has.facts3 Z1) | skip)
      all_goals
        go_wp2_with fail
        go_meet
        first
          | (have _hz := Z1
             have o1' : Only (fun _ => False) w2 w1 := Only.trans ((Only.refl (fun _ => False) w2).alloc (.cells #[.string ⟨#[]⟩, .int .i64 0, .int .i64 0] 38)).drew o1
             exact ⟨w2.heap.size, rfl, by rw [HS2.out]; exact Nat.le_refl _, Has.put3 Z1 rfl _ _ _, (o1'.has N2 (fun f => f)).off3 (by have := N2.lt; omega) _ _ _, (o1'.has D2 (fun f => f)).off3 (by have := D2.lt; omega) _ _ _, (o1'.has HC2.out (fun f => f)).off3 (by have := HC2.out.lt; omega) _ _ _, RQ.put3 (HQ2.out.inner o1') Z1 _ _ _, (O2.then_ o1' (fun _ _ f => f.elim)).then_ (Only.put3 _ w2.heap.size (.string s) (.int .i64 (y.at_ : Int)) (.int .i64 y.e)) (fun i hi e => absurd hi (by have : i = w2.heap.size := e; have := HS2.out; omega)), rfl⟩)
          | (have o1' : Only (fun _ => False) w2 w1 := Only.trans ((Only.refl (fun _ => False) w2).drew) o1
             exact ⟨w1.heap.size, rfl, by have h1 := o1'.size; rw [HS2.out] at h1; exact h1, Has.new _ _ _, (o1'.has N2 (fun f => f)).alloc _, (o1'.has D2 (fun f => f)).alloc _, (o1'.has HC2.out (fun f => f)).alloc _, (HQ2.out.inner o1').inner ((Only.refl _ _).alloc _), (O2.then_ o1' (fun _ _ f => f.elim)).alloc _, rfl⟩)
    case rest =>
    obtain ⟨n1, rfl, hn1, N3, B3, D3, C3, R3, O3, rfl⟩ := hcut
    clear G0 G1 G2 G3 G4 N2 D2 HC2 HQ2 HS2 O2 e0 e1 e2 f0 f1 f2 ff
    obtain ⟨f0, f1, f2, ff⟩ := Has.facts3 C3
    have hnb : w.heap.size + 1 < n1 := by omega
    go_wp2_with fail
    generalize hw3 : wc = w3 at *
    have hpl : p < w.heap.size := HQ.out.lt
    have hdl : db < w.heap.size := hd.lt
    have R3d : RQ w3.drew p s q := R3.inner (Only.refl _ _).drew
    have N3d : QA w3.drew n1 s y := N3.drew
    have B3d : QA w3.drew (w.heap.size + 1) s q := B3.drew
    have D3d : QA w3.drew db s q := D3.drew
    have O3d : Only (fun k => k = p ∨ k = db) w w3.drew := O3.drew
    obtain ⟨n0, n1', n2⟩ := qa_facts N3
    obtain ⟨b0, b1, b2, bf⟩ := Has.facts3 B3
    go_region_with (go_at_call 12; (with_reducible refine (HP.out _ (by assumption)).mono ?_); rintro e w9 ⟨rfl, R9, o9⟩; have N9 : QA w9 n1 s y := Only.has o9 (by with_reducible assumption) (by show ¬ n1 = p; omega); have B9 : QA w9 (w.heap.size + 1) s q := Only.has o9 (by with_reducible assumption) (by show ¬ w.heap.size + 1 = p; omega); have D9 : QA w9 db s q := Only.has o9 (by with_reducible assumption) (by show ¬ db = p; omega); have O9 : Only (fun k => k = p ∨ k = db) w w9 := Only.then_ (by with_reducible assumption) o9 (fun i hi e => .inl e); (obtain ⟨z0, z1, z2⟩ := qa_facts N9); (obtain ⟨c0, c1, c2, cf⟩ := Has.facts3 B9))
    all_goals
      go_wp2_with fail
      go_meet
      first
        | exact ⟨rfl, RQ.put3 R9 B9 _ _ _, Has.put3 B9 rfl _ _ _, D9.off3 hdn _ _ _, O9.then_ (Only.put3 _ (w.heap.size + 1) (.string s) (.int .i64 (y.at_ : Int)) (.int .i64 y.e)) (fun i hi e => absurd hi (by have : i = w.heap.size + 1 := e; omega))⟩
        | exact ⟨rfl, RQ.inner (RQ.put3 R9 B9 _ _ _) (Only.refl _ _).drew, Has.drew (Has.put3 B9 rfl _ _ _), Has.drew (D9.off3 hdn _ _ _), Only.drew (O9.then_ (Only.put3 _ (w.heap.size + 1) (.string s) (.int .i64 (y.at_ : Int)) (.int .i64 y.e)) (fun i hi e => absurd hi (by have : i = w.heap.size + 1 := e; omega)))⟩
  case rest =>
    obtain ⟨rfl, R4, B4, D4, O4⟩ := hcut
    obtain ⟨b0, b1, b2, bf⟩ := Has.facts3 B4
    obtain ⟨d0, d1, d2, df⟩ := Has.facts3 D4
    have R5 := (RQ.put3 R4 D4 (.string s) (.int .i64 (y.at_ : Int)) (.int .i64 y.e)).inner (Only.refl _ _).drew
    have D5 : QA _ db s y := (Has.put3 D4 rfl (.string s) (.int .i64 (y.at_ : Int)) (.int .i64 y.e)).drew
    have O5 := Only.drew (O4.then_ (Only.put3 _ db (.string s) (.int .i64 (y.at_ : Int)) (.int .i64 y.e)) (fun i hi e => .inr e))
    go_wp2_with fail
    clear R4 B4 D4 O4 b0 b1 b2 bf d0 d1 d2 df
    go_region_held3 (fun W => (W.cell? ⟨db, 0, none⟩ = some (.string s) ∧ W.cell? ⟨db, 1, none⟩ = some (.int .i64 y.at_) ∧ W.cell? ⟨db, 2, none⟩ = some (.int .i64 y.e)) ∧ RQ W p s y ∧ QA W db s y ∧ Only (fun k => k = p ∨ k = db) w W) (with_reducible exact ⟨qa_facts (by assumption), by assumption, by assumption, by assumption⟩) (first
      | (go_at_call 37; refine (rq_at _ p s y (by with_reducible assumption)).mono ?_; rintro e w6 ⟨rfl, rfl⟩)
      | (go_at_call 8; refine (rq_code _ p s y (by with_reducible assumption)).mono ?_; rintro e w6 ⟨v, rfl, V6, rfl⟩)
      | (go_at_call 11; refine (code_any _ _ y.e (by with_reducible assumption) (HE.out.only (by with_reducible assumption) HEP.out)).mono ?_; rintro e w7 ⟨rfl, o7⟩; have R7 : RQ w7 p s y := RQ.inner (by with_reducible assumption) o7; have D7 : QA w7 db s y := Only.has o7 (by with_reducible assumption) (fun f => f); have O7 : Only (fun k => k = p ∨ k = db) w w7 := Only.then_ (by with_reducible assumption) o7 (fun _ _ f => f.elim)))
    rename_i hS
    obtain ⟨_, R8, D8, O8⟩ := hS
    go_wp2_with fail
    go_ret
    exact ⟨rfl, y, R8, D8, O8⟩
end Go.Proofs.YtkafnkkipflbbaaDoor
