/- Chapter 31: the law VerdictStays walked. -/
import Derived.Test.YtffnjnkaefodlaaVc
import Derived.Test.YtffnjnkaefodlaaArg
import Derived.Deep.LoopGhost
import Derived.LoopTactic
set_option linter.unusedSimpArgs false
set_option linter.unusedVariables false
namespace Go.Proofs.Ytffnjnkaefodlaa
open Go.RowKit

structure Act where
  kind : Int
  who : Int
  batch : Int
  code : Int
instance : Inhabited Act := ⟨⟨0, 0, 0, 0⟩⟩

/-- The i-th of a slice of acts. -/
def ActAt (w : World) (A : Option Addr) (i : Nat) (a : Act) : Prop :=
  ∃ ad, A = some ad ∧ ad.block < w.heap.size ∧ w.cell? (ad.add (i * 4)) = some (.int .i64 a.kind) ∧ w.cell? ⟨(ad.add (i * 4)).block, (ad.add (i * 4)).off + 1, none⟩ = some (.int .i64 a.who) ∧
    w.cell? ⟨(ad.add (i * 4)).block, (ad.add (i * 4)).off + 2, none⟩ = some (.int .u32 a.batch) ∧ w.cell? ⟨(ad.add (i * 4)).block, (ad.add (i * 4)).off + 3, none⟩ = some (.int .i64 a.code)
def Acts (w : World) (A : Option Addr) (l : List Act) : Prop := ∀ i, i < l.length → ActAt w A i (l.getD i default)

theorem block_add (a : Addr) (n : Nat) : (a.add n).block = a.block := by unfold Addr.add; split <;> rfl
theorem Acts.only {w w' : World} {A : Option Addr} {l : List Act} {S : Nat → Prop} (h : Acts w A l) (o : Only S w w') (hS : ∀ k, k < w.heap.size → ¬ S k) : Acts w' A l := by
  intro i hi
  obtain ⟨ad, e, hb, h0, h1, h2, h3⟩ := h i hi
  have q : ∀ p : Addr, p.block = ad.block → ∀ v, w.cell? p = some v → w'.cell? p = some v := fun p hp v hc => o.cell hc (by rw [hp]; exact hS _ hb)
  exact ⟨ad, e, Nat.lt_of_lt_of_le hb o.size, q _ (block_add ad _) _ h0, q ⟨_, _, none⟩ (block_add ad _) _ h1, q ⟨_, _, none⟩ (block_add ad _) _ h2, q ⟨_, _, none⟩ (block_add ad _) _ h3⟩

theorem begin_ok {s : St} {batch : Int} (hc : s.code = 0) (hm : s.made = true) : s.begin_ batch = if s.on = true then (s, 8) else ({ s with batch := batch, on := true, own := false, other := false }, 0) := by
  simp [St.begin_, St.ready, hc, hm]
theorem say_ok {s : St} {who batch : Int} (hc : s.code = 0) (hm : s.made = true) (hso : s.on = true → ¬ (s.own = true ∧ s.other = true)) (hg : 0 ≤ s.good ∧ s.good ≤ 100) : (∃ n, s.say who batch 0 = (s, n) ∧ n ≠ 0) ∨
    (who = 1 ∧ s.own = false ∧ s.other = false ∧ s.say who batch 0 = ({ s with own := true }, 0)) ∨ (who = 1 ∧ s.own = false ∧ s.other = true ∧ s.say who batch 0 = ({ s with own := true, on := false, good := s.good + 1 }, 0)) ∨
    (who = 2 ∧ s.other = false ∧ s.own = false ∧ s.say who batch 0 = ({ s with other := true }, 0)) ∨ (who = 2 ∧ s.other = false ∧ s.own = true ∧ s.say who batch 0 = ({ s with other := true, on := false, good := s.good + 1 }, 0)) := by
  have hr : s.ready = 0 := by simp [St.ready, hc, hm]
  have hw : wrap64 (s.good + 1) = s.good + 1 := by unfold wrap64; omega
  unfold St.say
  rw [if_neg (by simp [hr])]
  by_cases h1 : who ≠ 1 ∧ who ≠ 2
  · rw [if_pos h1]; exact .inl ⟨1, rfl, by decide⟩
  rw [if_neg h1]
  by_cases h2 : s.on = false ∨ batch ≠ s.batch
  · rw [if_pos h2]; exact .inl ⟨8, rfl, by decide⟩
  rw [if_neg h2]
  have hne := hso (by cases h : s.on <;> simp_all)
  by_cases h3 : (who = 1 ∧ s.own = true) ∨ (who = 2 ∧ s.other = true)
  · rw [if_pos h3]; exact .inl ⟨7, rfl, by decide⟩
  rw [if_neg h3, if_neg (by simp)]
  right
  cases ho : s.own <;> cases ht : s.other <;> by_cases e1 : who = 1 <;> by_cases e2 : who = 2 <;> simp_all

theorem stopped {s : St} {code : Int} (hc : s.code = 0) (hm : s.made = true) (h : ¬ code = 0) : s.stop 1 code = { s with code := code, who := 1, on := false } := by
  have hr : s.ready = 0 := by simp [St.ready, hc, hm]
  simp [St.stop, hr, h]
theorem ready_stopped {s : St} (hc : ¬ s.code = 0) (hm : s.made = true) : s.ready = 33 := by simp [St.ready, hc, hm]
theorem stop_stopped {s : St} (h : s.ready = 33) (a b : Int) : s.stop a b = s := by simp [St.stop, h]
theorem begin_stopped {s : St} (h : s.ready = 33) (a : Int) : s.begin_ a = (s, 33) := by simp [St.begin_, h]
theorem say_stopped {s : St} (h : s.ready = 33) (a b c : Int) : s.say a b c = (s, 33) := by simp [St.say, h]
theorem new4 {W wr : World} {S : Nat → Prop} {t : TypeId} {x0 x1 x2 x3 : Value} (o : Only S (wr.alloc (.cells #[x0, x1, x2, x3] t)) W) (h : ¬ S wr.heap.size) :
    W.cell? ⟨wr.heap.size, 0, none⟩ = some x0 ∧ W.cell? ⟨wr.heap.size, 1, none⟩ = some x1 ∧ W.cell? ⟨wr.heap.size, 2, none⟩ = some x2 ∧ W.cell? ⟨wr.heap.size, 3, none⟩ = some x3 := by
  have n := o.has (Has.new wr t #[x0, x1, x2, x3]) h
  exact ⟨n.cell 0, n.cell 1, n.cell 2, n.cell 3⟩

set_option maxRecDepth 100000 in
set_option maxHeartbeats 1000000 in
theorem stays_any (w : World) (A B : Option Addr) (l m : List Act) (code : Int) (cA cB : Nat) (hl : l.length ≤ 9223372036854775807) (hm : m.length ≤ 9223372036854775807) (ha : Acts w A l) (hb : Acts w B m) :
    Calls Try.prog 3 #[.slice A l.length cA, .int .i64 code, .slice B m.length cB] w fun e w' => e = .returned (.bool true) ∧ Only (fun _ => False) w w' := by
  by_cases hc : code = 0
  · subst hc
    go_enter Try.func3, Try.ntmps3
    go_wp2_with fail
    refine (awake_any _).mono ?_; rintro e w1 ⟨rfl, o1⟩
    go_wp2_with fail
    go_ret
    exact ⟨rfl, o1⟩
  · have HC := Lib.hid hc
    have hc' : (code == 0) = false := by simpa using hc
    clear hc
    go_enter Try.func3, Try.ntmps3
    go_wp2_with fail
    refine (new_any _).mono ?_; rintro e w1 ⟨rfl, o1, a1, z1⟩
    have Z1 := Lib.hid z1
    clear z1
    go_wp2_with fail
    go_loopw [8, 9, 10, 11] (fun g own other i wr => ∃ (k : Nat) (s : St), k ≤ l.length ∧ k ≤ 40 ∧ i = .int .i64 k ∧ g = .int .i64 s.good ∧ own = .bool s.own ∧ other = .bool s.other ∧ s.code = 0 ∧ s.made = true ∧
        (s.on = true → ¬ (s.own = true ∧ s.other = true)) ∧ 0 ≤ s.good ∧ s.good ≤ k ∧ At wr w.heap.size s ∧ Only (fun _ => False) w wr) (fun _ _ _ i _ => 40 - (intOf i).toNat)
    case atStart => exact ⟨0, _, Nat.zero_le _, by omega, rfl, rfl, rfl, rfl, rfl, rfl, by simp, by simp, by simp, a1, o1⟩
    case round =>
      obtain ⟨k, s, hk, hk40, rfl, rfl, rfl, rfl, hsc, hsm, hso, hg0, hgk, hat, ho⟩ := hrel
      have hlt' : k < l.length ∧ k < 40 ∨ (k = l.length ∨ k = 40 ∧ 40 < l.length) := by omega
      rcases hlt' with ⟨hlt, hlt40⟩ | hend
      · obtain ⟨ad, hA, hadb, c0, c1, c2, c3⟩ := (ha.only ho fun _ _ f => f) k hlt
        generalize l.getD k default = a at c0 c1 c2 c3
        subst hA
        have hbl := hat.lt
        by_cases hk0 : a.kind = 0
        · have b0 : (a.kind == 0) = true := by simpa using hk0
          have b1 : (a.kind == 1) = false := by simp [hk0]
          clear hk0
          cases hon : s.on
          · go_wp2_with fail
            refine (begin_any _ _ s a.batch (hat.alloc _)).mono ?_
            rw [begin_ok hsc hsm, if_neg (by simp [hon])]
            rintro e w2 ⟨rfl, o2, a2⟩
            obtain ⟨d0, d1, d2, d3⟩ := new4 o2 (by omega)
            go_wp2_with fail
            go_roundw
            case rel => exact ⟨k + 1, { s with batch := a.batch, on := true, own := false, other := false }, by omega, by omega, by go_num, rfl, rfl, rfl, hsc, hsm, by simp, hg0, by simp only; omega, a2, (ho.alloc _).then_ o2 (fun i hi e => absurd hi (by omega))⟩
            case measure => simp [intOf]; omega
          · go_wp2_with fail
            refine (begin_any _ _ s a.batch (hat.alloc _)).mono ?_
            rw [begin_ok hsc hsm, if_pos hon]
            rintro e w2 ⟨rfl, o2, a2⟩
            obtain ⟨d0, d1, d2, d3⟩ := new4 o2 (by omega)
            go_wp2_with fail
            go_roundw
            case rel => exact ⟨k + 1, s, by omega, by omega, by go_num, rfl, rfl, rfl, hsc, hsm, hso, hg0, by omega, a2, (ho.alloc _).then_ o2 (fun i hi e => absurd hi (by omega))⟩
            case measure => simp [intOf]; omega
        · have b0 : (a.kind == 0) = false := by simpa using hk0
          clear hk0
          by_cases hk1 : a.kind = 1 ∧ a.code = 0
          · obtain ⟨e1, e2⟩ := hk1
            have b1 : (a.kind == 1) = true := by simpa using e1
            have b2 : (a.code == 0) = true := by simpa using e2
            clear e1 e2
            rcases say_ok (who := a.who) (batch := a.batch) hsc hsm hso ⟨hg0, by omega⟩ with ⟨n, hs, hn⟩ | ⟨hw, ho1, ho2, hs⟩ | ⟨hw, ho1, ho2, hs⟩ | ⟨hw, ho2, ho1, hs⟩ | ⟨hw, ho2, ho1, hs⟩
            · have bn : (n == 0) = false := by simpa using hn
              go_wp2_with fail
              refine (say_any _ _ s a.who a.batch 0 (hat.alloc _)).mono ?_
              rw [hs]
              rintro e w2 ⟨rfl, o2, a2⟩
              clear hs
              obtain ⟨d0, d1, d2, d3⟩ := new4 o2 (by omega)
              go_wp2_with fail
              go_roundw
              case rel => exact ⟨k + 1, s, by omega, by omega, by go_num, rfl, rfl, rfl, hsc, hsm, hso, hg0, by omega, a2, (ho.alloc _).then_ o2 (fun i hi e => absurd hi (by omega))⟩
              case measure => simp [intOf]; omega
            · have w1' : (a.who == 1) = true := by simp [hw]
              have w2' : (a.who == 2) = false := by simp [hw]
              clear hw
              have HS := Lib.hid hso
              clear hso
              obtain ⟨qc, qw, qb, qon, qo, qt, qg, qm⟩ := s
              simp only at ho1 ho2 hsc hsm hg0 hgk
              subst ho1 ho2 hsc hsm
              go_wp2_with fail
              refine (say_any _ _ _ a.who a.batch 0 (hat.alloc _)).mono ?_
              rw [hs]
              clear hs
              rintro e w2 ⟨rfl, o2, a2⟩
              obtain ⟨d0, d1, d2, d3⟩ := new4 o2 (by omega)
              go_wp2_with fail
              go_quiet (fail)
              go_wp2_with fail
              go_roundw
              case rel => exact ⟨k + 1, _, by omega, by omega, by go_num, rfl, rfl, rfl, rfl, rfl, by simp, by simp only; omega, by simp only; omega, a2.drewN _, ((ho.alloc _).then_ o2 (fun i hi e => absurd hi (by omega))).drewN _⟩
              case measure => simp [intOf]; omega
            · have w1' : (a.who == 1) = true := by simp [hw]
              have w2' : (a.who == 2) = false := by simp [hw]
              clear hw
              have HS := Lib.hid hso
              clear hso
              obtain ⟨qc, qw, qb, qon, qo, qt, qg, qm⟩ := s
              simp only at ho1 ho2 hsc hsm hg0 hgk
              subst ho1 ho2 hsc hsm
              go_wp2_with fail
              refine (say_any _ _ _ a.who a.batch 0 (hat.alloc _)).mono ?_
              rw [hs]
              clear hs
              rintro e w2 ⟨rfl, o2, a2⟩
              obtain ⟨d0, d1, d2, d3⟩ := new4 o2 (by omega)
              go_wp2_with fail
              go_quiet (fail)
              go_wp2_with fail
              go_roundw
              case rel => exact ⟨k + 1, _, by omega, by omega, by go_num, rfl, rfl, rfl, rfl, rfl, by simp, by simp only; omega, by simp only; omega, a2.drewN _, ((ho.alloc _).then_ o2 (fun i hi e => absurd hi (by omega))).drewN _⟩
              case measure => simp [intOf]; omega
            · have w1' : (a.who == 1) = false := by simp [hw]
              have w2' : (a.who == 2) = true := by simp [hw]
              clear hw
              have HS := Lib.hid hso
              clear hso
              obtain ⟨qc, qw, qb, qon, qo, qt, qg, qm⟩ := s
              simp only at ho1 ho2 hsc hsm hg0 hgk
              subst ho1 ho2 hsc hsm
              go_wp2_with fail
              refine (say_any _ _ _ a.who a.batch 0 (hat.alloc _)).mono ?_
              rw [hs]
              clear hs
              rintro e w2 ⟨rfl, o2, a2⟩
              obtain ⟨d0, d1, d2, d3⟩ := new4 o2 (by omega)
              go_wp2_with fail
              go_quiet (fail)
              go_wp2_with fail
              go_roundw
              case rel => exact ⟨k + 1, _, by omega, by omega, by go_num, rfl, rfl, rfl, rfl, rfl, by simp, by simp only; omega, by simp only; omega, a2.drewN _, ((ho.alloc _).then_ o2 (fun i hi e => absurd hi (by omega))).drewN _⟩
              case measure => simp [intOf]; omega
            · have w1' : (a.who == 1) = false := by simp [hw]
              have w2' : (a.who == 2) = true := by simp [hw]
              clear hw
              have HS := Lib.hid hso
              clear hso
              obtain ⟨qc, qw, qb, qon, qo, qt, qg, qm⟩ := s
              simp only at ho1 ho2 hsc hsm hg0 hgk
              subst ho1 ho2 hsc hsm
              go_wp2_with fail
              refine (say_any _ _ _ a.who a.batch 0 (hat.alloc _)).mono ?_
              rw [hs]
              clear hs
              rintro e w2 ⟨rfl, o2, a2⟩
              obtain ⟨d0, d1, d2, d3⟩ := new4 o2 (by omega)
              go_wp2_with fail
              go_quiet (fail)
              go_wp2_with fail
              go_roundw
              case rel => exact ⟨k + 1, _, by omega, by omega, by go_num, rfl, rfl, rfl, rfl, rfl, by simp, by simp only; omega, by simp only; omega, a2.drewN _, ((ho.alloc _).then_ o2 (fun i hi e => absurd hi (by omega))).drewN _⟩
              case measure => simp [intOf]; omega
          · have b2 : (a.kind == 1) = false ∨ (a.kind == 1) = true ∧ (a.code == 0) = false := by
              by_cases e : a.kind = 1
              · exact .inr ⟨by simp [e], by simp; exact fun h => hk1 ⟨e, h⟩⟩
              · exact .inl (by simpa using e)
            clear hk1
            rcases b2 with b2 | ⟨b2, b3⟩
            all_goals
              go_wp2_with fail
              go_roundw
              case rel => exact ⟨k + 1, s, by omega, by omega, by go_num, rfl, rfl, rfl, hsc, hsm, hso, hg0, by omega, hat.alloc _, ho.alloc _⟩
              case measure => simp [intOf]; omega
      · have hbl := hat.lt
        have H2 := fun (W : World) (o : Only (fun _ => False) w W) => hb.only o fun _ _ f => f
        clear hso
        have hst := stopped hsc hsm HC.out
        have hr33 := ready_stopped (s := { s with code := code, who := 1, on := false }) HC.out hsm
        have hcd : ({ s with code := code, who := 1, on := false } : St).code = code := rfl
        have hwd : ({ s with code := code, who := 1, on := false } : St).who = 1 := rfl
        have hgd : ({ s with code := code, who := 1, on := false } : St).good = s.good := rfl
        generalize ({ s with code := code, who := 1, on := false } : St) = s3 at hst hr33 hgd hcd hwd
        have HR := Lib.hid hr33
        have HG := Lib.hid hgd
        have HT := Lib.hid hst
        have HC3 := Lib.hid hcd
        have HW3 := Lib.hid hwd
        clear hr33 hgd hst hsm hsc hcd hwd
        rcases hend with hend | ⟨hend, hmore⟩
        · subst hend
          go_wp2_with fail
          refine (good_any _ _ s hat).mono ?_; rintro e w2 ⟨rfl, rfl⟩
          go_wp2_with fail
          refine (stop_any _ _ s 1 code hat).mono ?_; rw [HT.out]; rintro e w3 ⟨rfl, o3, a3⟩
          go_wp2_with fail
          go_loopw [13] (fun i W => ∃ (k : Nat), k ≤ m.length ∧ k ≤ 40 ∧ i = .int .i64 k ∧ At W w.heap.size s3 ∧ Only (fun _ => False) w W) (fun i _ => 40 - (intOf i).toNat)
          case atStart => exact ⟨0, Nat.zero_le _, by omega, rfl, a3, ho.then_ o3 (fun i hi e => absurd hi (by omega))⟩
          case round =>
            clear hat hbl o3 a3 ho
            rename_i W _ _ _
            obtain ⟨k, hk, hk40, rfl, hat, ho⟩ := hrel
            have hbl := hat.lt
            have hlt' : k < m.length ∧ k < 40 ∨ (k = m.length ∨ k = 40 ∧ 40 < m.length) := by omega
            rcases hlt' with ⟨hlt, hlt40⟩ | hend
            · obtain ⟨ad, hA, hadb, c0, c1, c2, c3⟩ := (hb.only ho fun _ _ f => f) k hlt
              generalize m.getD k default = a at c0 c1 c2 c3
              subst hA
              go_wp2_with fail
              refine (stop_any _ _ s3 a.who a.code (hat.alloc _)).mono ?_; rw [stop_stopped HR.out]; rintro e w4 ⟨rfl, o4, a4⟩
              obtain ⟨d0, d1, d2, d3⟩ := new4 o4 (by omega)
              go_wp2_with fail
              refine (begin_any _ _ s3 a.batch a4).mono ?_; rw [begin_stopped HR.out]; rintro e w5 ⟨rfl, o5, a5⟩
              have o45 := o4.trans o5
              clear d0 d1 d2 d3
              obtain ⟨d0, d1, d2, d3⟩ := new4 o45 (by omega)
              go_wp2_with fail
              refine (say_any _ _ s3 a.who a.batch a.code a5).mono ?_; rw [say_stopped HR.out]; rintro e w6 ⟨rfl, o6, a6⟩
              go_wp2_with fail
              go_roundw
              case rel => exact ⟨k + 1, by omega, by omega, by go_num, a6, ((ho.alloc _).then_ (o45.trans o6) (fun i hi e => absurd hi (by omega)))⟩
              case measure => simp [intOf]; omega
            · rcases hend with hend | ⟨hend, hmore⟩
              all_goals
                subst hend
                go_wp2_with fail
                refine (code_any _ _ s3 hat).mono ?_; rintro e w7 ⟨rfl, n7, rfl⟩
                rw [HC3.out, HW3.out]
                go_wp2_with fail
                refine (goes_any _ _ s3 (hat.drewN _)).mono ?_; rw [HR.out]; rintro e w8 ⟨rfl, rfl⟩
                go_wp2_with fail
                refine (good_any _ _ s3 (hat.drewN _)).mono ?_; rw [HG.out]; rintro e w9 ⟨rfl, rfl⟩
                go_wp2_with fail
                refine (awake_any _).mono ?_; rintro e w10 ⟨rfl, o10⟩
                go_wp2_with fail
                go_ret
                exact ⟨rfl, (ho.drewN _).trans o10⟩
        · subst hend
          go_wp2_with fail
          refine (good_any _ _ s hat).mono ?_; rintro e w2 ⟨rfl, rfl⟩
          go_wp2_with fail
          refine (stop_any _ _ s 1 code hat).mono ?_; rw [HT.out]; rintro e w3 ⟨rfl, o3, a3⟩
          go_wp2_with fail
          go_loopw [13] (fun i W => ∃ (k : Nat), k ≤ m.length ∧ k ≤ 40 ∧ i = .int .i64 k ∧ At W w.heap.size s3 ∧ Only (fun _ => False) w W) (fun i _ => 40 - (intOf i).toNat)
          case atStart => exact ⟨0, Nat.zero_le _, by omega, rfl, a3, ho.then_ o3 (fun i hi e => absurd hi (by omega))⟩
          case round =>
            clear hat hbl o3 a3 ho
            rename_i W _ _ _
            obtain ⟨k, hk, hk40, rfl, hat, ho⟩ := hrel
            have hbl := hat.lt
            have hlt' : k < m.length ∧ k < 40 ∨ (k = m.length ∨ k = 40 ∧ 40 < m.length) := by omega
            rcases hlt' with ⟨hlt, hlt40⟩ | hend
            · obtain ⟨ad, hA, hadb, c0, c1, c2, c3⟩ := (hb.only ho fun _ _ f => f) k hlt
              generalize m.getD k default = a at c0 c1 c2 c3
              subst hA
              go_wp2_with fail
              refine (stop_any _ _ s3 a.who a.code (hat.alloc _)).mono ?_; rw [stop_stopped HR.out]; rintro e w4 ⟨rfl, o4, a4⟩
              obtain ⟨d0, d1, d2, d3⟩ := new4 o4 (by omega)
              go_wp2_with fail
              refine (begin_any _ _ s3 a.batch a4).mono ?_; rw [begin_stopped HR.out]; rintro e w5 ⟨rfl, o5, a5⟩
              have o45 := o4.trans o5
              clear d0 d1 d2 d3
              obtain ⟨d0, d1, d2, d3⟩ := new4 o45 (by omega)
              go_wp2_with fail
              refine (say_any _ _ s3 a.who a.batch a.code a5).mono ?_; rw [say_stopped HR.out]; rintro e w6 ⟨rfl, o6, a6⟩
              go_wp2_with fail
              go_roundw
              case rel => exact ⟨k + 1, by omega, by omega, by go_num, a6, ((ho.alloc _).then_ (o45.trans o6) (fun i hi e => absurd hi (by omega)))⟩
              case measure => simp [intOf]; omega
            · rcases hend with hend | ⟨hend, hmore⟩
              all_goals
                subst hend
                go_wp2_with fail
                refine (code_any _ _ s3 hat).mono ?_; rintro e w7 ⟨rfl, n7, rfl⟩
                rw [HC3.out, HW3.out]
                go_wp2_with fail
                refine (goes_any _ _ s3 (hat.drewN _)).mono ?_; rw [HR.out]; rintro e w8 ⟨rfl, rfl⟩
                go_wp2_with fail
                refine (good_any _ _ s3 (hat.drewN _)).mono ?_; rw [HG.out]; rintro e w9 ⟨rfl, rfl⟩
                go_wp2_with fail
                refine (awake_any _).mono ?_; rintro e w10 ⟨rfl, o10⟩
                go_wp2_with fail
                go_ret
                exact ⟨rfl, (ho.drewN _).trans o10⟩
end Go.Proofs.Ytffnjnkaefodlaa
