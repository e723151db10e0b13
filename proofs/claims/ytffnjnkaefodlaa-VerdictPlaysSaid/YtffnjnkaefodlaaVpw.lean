/- Chapter 31: the law VerdictPlays walked. -/
import Derived.Test.YtffnjnkaefodlaaVc
import Derived.Test.YtffnjnkaefodlaaVp
import Derived.Test.YtffnjnkaefodlaaVs
import Derived.LoopTactic
import Derived.Deep.RegionWith
set_option linter.unusedSimpArgs false
set_option linter.unusedVariables false
namespace Go.Proofs.Ytffnjnkaefodlaa
open Go.RowKit

set_option maxRecDepth 100000 in
set_option maxHeartbeats 4000000 in
theorem plays_any (w : World) (A : Option Addr) (l : List Act) (cA : Nat) (hl : l.length ≤ 9223372036854775807) (ha : Acts w A l) :
    Calls Try.prog 4 #[.slice A l.length cA] w fun e w' => e = .returned (.bool true) ∧ Only (fun _ => False) w w' := by
  go_enter Try.func4, Try.ntmps4
  go_wp2_with fail
  refine (new_any _).mono ?_; rintro e w1 ⟨rfl, o1, a1, z1⟩
  have hlt1 : w.heap.size < w1.heap.size := by omega
  have Z1 := Lib.hid z1
  clear z1
  go_wp2_with fail
  go_loopw [5] (fun i W => ∃ (k : Nat) (s : St) (c wh ba : Int) (on x0 x1 x2 : Bool) (g : Int), k ≤ l.length ∧ k ≤ 60 ∧ i = .int .i64 k ∧ At W w.heap.size s ∧ Has W w1.heap.size 39 (Rs.cells ⟨c, wh, ba, on, x0, x1, x2, g⟩) ∧ Rel s ⟨c, wh, ba, on, x0, x1, x2, g⟩ ∧ Only (fun _ => False) w W) (fun i _ => 60 - (intOf i).toNat)
  case atStart => exact ⟨0, ⟨0, 0, 0, false, false, false, 0, true⟩, 0, 0, 0, false, false, false, false, 0, Nat.zero_le _, by omega, rfl, a1.alloc _, Has.new _ _ _, ⟨rfl, rfl, rfl, rfl, rfl, rfl, by simp, by simp, by simp, by simp⟩, o1.alloc _⟩
  case round =>
    obtain ⟨k, s, c, wh, ba, on, x0, x1, x2, g, hk, hk60, rfl, hat, hr, hrel2, ho⟩ := hrel
    have hbl := hat.lt
    have hrl := hr.lt
    have hlt' : k < l.length ∧ k < 60 ∨ (k = l.length ∨ k = 60 ∧ 60 < l.length) := by omega
    rcases hlt' with ⟨hlt, hlt60⟩ | hend
    · obtain ⟨ad, hA, hadb, c0, c1, c2, c3⟩ := (ha.only ho fun _ _ f => f) k hlt
      generalize l.getD k default = a at c0 c1 c2 c3
      subst hA
      by_cases hk0 : a.kind = 0
      · have b0 : (a.kind == 0) = true := by simpa using hk0
        clear hk0
        obtain ⟨⟨c', wh', ba', on', x0', x1', x2', g'⟩, n', hrb⟩ : ∃ r' n, (Rs.begin_ ⟨c, wh, ba, on, x0, x1, x2, g⟩ a.batch) = (r', n) := ⟨_, _, rfl⟩
        obtain ⟨s', m', hsb⟩ : ∃ s' n, s.begin_ a.batch = (s', n) := ⟨_, _, rfl⟩
        obtain ⟨hmn, hR⟩ := hrel2.begin_ a.batch
        rw [hrb, hsb] at hmn hR
        simp only at hmn hR
        subst hmn

        have HRB := Lib.hid hrb
        have HSB := Lib.hid hsb
        obtain ⟨tc, tw, ton, tg, t0⟩ : s'.code = c' ∧ s'.who = wh' ∧ s'.on = on' ∧ s'.good = g' ∧ x0' = false := ⟨hR.code, hR.who, hR.on, hR.good, hR.s0⟩
        obtain ⟨u1, u2, u3, u4, u5⟩ := hR.tells
        simp only at u1 u2 u3 u5
        have HR := Lib.hid hR
        have T1 := Lib.hid tc
        have T2 := Lib.hid tw
        have T3 := Lib.hid ton
        have T4 := Lib.hid tg
        have T5 := Lib.hid t0
        have U1 := Lib.hid u1
        have U2 := Lib.hid u2
        have U3 := Lib.hid u3
        have U4 := Lib.hid u4
        have U5 := Lib.hid u5
        clear hrb hsb hR tc tw ton tg t0 u1 u2 u3 u4 u5
        obtain ⟨f0, f1, f2, f3, f4, f5, f6, f7, ff⟩ := Has.facts8 (x0 := .int .i64 c) (x1 := .int .i64 wh) (x2 := .int .u32 ba) (x3 := .bool on) (x4 := .bool x0) (x5 := .bool x1) (x6 := .bool x2) (x7 := .int .i64 g) hr
        go_wp2_with fail
        refine (rbegin_any _ ⟨c, wh, ba, on, x0, x1, x2, g⟩ a.batch).mono ?_
        rw [HRB.out]
        simp only [Rs.cells]
        rintro e w2 ⟨rfl, o2⟩
        obtain ⟨d0, d1, d2, d3⟩ := new4 o2 (fun f => f)
        clear f0 f1 f2 f3 f4 f5 f6 f7 ff
        have r2 := o2.has (hr.alloc _) (fun f => f)
        have a2 := o2.has (hat.alloc _) (fun f => f)
        have n2 := o2.has (Has.new _ _ _) (fun f => f)
        have l2 := n2.lt
        obtain ⟨f0, f1, f2, f3, f4, f5, f6, f7, ff⟩ := Has.facts8 (x0 := .int .i64 c) (x1 := .int .i64 wh) (x2 := .int .u32 ba) (x3 := .bool on) (x4 := .bool x0) (x5 := .bool x1) (x6 := .bool x2) (x7 := .int .i64 g) r2
        go_wp2_with fail
        refine (begin_any _ _ s a.batch (a2.off8 (Nat.ne_of_lt hlt1) _ _ _ _ _ _ _ _)).mono ?_
        rw [HSB.out]
        rintro e w3 ⟨rfl, o3, AX⟩
        have RX := o3.has (Has.put8 r2 rfl _ _ _ _ _ _ _ _) (by omega)
        have ho3 := (((ho.alloc _).trans o2).then_ (Only.put8 _ w1.heap.size _ _ _ _ _ _ _ _) (fun i hi e => absurd hi (by omega))).then_ o3 (fun i hi e => absurd hi (by omega))
        clear f0 f1 f2 f3 f4 f5 f6 f7 ff d0 d1 d2 d3 o3 r2 a2 n2 c0 c1 c2 c3
        go_wp2_with fail
        refine (code_any _ _ s' AX).mono ?_
        rw [T1.out, T2.out]
        rintro e w4 ⟨rfl, n4, rfl⟩
        go_wp2_with fail
        refine (on_any _ _ s' (AX.drewN _)).mono ?_
        rw [U5.out, T3.out]
        rintro e w5 ⟨rfl, rfl⟩
        have AY := AX.drewN n4
        have RY := RX.drewN n4
        have OY := ho3.drewN n4
        generalize w3.drewN n4 = w6 at *
        obtain ⟨f0, f1, f2, f3, f4, f5, f6, f7, ff⟩ := Has.facts8 (x0 := .int .i64 c') (x1 := .int .i64 wh') (x2 := .int .u32 ba') (x3 := .bool on') (x4 := .bool x0') (x5 := .bool x1') (x6 := .bool x2') (x7 := .int .i64 g') RY
        have G1 := Lib.hid (show ∀ n, Calls Try.prog 13 #[.pointer (some ⟨w.heap.size, 0, none⟩)] (w6.drewN n) fun e w' => e = .returned (.bool (c' == 0)) ∧ w' = w6.drewN n from fun n => (goes_any _ _ s' (AY.drewN n)).mono fun e w' h => ⟨by rw [h.1, U1.out], h.2.symm⟩)
        have G2 := Lib.hid (show ∀ n, Calls Try.prog 10 #[.pointer (some ⟨w.heap.size, 0, none⟩)] (w6.drewN n) fun e w' => e = .returned (.int .i64 g') ∧ w' = w6.drewN n from fun n => (good_any _ _ s' (AY.drewN n)).mono fun e w' h => ⟨by rw [h.1, T4.out], h.2.symm⟩)
        cases on'
        all_goals
          simp only [if_true, Bool.false_eq_true, if_false]
          go_wp2_with fail
          go_quiet (first | (go_at_call 13; exact Calls.quiet_of_same (G1.out _)) | (go_at_call 10; exact Calls.quiet_of_same (G2.out _)))
          go_wp2_with fail
          have AZ := AY.drewN nq
          have RZ := RY.drewN nq
          have OZ := OY.drewN nq
          clear f0 f1 f2 f3 f4 f5 f6 f7 ff
          generalize w6.drewN nq = w8 at *
          obtain ⟨f0, f1, f2, f3, f4, f5, f6, f7, ff⟩ := Has.facts8 (x0 := .int .i64 c') (x1 := .int .i64 wh') (x2 := .int .u32 ba') (x3 := .bool _) (x4 := .bool x0') (x5 := .bool x1') (x6 := .bool x2') (x7 := .int .i64 g') RZ
          have G3 := Lib.hid (show ∀ n, Calls Try.prog 18 #[.pointer (some ⟨w.heap.size, 0, none⟩), .int .i64 1] (w8.drewN n) fun e w' => e = .returned (.bool x1') ∧ w' = w8.drewN n from fun n => (said_any _ _ s' 1 (AZ.drewN n)).mono fun e w' h => ⟨by rw [h.1, U2.out], h.2.symm⟩)
          have G4 := Lib.hid (show ∀ n, Calls Try.prog 18 #[.pointer (some ⟨w.heap.size, 0, none⟩), .int .i64 2] (w8.drewN n) fun e w' => e = .returned (.bool x2') ∧ w' = w8.drewN n from fun n => (said_any _ _ s' 2 (AZ.drewN n)).mono fun e w' h => ⟨by rw [h.1, U3.out], h.2.symm⟩)
          have G5 := Lib.hid (show ∀ n, Calls Try.prog 18 #[.pointer (some ⟨w.heap.size, 0, none⟩), .int .i64 0] (w8.drewN n) fun e w' => e = .returned (.bool false) ∧ w' = w8.drewN n from fun n => (said_any _ _ s' 0 (AZ.drewN n)).mono fun e w' h => ⟨by rw [h.1, U4.out], h.2.symm⟩)
          go_quiet (first | (go_at_call_of 18 (Value.int .i64 1); exact Calls.quiet_of_same (G3.out _)) | (go_at_call_of 18 (Value.int .i64 2); exact Calls.quiet_of_same (G4.out _)) | (go_at_call_of 18 (Value.int .i64 0); exact Calls.quiet_of_same (G5.out _)))
          go_wp2_with fail
          go_roundw
          case rel => exact ⟨k + 1, s', c', wh', ba', _, x0', x1', x2', g', by omega, by omega, by go_num, AZ.drewN _, RZ.drewN _, HR.out, OZ.drewN _⟩
          case measure => simp [intOf]; omega
      · have b0 : (a.kind == 0) = false := by simpa using hk0
        clear hk0
        by_cases hk1 : a.kind = 1
        · have b1 : (a.kind == 1) = true := by simpa using hk1
          clear hk1
          obtain ⟨⟨c', wh', ba', on', x0', x1', x2', g'⟩, n', hrb⟩ : ∃ r' n, (Rs.say ⟨c, wh, ba, on, x0, x1, x2, g⟩ a.who a.batch a.code) = (r', n) := ⟨_, _, rfl⟩
          obtain ⟨s', m', hsb⟩ : ∃ s' n, s.say a.who a.batch a.code = (s', n) := ⟨_, _, rfl⟩
          obtain ⟨hmn, hR⟩ := hrel2.say a.who a.batch a.code
          rw [hrb, hsb] at hmn hR
          simp only at hmn hR
          subst hmn

          have HRB := Lib.hid hrb
          have HSB := Lib.hid hsb
          obtain ⟨tc, tw, ton, tg, t0⟩ : s'.code = c' ∧ s'.who = wh' ∧ s'.on = on' ∧ s'.good = g' ∧ x0' = false := ⟨hR.code, hR.who, hR.on, hR.good, hR.s0⟩
          obtain ⟨u1, u2, u3, u4, u5⟩ := hR.tells
          simp only at u1 u2 u3 u5
          have HR := Lib.hid hR
          have T1 := Lib.hid tc
          have T2 := Lib.hid tw
          have T3 := Lib.hid ton
          have T4 := Lib.hid tg
          have T5 := Lib.hid t0
          have U1 := Lib.hid u1
          have U2 := Lib.hid u2
          have U3 := Lib.hid u3
          have U4 := Lib.hid u4
          have U5 := Lib.hid u5
          clear hrb hsb hR tc tw ton tg t0 u1 u2 u3 u4 u5
          obtain ⟨f0, f1, f2, f3, f4, f5, f6, f7, ff⟩ := Has.facts8 (x0 := .int .i64 c) (x1 := .int .i64 wh) (x2 := .int .u32 ba) (x3 := .bool on) (x4 := .bool x0) (x5 := .bool x1) (x6 := .bool x2) (x7 := .int .i64 g) hr
          go_wp2_with fail
          refine (rsay_any _ ⟨c, wh, ba, on, x0, x1, x2, g⟩ a.who a.batch a.code).mono ?_
          rw [HRB.out]
          simp only [Rs.cells]
          rintro e w2 ⟨rfl, o2⟩
          obtain ⟨d0, d1, d2, d3⟩ := new4 o2 (fun f => f)
          clear f0 f1 f2 f3 f4 f5 f6 f7 ff
          have r2 := o2.has (hr.alloc _) (fun f => f)
          have a2 := o2.has (hat.alloc _) (fun f => f)
          have n2 := o2.has (Has.new _ _ _) (fun f => f)
          have l2 := n2.lt
          obtain ⟨f0, f1, f2, f3, f4, f5, f6, f7, ff⟩ := Has.facts8 (x0 := .int .i64 c) (x1 := .int .i64 wh) (x2 := .int .u32 ba) (x3 := .bool on) (x4 := .bool x0) (x5 := .bool x1) (x6 := .bool x2) (x7 := .int .i64 g) r2
          go_wp2_with fail
          refine (say_any _ _ s a.who a.batch a.code (a2.off8 (Nat.ne_of_lt hlt1) _ _ _ _ _ _ _ _)).mono ?_
          rw [HSB.out]
          rintro e w3 ⟨rfl, o3, AX⟩
          have RX := o3.has (Has.put8 r2 rfl _ _ _ _ _ _ _ _) (by omega)
          have ho3 := (((ho.alloc _).trans o2).then_ (Only.put8 _ w1.heap.size _ _ _ _ _ _ _ _) (fun i hi e => absurd hi (by omega))).then_ o3 (fun i hi e => absurd hi (by omega))
          clear f0 f1 f2 f3 f4 f5 f6 f7 ff d0 d1 d2 d3 o3 r2 a2 n2 c0 c1 c2 c3
          go_wp2_with fail
          refine (code_any _ _ s' AX).mono ?_
          rw [T1.out, T2.out]
          rintro e w4 ⟨rfl, n4, rfl⟩
          go_wp2_with fail
          refine (on_any _ _ s' (AX.drewN _)).mono ?_
          rw [U5.out, T3.out]
          rintro e w5 ⟨rfl, rfl⟩
          have AY := AX.drewN n4
          have RY := RX.drewN n4
          have OY := ho3.drewN n4
          generalize w3.drewN n4 = w6 at *
          obtain ⟨f0, f1, f2, f3, f4, f5, f6, f7, ff⟩ := Has.facts8 (x0 := .int .i64 c') (x1 := .int .i64 wh') (x2 := .int .u32 ba') (x3 := .bool on') (x4 := .bool x0') (x5 := .bool x1') (x6 := .bool x2') (x7 := .int .i64 g') RY
          have G1 := Lib.hid (show ∀ n, Calls Try.prog 13 #[.pointer (some ⟨w.heap.size, 0, none⟩)] (w6.drewN n) fun e w' => e = .returned (.bool (c' == 0)) ∧ w' = w6.drewN n from fun n => (goes_any _ _ s' (AY.drewN n)).mono fun e w' h => ⟨by rw [h.1, U1.out], h.2.symm⟩)
          have G2 := Lib.hid (show ∀ n, Calls Try.prog 10 #[.pointer (some ⟨w.heap.size, 0, none⟩)] (w6.drewN n) fun e w' => e = .returned (.int .i64 g') ∧ w' = w6.drewN n from fun n => (good_any _ _ s' (AY.drewN n)).mono fun e w' h => ⟨by rw [h.1, T4.out], h.2.symm⟩)
          cases on'
          all_goals
            simp only [if_true, Bool.false_eq_true, if_false]
            go_wp2_with fail
            go_quiet (first | (go_at_call 13; exact Calls.quiet_of_same (G1.out _)) | (go_at_call 10; exact Calls.quiet_of_same (G2.out _)))
            go_wp2_with fail
            have AZ := AY.drewN nq
            have RZ := RY.drewN nq
            have OZ := OY.drewN nq
            clear f0 f1 f2 f3 f4 f5 f6 f7 ff
            generalize w6.drewN nq = w8 at *
            obtain ⟨f0, f1, f2, f3, f4, f5, f6, f7, ff⟩ := Has.facts8 (x0 := .int .i64 c') (x1 := .int .i64 wh') (x2 := .int .u32 ba') (x3 := .bool _) (x4 := .bool x0') (x5 := .bool x1') (x6 := .bool x2') (x7 := .int .i64 g') RZ
            have G3 := Lib.hid (show ∀ n, Calls Try.prog 18 #[.pointer (some ⟨w.heap.size, 0, none⟩), .int .i64 1] (w8.drewN n) fun e w' => e = .returned (.bool x1') ∧ w' = w8.drewN n from fun n => (said_any _ _ s' 1 (AZ.drewN n)).mono fun e w' h => ⟨by rw [h.1, U2.out], h.2.symm⟩)
            have G4 := Lib.hid (show ∀ n, Calls Try.prog 18 #[.pointer (some ⟨w.heap.size, 0, none⟩), .int .i64 2] (w8.drewN n) fun e w' => e = .returned (.bool x2') ∧ w' = w8.drewN n from fun n => (said_any _ _ s' 2 (AZ.drewN n)).mono fun e w' h => ⟨by rw [h.1, U3.out], h.2.symm⟩)
            have G5 := Lib.hid (show ∀ n, Calls Try.prog 18 #[.pointer (some ⟨w.heap.size, 0, none⟩), .int .i64 0] (w8.drewN n) fun e w' => e = .returned (.bool false) ∧ w' = w8.drewN n from fun n => (said_any _ _ s' 0 (AZ.drewN n)).mono fun e w' h => ⟨by rw [h.1, U4.out], h.2.symm⟩)
            go_quiet (first | (go_at_call_of 18 (Value.int .i64 1); exact Calls.quiet_of_same (G3.out _)) | (go_at_call_of 18 (Value.int .i64 2); exact Calls.quiet_of_same (G4.out _)) | (go_at_call_of 18 (Value.int .i64 0); exact Calls.quiet_of_same (G5.out _)))
            go_wp2_with fail
            go_roundw
            case rel => exact ⟨k + 1, s', c', wh', ba', _, x0', x1', x2', g', by omega, by omega, by go_num, AZ.drewN _, RZ.drewN _, HR.out, OZ.drewN _⟩
            case measure => simp [intOf]; omega
        · have b1 : (a.kind == 1) = false := by simpa using hk1
          clear hk1
          obtain ⟨⟨c', wh', ba', on', x0', x1', x2', g'⟩, hrb⟩ : ∃ r', (Rs.stop ⟨c, wh, ba, on, x0, x1, x2, g⟩ a.who a.code) = r' := ⟨_, rfl⟩
          obtain ⟨s', hsb⟩ : ∃ s', s.stop a.who a.code = s' := ⟨_, rfl⟩
          have hR := hrel2.stop a.who a.code
          rw [hrb, hsb] at hR

          have HRB := Lib.hid hrb
          have HSB := Lib.hid hsb
          obtain ⟨tc, tw, ton, tg, t0⟩ : s'.code = c' ∧ s'.who = wh' ∧ s'.on = on' ∧ s'.good = g' ∧ x0' = false := ⟨hR.code, hR.who, hR.on, hR.good, hR.s0⟩
          obtain ⟨u1, u2, u3, u4, u5⟩ := hR.tells
          simp only at u1 u2 u3 u5
          have HR := Lib.hid hR
          have T1 := Lib.hid tc
          have T2 := Lib.hid tw
          have T3 := Lib.hid ton
          have T4 := Lib.hid tg
          have T5 := Lib.hid t0
          have U1 := Lib.hid u1
          have U2 := Lib.hid u2
          have U3 := Lib.hid u3
          have U4 := Lib.hid u4
          have U5 := Lib.hid u5
          clear hrb hsb hR tc tw ton tg t0 u1 u2 u3 u4 u5
          obtain ⟨f0, f1, f2, f3, f4, f5, f6, f7, ff⟩ := Has.facts8 (x0 := .int .i64 c) (x1 := .int .i64 wh) (x2 := .int .u32 ba) (x3 := .bool on) (x4 := .bool x0) (x5 := .bool x1) (x6 := .bool x2) (x7 := .int .i64 g) hr
          go_wp2_with fail
          refine (rstop_any _ ⟨c, wh, ba, on, x0, x1, x2, g⟩ a.who a.code).mono ?_
          rw [HRB.out]
          simp only [Rs.cells]
          rintro e w2 ⟨rfl, o2⟩
          obtain ⟨d0, d1, d2, d3⟩ := new4 o2 (fun f => f)
          clear f0 f1 f2 f3 f4 f5 f6 f7 ff
          have r2 := o2.has (hr.alloc _) (fun f => f)
          have a2 := o2.has (hat.alloc _) (fun f => f)
          have n2 := o2.has (Has.new _ _ _) (fun f => f)
          have l2 := n2.lt
          obtain ⟨f0, f1, f2, f3, f4, f5, f6, f7, ff⟩ := Has.facts8 (x0 := .int .i64 c) (x1 := .int .i64 wh) (x2 := .int .u32 ba) (x3 := .bool on) (x4 := .bool x0) (x5 := .bool x1) (x6 := .bool x2) (x7 := .int .i64 g) r2
          go_wp2_with fail
          refine (stop_any _ _ s a.who a.code (a2.off8 (Nat.ne_of_lt hlt1) _ _ _ _ _ _ _ _)).mono ?_
          rw [HSB.out]
          rintro e w3 ⟨rfl, o3, AX⟩
          have RX := o3.has (Has.put8 r2 rfl _ _ _ _ _ _ _ _) (by omega)
          have ho3 := (((ho.alloc _).trans o2).then_ (Only.put8 _ w1.heap.size _ _ _ _ _ _ _ _) (fun i hi e => absurd hi (by omega))).then_ o3 (fun i hi e => absurd hi (by omega))
          clear f0 f1 f2 f3 f4 f5 f6 f7 ff d0 d1 d2 d3 o3 r2 a2 n2 c0 c1 c2 c3
          go_wp2_with fail
          refine (code_any _ _ s' AX).mono ?_
          rw [T1.out, T2.out]
          rintro e w4 ⟨rfl, n4, rfl⟩
          go_wp2_with fail
          refine (on_any _ _ s' (AX.drewN _)).mono ?_
          rw [U5.out, T3.out]
          rintro e w5 ⟨rfl, rfl⟩
          have AY := AX.drewN n4
          have RY := RX.drewN n4
          have OY := ho3.drewN n4
          generalize w3.drewN n4 = w6 at *
          obtain ⟨f0, f1, f2, f3, f4, f5, f6, f7, ff⟩ := Has.facts8 (x0 := .int .i64 c') (x1 := .int .i64 wh') (x2 := .int .u32 ba') (x3 := .bool on') (x4 := .bool x0') (x5 := .bool x1') (x6 := .bool x2') (x7 := .int .i64 g') RY
          have G1 := Lib.hid (show ∀ n, Calls Try.prog 13 #[.pointer (some ⟨w.heap.size, 0, none⟩)] (w6.drewN n) fun e w' => e = .returned (.bool (c' == 0)) ∧ w' = w6.drewN n from fun n => (goes_any _ _ s' (AY.drewN n)).mono fun e w' h => ⟨by rw [h.1, U1.out], h.2.symm⟩)
          have G2 := Lib.hid (show ∀ n, Calls Try.prog 10 #[.pointer (some ⟨w.heap.size, 0, none⟩)] (w6.drewN n) fun e w' => e = .returned (.int .i64 g') ∧ w' = w6.drewN n from fun n => (good_any _ _ s' (AY.drewN n)).mono fun e w' h => ⟨by rw [h.1, T4.out], h.2.symm⟩)
          cases on'
          all_goals
            simp only [if_true, Bool.false_eq_true, if_false]
            go_wp2_with fail
            go_quiet (first | (go_at_call 13; exact Calls.quiet_of_same (G1.out _)) | (go_at_call 10; exact Calls.quiet_of_same (G2.out _)))
            go_wp2_with fail
            have AZ := AY.drewN nq
            have RZ := RY.drewN nq
            have OZ := OY.drewN nq
            clear f0 f1 f2 f3 f4 f5 f6 f7 ff
            generalize w6.drewN nq = w8 at *
            obtain ⟨f0, f1, f2, f3, f4, f5, f6, f7, ff⟩ := Has.facts8 (x0 := .int .i64 c') (x1 := .int .i64 wh') (x2 := .int .u32 ba') (x3 := .bool _) (x4 := .bool x0') (x5 := .bool x1') (x6 := .bool x2') (x7 := .int .i64 g') RZ
            have G3 := Lib.hid (show ∀ n, Calls Try.prog 18 #[.pointer (some ⟨w.heap.size, 0, none⟩), .int .i64 1] (w8.drewN n) fun e w' => e = .returned (.bool x1') ∧ w' = w8.drewN n from fun n => (said_any _ _ s' 1 (AZ.drewN n)).mono fun e w' h => ⟨by rw [h.1, U2.out], h.2.symm⟩)
            have G4 := Lib.hid (show ∀ n, Calls Try.prog 18 #[.pointer (some ⟨w.heap.size, 0, none⟩), .int .i64 2] (w8.drewN n) fun e w' => e = .returned (.bool x2') ∧ w' = w8.drewN n from fun n => (said_any _ _ s' 2 (AZ.drewN n)).mono fun e w' h => ⟨by rw [h.1, U3.out], h.2.symm⟩)
            have G5 := Lib.hid (show ∀ n, Calls Try.prog 18 #[.pointer (some ⟨w.heap.size, 0, none⟩), .int .i64 0] (w8.drewN n) fun e w' => e = .returned (.bool false) ∧ w' = w8.drewN n from fun n => (said_any _ _ s' 0 (AZ.drewN n)).mono fun e w' h => ⟨by rw [h.1, U4.out], h.2.symm⟩)
            go_quiet (first | (go_at_call_of 18 (Value.int .i64 1); exact Calls.quiet_of_same (G3.out _)) | (go_at_call_of 18 (Value.int .i64 2); exact Calls.quiet_of_same (G4.out _)) | (go_at_call_of 18 (Value.int .i64 0); exact Calls.quiet_of_same (G5.out _)))
            go_wp2_with fail
            go_roundw
            case rel => exact ⟨k + 1, s', c', wh', ba', _, x0', x1', x2', g', by omega, by omega, by go_num, AZ.drewN _, RZ.drewN _, HR.out, OZ.drewN _⟩
            case measure => simp [intOf]; omega
    · rcases hend with hend | ⟨hend, hmore⟩
      all_goals
        subst hend
        go_wp2_with fail
        refine (awake_any _).mono ?_; rintro e w4 ⟨rfl, o4⟩
        go_wp2_with fail
        go_ret
        exact ⟨rfl, ho.trans o4⟩
end Go.Proofs.Ytffnjnkaefodlaa
