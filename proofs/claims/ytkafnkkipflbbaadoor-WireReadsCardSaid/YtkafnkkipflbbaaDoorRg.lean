/- wire.Reader: count, Blob, Raw, End, At, told by RQ. -/
import Derived.Test.YtkafnkkipflbbaaDoorRq
import Derived.Test.YtkafnkkipflbbaaDoorQs
set_option linter.unusedSimpArgs false
set_option linter.unusedVariables false
namespace Go.Proofs.YtkafnkkipflbbaaDoor
open Go.RowKit Go.Lib

theorem pow256_4 : (256 : Int) ^ 4 = 4294967296 := by decide
theorem q8_u32 (q : Q8) (s : ByteArray) : 0 ≤ (q.number s 4).2 ∧ (q.number s 4).2 ≤ 4294967295 := by
  have h := q.number_bound s 4
  rw [pow256_4] at h
  omega
theorem q8_num_at (q : Q8) (s : ByteArray) (n : Nat) (h : q.at_ ≤ s.size) : (q.number s n).1.at_ ≤ s.size := q.take_at s n h

set_option maxRecDepth 100000 in
set_option maxHeartbeats 2000000 in
theorem rq_count (w : World) (p : Nat) (s f : ByteArray) (q : Q8) (most : Int) (size : Nat) (hs : s.size ≤ 140737488351232) (hz : size ≤ 8) (h : RQ w p s q) :
    Calls Tryd.prog 20 #[.pointer (some ⟨p, 0, none⟩), .string f, .int .i64 most, .int .i64 size] w fun x w' =>
      x = .returned (.int .i64 (q.many s most size).2) ∧ RQ w' p s (q.many s most size).1 ∧ Only (· = p) w w' := by
  have hat := h.atLe
  obtain ⟨cs, ca⟩ : w.cell? ⟨p, 0, none⟩ = some (.string s) ∧ w.cell? ⟨p, 1, none⟩ = some (.int .i64 q.at_) := by
    by_cases he : q.e = 0
    · exact ⟨(h.whole he).cell 0, (h.whole he).cell 1⟩
    · obtain ⟨b, l, h1, _⟩ := h.had he
      exact ⟨h1.cell 0, h1.cell 1⟩
  have HU := Lib.hid (rq_u32 w p s f q hs h)
  obtain ⟨M, hM⟩ : ∃ M, M = q.many s most size := ⟨_, rfl⟩
  rw [← hM]
  unfold Q8.many at hM
  obtain ⟨x0, x1⟩ := q8_u32 q s
  have ya := q8_num_at q s 4 hat
  clear h
  generalize (q.number s 4).2 = x at *
  generalize (q.number s 4).1 = y at *
  have hw : IntKind.i64.wrap x = x := by rw [IntKind.wrap_i64]; omega
  clear cs
  by_cases he : y.e = 0
  · by_cases hm : most < x
    · have HN := Lib.hid (show M = (⟨q.at_, 2⟩, 0) by rw [hM, if_neg (by simpa using he), if_pos hm])
      clear hM
      go_enter Tryd.func20, Tryd.ntmps20
      go_wp2_with fail
      refine (HU.out).mono ?_
      rintro e w1 ⟨rfl, R1, o1⟩
      have W1 := R1.whole he
      obtain ⟨d0, d1, d2, df⟩ := W1.facts
      simp only [ev] at d2
      have B1 := R1.back q.at_ hat
      rw [he] at B1
      have HB := Lib.hid B1
      have OB := o1.setCell ⟨p, 1, none⟩ (.int .i64 (q.at_ : Int)) (fun _ => rfl)
      clear B1 R1 W1
      go_wp2_with fail
      refine (rq_fail _ p s f _ 2 (by decide) HB.out).mono ?_
      rintro e w2 ⟨rfl, R2, o2⟩
      go_wp2_with fail
      go_ret
      rw [HN.out]
      exact ⟨rfl, R2, OB.trans o2⟩
    · by_cases hl : s.size < y.at_ + x.toNat * size
      · have HN := Lib.hid (show M = (⟨q.at_, 12⟩, 0) by rw [hM, if_neg (by simpa using he), if_neg hm, if_pos hl])
        clear hM
        have hxs : x * (size : Int) ≤ 34359738360 := by
          have := Int.mul_le_mul x1 (show (size : Int) ≤ 8 by omega) (by omega) (by decide)
          omega
        have hxs0 : 0 ≤ x * (size : Int) := Int.mul_nonneg x0 (by omega)
        have hxn : ((x.toNat * size : Nat) : Int) = x * (size : Int) := by rw [Int.natCast_mul, Int.toNat_of_nonneg x0]
        have hlt : (s.size : Int) - (y.at_ : Int) < x * (size : Int) := by omega
        have hwz : IntKind.i64.wrap (x * (size : Int)) = x * (size : Int) := by rw [IntKind.wrap_i64]; omega
        clear hl hxn
        go_enter Tryd.func20, Tryd.ntmps20
        go_wp2_with fail
        refine (HU.out).mono ?_
        rintro e w1 ⟨rfl, R1, o1⟩
        have W1 := R1.whole he
        obtain ⟨d0, d1, d2, df⟩ := W1.facts
        simp only [ev] at d2
        have HR1 := Lib.hid R1
        clear R1 W1
        go_wp2_with fail
        go_quiet (fail)
        have B1 := (HR1.out.inner ((Only.refl _ w1).drewN nq)).back q.at_ hat
        rw [he] at B1
        have HB := Lib.hid B1
        have OB := (o1.drewN nq).setCell ⟨p, 1, none⟩ (.int .i64 (q.at_ : Int)) (fun _ => rfl)
        clear B1
        go_wp2_with fail
        refine (rq_fail _ p s f _ 12 (by decide) HB.out).mono ?_
        rintro e w2 ⟨rfl, R2, o2⟩
        go_wp2_with fail
        go_ret
        rw [HN.out]
        exact ⟨rfl, R2, OB.trans o2⟩
      · have HN := Lib.hid (show M = (y, x.toNat) by rw [hM, if_neg (by simpa using he), if_neg hm, if_neg hl])
        clear hM
        have hxs : x * (size : Int) ≤ 34359738360 := by
          have := Int.mul_le_mul x1 (show (size : Int) ≤ 8 by omega) (by omega) (by decide)
          omega
        have hxs0 : 0 ≤ x * (size : Int) := Int.mul_nonneg x0 (by omega)
        have hxn : ((x.toNat * size : Nat) : Int) = x * (size : Int) := by rw [Int.natCast_mul, Int.toNat_of_nonneg x0]
        have hlt : x * (size : Int) ≤ (s.size : Int) - (y.at_ : Int) := by omega
        have hwz : IntKind.i64.wrap (x * (size : Int)) = x * (size : Int) := by rw [IntKind.wrap_i64]; omega
        have HX := Lib.hid (show ((x.toNat : Nat) : Int) = x by omega)
        clear hl hxn
        go_enter Tryd.func20, Tryd.ntmps20
        go_wp2_with fail
        refine (HU.out).mono ?_
        rintro e w1 ⟨rfl, R1, o1⟩
        have W1 := R1.whole he
        obtain ⟨d0, d1, d2, df⟩ := W1.facts
        simp only [ev] at d2
        have HR1 := Lib.hid R1
        clear R1 W1
        go_wp2_with fail
        go_quiet (fail)
        go_wp2_with fail
        go_ret
        rw [HN.out]
        exact ⟨by show _ = Ending.returned (.int .i64 ((x.toNat : Nat) : Int)); rw [HX.out]; rfl, HR1.out.inner ((Only.refl _ w1).drewN _), o1.drewN _⟩
  · have HN := Lib.hid (show M = (y, 0) by rw [hM, if_pos he])
    clear hM
    go_enter Tryd.func20, Tryd.ntmps20
    go_wp2_with fail
    refine (HU.out).mono ?_
    rintro e w1 ⟨rfl, R1, o1⟩
    obtain ⟨b1, l1, W1, E1⟩ := R1.had he
    have d2 : w1.cell? ⟨p, 2, none⟩ = some (ev (some b1)) := W1.cell 2
    simp only [ev] at d2
    clear W1 E1
    go_wp2_with fail
    go_ret
    rw [HN.out]
    exact ⟨rfl, R1, o1⟩

set_option maxRecDepth 100000 in
set_option maxHeartbeats 1000000 in
theorem rq_raw (w : World) (p : Nat) (s f : ByteArray) (q : Q8) (n : Int) (hs : s.size ≤ 140737488351232) (h : RQ w p s q) : Calls Tryd.prog 27 #[.pointer (some ⟨p, 0, none⟩), .string f, .int .i64 n] w fun x w' =>
    x = .returned (.string (q.raw s n).2) ∧ RQ w' p s (q.raw s n).1 ∧ Only (· = p) w w' := by
  unfold Q8.raw
  by_cases h1 : n < 0 ∨ 65536 < n
  · rw [if_pos h1]
    have HF := Lib.hid (rq_fail w p s f q 1 (by decide) h)
    clear h
    rcases h1 with h1 | h1
    all_goals
      go_enter Tryd.func27, Tryd.ntmps27
      go_wp2_with fail
    all_goals
      refine (HF.out).mono ?_
      rintro e w1 ⟨rfl, R1, o1⟩
      go_wp2_with fail
      go_ret
      exact ⟨rfl, R1, o1⟩
  · rw [if_neg h1]
    have hn : ((n.toNat : Nat) : Int) = n := by omega
    have HT := rq_take w p s f q n.toNat hs (by omega) h
    rw [hn] at HT
    have HT := Lib.hid HT
    have n0 : 0 ≤ n := by omega
    have n1 : n ≤ 65536 := by omega
    clear h hn h1
    go_enter Tryd.func27, Tryd.ntmps27
    go_wp2_with fail
    refine (HT.out).mono ?_
    rintro e w1 ⟨rfl, R1, o1⟩
    go_wp2_with fail
    go_ret
    exact ⟨rfl, R1, o1⟩
set_option maxRecDepth 100000 in
set_option maxHeartbeats 1000000 in
theorem rq_blob (w : World) (p : Nat) (s f : ByteArray) (q : Q8) (most : Int) (hs : s.size ≤ 140737488351232) (h : RQ w p s q) : Calls Tryd.prog 12 #[.pointer (some ⟨p, 0, none⟩), .string f, .int .i64 most] w fun x w' =>
    x = .returned (.string (q.blob s most).2) ∧ RQ w' p s (q.blob s most).1 ∧ Only (· = p) w w' := by
  have HC := Lib.hid (fun m => rq_count w p s f q m 1 hs (by decide) h)
  unfold Q8.blob
  have hl : (q.many s (min most 65536) 1).2 ≤ 4611686018427387904 := by
    by_cases h0 : 0 ≤ min most 65536
    · have := q.many_le s (min most 65536) 1 h0
      omega
    · by_cases he : q.e = 0
      · by_cases h4 : q.at_ + 4 ≤ s.size
        · have hb := q8_u32 q s
          rw [Q8.number_ok he h4] at hb
          have hb : 0 ≤ num s q.at_ 4 ∧ num s q.at_ 4 ≤ 4294967295 := hb
          rw [q.many_ok s _ 1 he h4, if_pos (by omega)]
          omega
        · rw [q.many_short s _ 1 he (by omega)]
          omega
      · rw [q.many_e s _ 1 he]
        omega
  have HL := Lib.hid hl
  by_cases hm : most ≤ 65536
  · rw [Int.min_eq_left hm] at HL ⊢
    have HC := Lib.hid (HC.out most)
    generalize q.many s most 1 = M at *
    clear h hl
    go_enter Tryd.func12, Tryd.ntmps12
    go_wp2_with fail
    refine (HC.out).mono ?_
    rintro e w1 ⟨rfl, R1, o1⟩
    go_wp2_with fail
    refine (rq_take _ p s f _ _ hs HL.out R1).mono ?_
    rintro e w2 ⟨rfl, R2, o2⟩
    go_wp2_with fail
    go_ret
    exact ⟨rfl, R2, o1.trans o2⟩
  · rw [Int.min_eq_right (by omega)] at HL ⊢
    have HC := Lib.hid (HC.out 65536)
    generalize q.many s 65536 1 = M at *
    clear h hl
    have hm' : 65536 < most := by omega
    clear hm
    go_enter Tryd.func12, Tryd.ntmps12
    go_wp2_with fail
    refine (HC.out).mono ?_
    rintro e w1 ⟨rfl, R1, o1⟩
    go_wp2_with fail
    refine (rq_take _ p s f _ _ hs HL.out R1).mono ?_
    rintro e w2 ⟨rfl, R2, o2⟩
    go_wp2_with fail
    go_ret
    exact ⟨rfl, R2, o1.trans o2⟩
theorem rq_at (w : World) (p : Nat) (s : ByteArray) (q : Q8) (h : RQ w p s q) : Calls Tryd.prog 37 #[.pointer (some ⟨p, 0, none⟩)] w fun x w' => x = .returned (.int .i64 q.at_) ∧ w = w' := by
  have ca : w.cell? ⟨p, 1, none⟩ = some (.int .i64 q.at_) := by
    by_cases he : q.e = 0
    · exact (h.whole he).cell 1
    · obtain ⟨b, l, h1, _⟩ := h.had he
      exact h1.cell 1
  clear h
  go_enter Tryd.func37, Tryd.ntmps37
  go_wp2_with fail
  go_ret
  exact ⟨rfl, rfl⟩
/-- The error behind the reader's end: none, or a fault of that number. -/
def EndV (W : World) (v : Value) (c : Int) : Prop := (c = 0 ∧ v = .nilIface) ∨ ∃ b l, c ≠ 0 ∧ v = .iface 53 (.pointer (some ⟨b, 0, none⟩)) ∧ ErrAt W (some b) l c
set_option maxRecDepth 100000 in
set_option maxHeartbeats 1000000 in
theorem rq_end (w : World) (p : Nat) (s : ByteArray) (q : Q8) (hs : s.size ≤ 140737488351232) (h : RQ w p s q) : Calls Tryd.prog 13 #[.pointer (some ⟨p, 0, none⟩)] w fun x w' =>
    ∃ v, x = .returned v ∧ EndV w' v (q.fin s).e ∧ RQ w' p s (q.fin s) ∧ Only (· = p) w w' := by
  obtain ⟨c0, c1⟩ : w.cell? ⟨p, 0, none⟩ = some (.string s) ∧ w.cell? ⟨p, 1, none⟩ = some (.int .i64 q.at_) := by
    by_cases he : q.e = 0
    · exact ⟨(h.whole he).cell 0, (h.whole he).cell 1⟩
    · obtain ⟨b, l, h1, _⟩ := h.had he
      exact ⟨h1.cell 0, h1.cell 1⟩
  have hend : ∀ W, RQ W p s (q.fin s) → ∃ v, W.cell? ⟨p, 2, none⟩ = some v ∧ EndV W v (q.fin s).e := by
    intro W hW
    by_cases he : (q.fin s).e = 0
    · exact ⟨_, (hW.whole he).cell 2, .inl ⟨he, rfl⟩⟩
    · obtain ⟨b, l, h1, h2⟩ := hW.had he
      exact ⟨_, h1.cell 2, .inr ⟨b, l, he, rfl, h2⟩⟩
  have HF := Lib.hid (fun W h => rq_fail W p s ⟨#[101, 110, 100]⟩ q 14 (by decide) h)
  have HE := Lib.hid hend
  have HR := Lib.hid h
  clear hend h
  by_cases hl : q.at_ < s.size
  · have hq : q.fin s = q.fail 14 := by unfold Q8.fin; rw [if_pos hl]
    rw [hq] at HE ⊢
    have hl' : (q.at_ : Int) < (s.size : Int) := by omega
    clear hq
    go_enter Tryd.func13, Tryd.ntmps13
    go_wp2_with fail
    go_quiet (fail)
    go_wp2_with fail
    refine (HF.out _ (HR.out.inner ((Only.refl _ w).drewN _))).mono ?_
    rintro e w1 ⟨rfl, R1, o1⟩
    obtain ⟨v, hv, hE⟩ := HE.out _ R1
    have H1 := Lib.hid hE
    clear hE
    go_wp2_with fail
    go_ret
    exact ⟨v, rfl, H1.out, R1, ((Only.refl _ w).drewN _).trans o1⟩
  · have hq : q.fin s = q := by unfold Q8.fin; rw [if_neg hl]
    rw [hq] at HE ⊢
    have hl' : ¬ (q.at_ : Int) < (s.size : Int) := by omega
    obtain ⟨v, hv, hE⟩ := HE.out _ HR.out
    have H1 := Lib.hid hE
    clear hE hq
    go_enter Tryd.func13, Tryd.ntmps13
    go_wp2_with fail
    go_quiet (fail)
    go_wp2_with fail
    go_ret
    refine ⟨v, rfl, ?_, HR.out.inner ((Only.refl _ w).drewN _), (Only.refl _ w).drewN _⟩
    rcases H1.out with ⟨a, b⟩ | ⟨b, l, a, c, d⟩
    · exact .inl ⟨a, b⟩
    · exact .inr ⟨b, l, a, c, d.only ((Only.refl (fun _ => False) w).drewN _) (fun _ _ _ f => f)⟩
end Go.Proofs.YtkafnkkipflbbaaDoor
