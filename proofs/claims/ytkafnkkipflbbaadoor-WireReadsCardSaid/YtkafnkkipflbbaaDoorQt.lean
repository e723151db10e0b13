/- The reference of layer 8: Raw, many, Blob, End. -/
import Derived.Test.YtkafnkkipflbbaaDoorQs
set_option linter.unusedSimpArgs false
set_option linter.unusedVariables false
namespace Go.Proofs.YtkafnkkipflbbaaDoor
open Go.RowKit

theorem fail_zero {q : Q8} {c : Int} (h : q.e = 0) : q.fail c = ⟨q.at_, c⟩ := by unfold Q8.fail; rw [if_pos h]
theorem Q8.fin_at (q : Q8) (s : ByteArray) : (q.fin s).at_ = q.at_ := by
  unfold Q8.fin Q8.fail
  split
  · split <;> rfl
  · rfl
theorem Q8.blob_ref (q : Q8) (s : ByteArray) (most : Int) : q.blob s most =
    if (q.many s (min most 65536) 0).1.e ≠ 0 then ((q.many s (min most 65536) 0).1, ⟨#[]⟩)
    else if ((q.many s (min most 65536) 0).1.take s (q.many s (min most 65536) 0).2).1.e ≠ 0 then (⟨q.at_, ((q.many s (min most 65536) 0).1.take s (q.many s (min most 65536) 0).2).1.e⟩, ⟨#[]⟩)
    else (q.many s (min most 65536) 0).1.take s (q.many s (min most 65536) 0).2 := by
  unfold Q8.blob
  rw [q.many_split s (min most 65536) 1]
  by_cases he : (q.many s (min most 65536) 0).1.e = 0
  · have hne : ¬ ((q.many s (min most 65536) 0).1.e ≠ 0) := by simpa using he
    rw [if_neg hne, if_neg hne, Nat.mul_one]
    by_cases hl : s.size < (q.many s (min most 65536) 0).1.at_ + (q.many s (min most 65536) 0).2
    · rw [if_pos hl, Q8.take_short he hl, if_pos (by simp)]
      rfl
    · rw [if_neg hl, Q8.take_ok he (by omega), if_neg (by simp)]
  · rw [if_pos he, if_pos he, Q8.take_had he]

theorem res_rw {W : World} {b : Nat} {x0 x1 x2 v : Value} {tm : Array Value} (h : Has W b 38 #[x0, x1, x2]) (h8 : tm.getD 4 undef = .pointer (some ⟨b, 0, none⟩)) (h9 : tm.getD 5 undef = v) :
    (results Tryd.f26 tm).run Tryd.prog W = .ok (.tuple #[.agg #[x0, x1, x2], v]) W := by
  obtain ⟨c0, c1, c2, _⟩ := h.facts3
  simp only [Array.getD_eq_getD_getElem?] at h8 h9
  simp [results, Tryd.results26, go_sem, h8, h9, c0, c1, c2]
set_option maxRecDepth 100000 in
set_option maxHeartbeats 2000000 in
theorem q_raw (w : World) (s : ByteArray) (q : Q8) (n : Int) (hs : s.size ≤ 140737488351232) (hat : q.at_ ≤ s.size) : Calls Tryd.prog 26 #[.agg (q.cells s), .int .i64 n] w fun x w' => x = .returned (.tuple #[.agg ((q.raw s n).1.cells s), .string (q.raw s n).2]) ∧ Only (fun _ => False) w w' := by
  unfold Q8.raw
  have HF := Lib.hid (fun W => q_failed W s q 1)
  have HT := Lib.hid (fun W (n : Nat) (h : n ≤ 4611686018427387904) => q_take W s q n hs h hat)
  simp only [Q8.cells] at *
  have A0 : Has ((w.alloc (.cells #[.string s, .int .i64 (q.at_ : Int), .int .i64 q.e] 38)).alloc (.cells #[.string ⟨#[]⟩, .int .i64 0, .int .i64 0] 38)) w.heap.size 38 #[.string s, .int .i64 (q.at_ : Int), .int .i64 q.e] := (Has.new _ _ _).alloc _
  have B0 : Has ((w.alloc (.cells #[.string s, .int .i64 (q.at_ : Int), .int .i64 q.e] 38)).alloc (.cells #[.string ⟨#[]⟩, .int .i64 0, .int .i64 0] 38)) (w.heap.size + 1) 38 #[.string ⟨#[]⟩, .int .i64 0, .int .i64 0] := has_new2 _ _ _ _
  have O0 : Only (fun _ => False) w ((w.alloc (.cells #[.string s, .int .i64 (q.at_ : Int), .int .i64 q.e] 38)).alloc (.cells #[.string ⟨#[]⟩, .int .i64 0, .int .i64 0] 38)) := ((Only.refl _ _).alloc _).alloc _
  by_cases h1 : n < 0 ∨ 65536 < n
  · rw [if_pos h1]
    simp only []
    generalize q.fail 1 = y at *
    rcases h1 with h1 | h1
    all_goals
      go_enter Tryd.func26, Tryd.ntmps26
      go_wp2_with fail
      refine (HF.out _).mono ?_; rintro e w1 ⟨rfl, o1⟩
      have B1 := o1.has B0 (fun f => f)
      obtain ⟨z0, z1, z2, zf⟩ := Has.facts3 B1
      have O1 := O0.trans o1
      go_wp2_with fail
      refine bodyPost_ret (v := .tuple #[.agg #[.string s, .int .i64 (y.at_ : Int), .int .i64 y.e], .string ⟨#[]⟩]) ?hr rfl ?hp
      case hr => exact res_rw (b := w.heap.size + 1) (Has.put3 B1 rfl _ _ _) rfl rfl
      case hp => exact ⟨rfl, O1.then_ (Only.put3 _ (w.heap.size + 1) (.string s) (.int .i64 (y.at_ : Int)) (.int .i64 y.e)) (fun i hi e => absurd hi (by have : i = w.heap.size + 1 := e; omega))⟩
  · rw [if_neg h1]
    have hn : ((n.toNat : Nat) : Int) = n := by omega
    have HT := Lib.hid (fun W => (q_take W s q n.toNat hs (by omega) hat))
    simp only [Q8.cells, hn] at HT
    have n0 : 0 ≤ n := by omega
    have n1 : n ≤ 65536 := by omega
    generalize (q.take s n.toNat).1 = y at *
    generalize (q.take s n.toNat).2 = t at *
    clear h1 hn
    go_enter Tryd.func26, Tryd.ntmps26
    go_wp2_with fail
    refine (HT.out _).mono ?_; rintro e w1 ⟨rfl, o1⟩
    have B1 := o1.has B0 (fun f => f)
    obtain ⟨z0, z1, z2, zf⟩ := Has.facts3 B1
    have O1 := O0.trans o1
    go_wp2_with fail
    refine bodyPost_ret (v := .tuple #[.agg #[.string s, .int .i64 (y.at_ : Int), .int .i64 y.e], .string t]) ?hr rfl ?hp
    case hr => exact res_rw (b := w.heap.size + 1) (Has.put3 B1 rfl _ _ _) rfl rfl
    case hp => exact ⟨rfl, O1.then_ (Only.put3 _ (w.heap.size + 1) (.string s) (.int .i64 (y.at_ : Int)) (.int .i64 y.e)) (fun i hi e => absurd hi (by have : i = w.heap.size + 1 := e; omega))⟩

theorem res_qe {W : World} {b : Nat} {x0 x1 x2 : Value} {tm : Array Value} (h : Has W b 38 #[x0, x1, x2]) (h8 : tm.getD 2 undef = .pointer (some ⟨b, 0, none⟩)) :
    (results Tryd.f35 tm).run Tryd.prog W = .ok (.agg #[x0, x1, x2]) W := by
  obtain ⟨c0, c1, c2, _⟩ := h.facts3
  simp only [Array.getD_eq_getD_getElem?] at h8
  simp [results, Tryd.results35, go_sem, h8, c0, c1, c2]
set_option maxRecDepth 100000 in
set_option maxHeartbeats 2000000 in
theorem q_end (w : World) (s : ByteArray) (q : Q8) (hs : s.size ≤ 140737488351232) (hat : q.at_ ≤ s.size) : Calls Tryd.prog 35 #[.agg (q.cells s)] w fun x w' => x = .returned (.agg ((q.fin s).cells s)) ∧ Only (fun _ => False) w w' := by
  unfold Q8.fin
  have HF := Lib.hid (fun W => q_failed W s q 14)
  simp only [Q8.cells] at *
  have A0 : Has ((w.alloc (.cells #[.string s, .int .i64 (q.at_ : Int), .int .i64 q.e] 38)).alloc (.cells #[.string ⟨#[]⟩, .int .i64 0, .int .i64 0] 38)) w.heap.size 38 #[.string s, .int .i64 (q.at_ : Int), .int .i64 q.e] := (Has.new _ _ _).alloc _
  have B0 : Has ((w.alloc (.cells #[.string s, .int .i64 (q.at_ : Int), .int .i64 q.e] 38)).alloc (.cells #[.string ⟨#[]⟩, .int .i64 0, .int .i64 0] 38)) (w.heap.size + 1) 38 #[.string ⟨#[]⟩, .int .i64 0, .int .i64 0] := has_new2 _ _ _ _
  have O0 : Only (fun _ => False) w ((w.alloc (.cells #[.string s, .int .i64 (q.at_ : Int), .int .i64 q.e] 38)).alloc (.cells #[.string ⟨#[]⟩, .int .i64 0, .int .i64 0] 38)) := ((Only.refl _ _).alloc _).alloc _
  by_cases hl : q.at_ < s.size
  · rw [if_pos hl]
    have hl' : (q.at_ : Int) < (s.size : Int) := by omega
    generalize q.fail 14 = y at *
    go_enter Tryd.func35, Tryd.ntmps35
    go_wp2_with fail
    refine (HF.out _).mono ?_; rintro e w1 ⟨rfl, o1⟩
    have B1 := o1.has B0 (fun f => f)
    obtain ⟨z0, z1, z2, zf⟩ := Has.facts3 B1
    have O1 := O0.trans o1
    go_wp2_with fail
    refine bodyPost_ret (v := .agg #[.string s, .int .i64 (y.at_ : Int), .int .i64 y.e]) ?hr rfl ?hp
    case hr => exact res_qe (b := w.heap.size + 1) (Has.put3 B1 rfl _ _ _) rfl
    case hp => exact ⟨rfl, O1.then_ (Only.put3 _ (w.heap.size + 1) (.string s) (.int .i64 (y.at_ : Int)) (.int .i64 y.e)) (fun i hi e => absurd hi (by have : i = w.heap.size + 1 := e; omega))⟩
  · rw [if_neg hl]
    have hl' : ¬ (q.at_ : Int) < (s.size : Int) := by omega
    go_enter Tryd.func35, Tryd.ntmps35
    go_wp2_with fail
    refine bodyPost_ret (v := .agg #[.string s, .int .i64 (q.at_ : Int), .int .i64 q.e]) ?hr rfl ?hp
    case hr => exact res_qe (b := w.heap.size + 1) (has_new2 _ _ _ _) rfl
    case hp => exact ⟨rfl, ((Only.refl _ _).alloc _).alloc _⟩

theorem res_mn {W : World} {b : Nat} {x0 x1 x2 v : Value} {tm : Array Value} (h : Has W b 38 #[x0, x1, x2]) (h8 : tm.getD 6 undef = .pointer (some ⟨b, 0, none⟩)) (h9 : tm.getD 7 undef = v) :
    (results Tryd.f51 tm).run Tryd.prog W = .ok (.tuple #[.agg #[x0, x1, x2], v]) W := by
  obtain ⟨c0, c1, c2, _⟩ := h.facts3
  simp only [Array.getD_eq_getD_getElem?] at h8 h9
  simp [results, Tryd.results51, go_sem, h8, h9, c0, c1, c2]
theorem many_ref (q : Q8) (s : ByteArray) (m : Int) (hat : q.at_ ≤ s.size) : q.many s m 0 = if (q.number s 4).1.e ≠ 0 then ((q.number s 4).1, 0) else if m < (q.number s 4).2 then (⟨q.at_, 2⟩, 0) else ((q.number s 4).1, (q.number s 4).2.toNat) := by
  unfold Q8.many
  have h2 : (q.number s 4).1.at_ ≤ s.size := q.take_at s 4 hat
  by_cases he : (q.number s 4).1.e = 0
  · have hne : ¬ ((q.number s 4).1.e ≠ 0) := by simpa using he
    rw [if_neg hne, if_neg hne]
    by_cases hm : m < (q.number s 4).2
    · rw [if_pos hm, if_pos hm]
    · rw [if_neg hm, if_neg hm, Nat.mul_zero, if_neg (show ¬ s.size < (q.number s 4).1.at_ + 0 by omega)]
  · rw [if_pos he, if_pos he]
theorem fail_of_number {q : Q8} {s : ByteArray} {n : Nat} (c : Int) (h : (q.number s n).1.e = 0) : q.fail c = ⟨q.at_, c⟩ := by
  apply fail_zero
  by_cases he : q.e = 0
  · exact he
  · rw [Q8.number_had he] at h
    exact h
set_option maxRecDepth 100000 in
set_option maxHeartbeats 2000000 in
theorem q_many (w : World) (s : ByteArray) (q : Q8) (most : Int) (top : Nat) (hs : s.size ≤ 140737488351232) (hat : q.at_ ≤ s.size) : Calls Tryd.prog 51 #[.agg (q.cells s), .int .i64 most, .int .i64 top] w fun x w' => x = .returned (.tuple #[.agg ((q.many s (min most top) 0).1.cells s), .int .i64 (q.many s (min most top) 0).2]) ∧ Only (fun _ => False) w w' := by
  have HF := fun W => q_failed W s q 2
  have HN := fun W => q_number W s q 4 hs (by decide) hat
  have hb := q.number_bound s 4
  have hp4 : (256 : Int) ^ 4 = 4294967296 := by decide
  have hmin : (most ≤ (top : Int) ∧ min most (top : Int) = most) ∨ ((top : Int) < most ∧ min most (top : Int) = (top : Int)) := by omega
  have HMIN := Lib.hid hmin
  rw [many_ref q s _ hat]
  have HE := fail_of_number (q := q) (s := s) (n := 4) 2
  rw [hp4] at hb
  obtain ⟨x0, x1⟩ := hb
  clear hmin hp4
  generalize min most (top : Int) = m at *
  generalize (q.number s 4).1 = y at *
  generalize (q.number s 4).2 = x at *
  have hw : IntKind.i64.wrap x = x := by rw [IntKind.wrap_i64]; omega
  have hx : ((x.toNat : Nat) : Int) = x := by omega
  obtain ⟨ya, ye⟩ := y
  have HN := Lib.hid HN
  have A0 : Has ((w.alloc (.cells (q.cells s) 38)).alloc (.cells #[.string ⟨#[]⟩, .int .i64 0, .int .i64 0] 38)) w.heap.size 38 (q.cells s) := (Has.new _ _ _).alloc _
  have B0 : Has ((w.alloc (.cells (q.cells s) 38)).alloc (.cells #[.string ⟨#[]⟩, .int .i64 0, .int .i64 0] 38)) (w.heap.size + 1) 38 #[.string ⟨#[]⟩, .int .i64 0, .int .i64 0] := has_new2 _ _ _ _
  have O0 : Only (fun _ => False) w ((w.alloc (.cells (q.cells s) 38)).alloc (.cells #[.string ⟨#[]⟩, .int .i64 0, .int .i64 0] 38)) := ((Only.refl _ _).alloc _).alloc _
  by_cases he : ye = 0
  · subst he
    rw [if_neg (by simp)]
    rw [HE rfl] at HF
    have HF := Lib.hid HF
    clear HE
    by_cases hm : m < x
    · rw [if_pos hm]
      simp only [Q8.cells] at *
      clear hx
      rcases HMIN.out with ⟨hm1, hm2⟩ | ⟨hm1, hm2⟩
      all_goals
        subst hm2
        clear HMIN
        go_enter Tryd.func51, Tryd.ntmps51
        go_wp2_with fail
        refine (HN.out _).mono ?_; rintro e w1 ⟨rfl, o1⟩
        have A1 := o1.has A0 (fun f => f)
        have B1 := o1.has B0 (fun f => f)
        have O1 := O0.trans o1
        have C2 := Has.new w1 38 #[.string s, .int .i64 (ya : Int), .int .i64 0]
        have A2 := A1.alloc (.cells #[.string s, .int .i64 (ya : Int), .int .i64 0] 38)
        have B2 := B1.alloc (.cells #[.string s, .int .i64 (ya : Int), .int .i64 0] 38)
        have O2 := O1.alloc (.cells #[.string s, .int .i64 (ya : Int), .int .i64 0] 38)
        obtain ⟨a0, a1, a2, af⟩ := Has.facts3 A2
        obtain ⟨b0, b1, b2, bf⟩ := Has.facts3 B2
        obtain ⟨c0, c1, c2, cf⟩ := Has.facts3 C2
        clear A0 B0 O0 A1 B1 O1 o1 af cf
        go_wp2_with fail
        refine (HF.out _).mono ?_; rintro e w3 ⟨rfl, o3⟩
        have B3 := o3.has B2 (fun f => f)
        have O3 := O2.trans o3
        obtain ⟨b0, b1, b2, bf⟩ := Has.facts3 B3
        go_wp2_with fail
        refine bodyPost_ret (v := .tuple #[.agg #[.string s, .int .i64 (q.at_ : Int), .int .i64 2], .int .i64 0]) ?hr rfl ?hp
        case hr => exact res_mn (b := w.heap.size + 1) (Has.put3 B3 rfl _ _ _) rfl rfl
        case hp => exact ⟨rfl, O3.then_ (Only.put3 _ (w.heap.size + 1) (.string s) (.int .i64 (q.at_ : Int)) (.int .i64 2)) (fun i hi e => absurd hi (by have : i = w.heap.size + 1 := e; omega))⟩
    · rw [if_neg hm]
      simp only [Q8.cells] at *
      rw [hx]
      clear hx
      rcases HMIN.out with ⟨hm1, hm2⟩ | ⟨hm1, hm2⟩
      all_goals
        subst hm2
        clear HMIN
        go_enter Tryd.func51, Tryd.ntmps51
        go_wp2_with fail
        refine (HN.out _).mono ?_; rintro e w1 ⟨rfl, o1⟩
        have A1 := o1.has A0 (fun f => f)
        have B1 := o1.has B0 (fun f => f)
        have O1 := O0.trans o1
        have C2 := Has.new w1 38 #[.string s, .int .i64 (ya : Int), .int .i64 0]
        have A2 := A1.alloc (.cells #[.string s, .int .i64 (ya : Int), .int .i64 0] 38)
        have B2 := B1.alloc (.cells #[.string s, .int .i64 (ya : Int), .int .i64 0] 38)
        have O2 := O1.alloc (.cells #[.string s, .int .i64 (ya : Int), .int .i64 0] 38)
        obtain ⟨a0, a1, a2, af⟩ := Has.facts3 A2
        obtain ⟨b0, b1, b2, bf⟩ := Has.facts3 B2
        obtain ⟨c0, c1, c2, cf⟩ := Has.facts3 C2
        clear A0 B0 O0 A1 B1 O1 o1 af cf
        go_wp2_with fail
        refine bodyPost_ret (v := .tuple #[.agg #[.string s, .int .i64 (ya : Int), .int .i64 0], .int .i64 x]) ?hr rfl ?hp
        case hr => exact res_mn (b := w.heap.size + 1) (Has.put3 B2 rfl _ _ _) rfl rfl
        case hp => exact ⟨rfl, O2.then_ (Only.put3 _ (w.heap.size + 1) (.string s) (.int .i64 (ya : Int)) (.int .i64 0)) (fun i hi e => absurd hi (by have : i = w.heap.size + 1 := e; omega))⟩
  · rw [if_pos he]
    have he' : (ye != 0) = true := by simpa using he
    simp only [Q8.cells] at *
    clear HE he HF hx
    rcases HMIN.out with ⟨hm1, hm2⟩ | ⟨hm1, hm2⟩
    all_goals
      subst hm2
      clear HMIN
      go_enter Tryd.func51, Tryd.ntmps51
      go_wp2_with fail
      refine (HN.out _).mono ?_; rintro e w1 ⟨rfl, o1⟩
      have A1 := o1.has A0 (fun f => f)
      have B1 := o1.has B0 (fun f => f)
      have O1 := O0.trans o1
      have C2 := Has.new w1 38 #[.string s, .int .i64 (ya : Int), .int .i64 ye]
      have A2 := A1.alloc (.cells #[.string s, .int .i64 (ya : Int), .int .i64 ye] 38)
      have B2 := B1.alloc (.cells #[.string s, .int .i64 (ya : Int), .int .i64 ye] 38)
      have O2 := O1.alloc (.cells #[.string s, .int .i64 (ya : Int), .int .i64 ye] 38)
      obtain ⟨a0, a1, a2, af⟩ := Has.facts3 A2
      obtain ⟨b0, b1, b2, bf⟩ := Has.facts3 B2
      obtain ⟨c0, c1, c2, cf⟩ := Has.facts3 C2
      clear A0 B0 O0 A1 B1 O1 o1 af cf
      go_wp2_with fail
      refine bodyPost_ret (v := .tuple #[.agg #[.string s, .int .i64 (ya : Int), .int .i64 ye], .int .i64 0]) ?hr rfl ?hp
      case hr => exact res_mn (b := w.heap.size + 1) (Has.put3 B2 rfl _ _ _) rfl rfl
      case hp => exact ⟨rfl, O2.then_ (Only.put3 _ (w.heap.size + 1) (.string s) (.int .i64 (ya : Int)) (.int .i64 ye)) (fun i hi e => absurd hi (by have : i = w.heap.size + 1 := e; omega))⟩

end Go.Proofs.YtkafnkkipflbbaaDoor
