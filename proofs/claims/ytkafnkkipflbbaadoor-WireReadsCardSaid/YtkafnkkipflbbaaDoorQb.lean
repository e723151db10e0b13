/- The reference of layer 8: Blob, Bits. -/
import Derived.Test.YtkafnkkipflbbaaDoorQt
import Derived.Test.YtkafnkkipflbbaaDoorR2
set_option linter.unusedSimpArgs false
set_option linter.unusedVariables false
namespace Go.Proofs.YtkafnkkipflbbaaDoor
open Go.RowKit

theorem many_e0 {q : Q8} {s : ByteArray} {m : Int} {size : Nat} (h : (q.many s m size).1.e = 0) : q.e = 0 := by
  by_cases he : q.e = 0
  · exact he
  · rw [q.many_e s m size he] at h
    exact h
theorem many_max0 (q : Q8) (s : ByteArray) (most : Int) (size : Nat) : (q.many s most size).2 ≤ most.toNat := by
  by_cases he : q.e = 0
  · by_cases h4 : q.at_ + 4 ≤ s.size
    · rw [q.many_ok s most size he h4]
      split
      · exact Nat.zero_le _
      · split
        · exact Nat.zero_le _
        · show (num s q.at_ 4).toNat ≤ most.toNat
          omega
    · rw [q.many_short s most size he (by omega)]
      exact Nat.zero_le _
  · rw [q.many_e s most size he]
    exact Nat.zero_le _
theorem own_base {w : World} {base base' n : Nat} {e : TypeId} {v : Value} {xs : List Value} (h : w.ownsRow base e 1 v n xs) (hb : base' ≤ base) : w.ownsRow base' e 1 v n xs := by
  refine ⟨h.1, ?_⟩
  rcases h.2 with h2 | ⟨g, cap, cur, e1, h3, h4⟩
  · exact .inl h2
  · exact .inr ⟨g, cap, cur, e1, Nat.le_trans hb h3, h4⟩
theorem own_off {w : World} {base n b : Nat} {e : TypeId} {v : Value} {xs : List Value} (h : w.ownsRow base e 1 v n xs) (hb : b < base) : v.ownBlock ≠ some b := by
  intro q
  have := own_ge2 h q
  omega
theorem res_bl {W : World} {b : Nat} {x0 x1 x2 v : Value} {tm : Array Value} (h : Has W b 38 #[x0, x1, x2]) (h8 : tm.getD 4 undef = .pointer (some ⟨b, 0, none⟩)) (h9 : tm.getD 5 undef = v) :
    (results Tryd.f25 tm).run Tryd.prog W = .ok (.tuple #[.agg #[x0, x1, x2], v]) W := by
  obtain ⟨c0, c1, c2, _⟩ := h.facts3
  simp only [Array.getD_eq_getD_getElem?] at h8 h9
  simp [results, Tryd.results25, go_sem, h8, h9, c0, c1, c2]
set_option maxRecDepth 100000 in
set_option maxHeartbeats 3000000 in
theorem q_blob (w : World) (s : ByteArray) (q : Q8) (most : Int) (hs : s.size ≤ 140737488351232) (hat : q.at_ ≤ s.size) : Calls Tryd.prog 25 #[.agg (q.cells s), .int .i64 most] w fun x w' => x = .returned (.tuple #[.agg ((q.blob s most).1.cells s), .string (q.blob s most).2]) ∧ Only (fun _ => False) w w' := by
  have HM := fun W => q_many W s q most 65536 hs hat
  have hya := q.many_at s (min most 65536) 0 hat
  have hmx := many_max0 q s (min most 65536) 0
  have hm65 : min most 65536 ≤ 65536 := Int.min_le_right _ _
  have hq0 := many_e0 (q := q) (s := s) (m := min most 65536) (size := 0)
  rw [q.blob_ref s most]
  rw [show ((65536 : Nat) : Int) = 65536 from rfl] at HM
  generalize min most 65536 = m at *
  generalize (q.many s m 0).1 = y at *
  generalize (q.many s m 0).2 = n at *
  have hn : n ≤ 65536 := by omega
  have HT := fun W => q_take W s y n hs (by omega) hya
  have HF := fun W c => q_failed W s q c
  have hfz : y.e = 0 → ∀ c, q.fail c = ⟨q.at_, c⟩ := fun h c => fail_zero (hq0 h)
  generalize y.take s n = T at *
  obtain ⟨⟨za, ze⟩, t⟩ := T
  obtain ⟨ya, ye⟩ := y
  simp only at HM HT hfz ⊢
  have HM := Lib.hid HM
  have HT := Lib.hid HT
  clear hya hmx hm65 hq0 hat
  by_cases he : ye = 0
  · subst he
    rw [if_neg (by simp)]
    have hfz := hfz rfl
    by_cases hze : ze = 0
    · subst hze
      rw [if_neg (by simp)]
      clear hfz HF
      obtain ⟨qa, qe⟩ := q
      simp only [Q8.cells] at *
      have A0 : Has ((w.alloc (.cells #[.string s, .int .i64 (qa : Int), .int .i64 qe] 38)).alloc (.cells #[.string ⟨#[]⟩, .int .i64 0, .int .i64 0] 38)) w.heap.size 38 #[.string s, .int .i64 (qa : Int), .int .i64 qe] := (Has.new _ _ _).alloc _
      have B0 : Has ((w.alloc (.cells #[.string s, .int .i64 (qa : Int), .int .i64 qe] 38)).alloc (.cells #[.string ⟨#[]⟩, .int .i64 0, .int .i64 0] 38)) (w.heap.size + 1) 38 #[.string ⟨#[]⟩, .int .i64 0, .int .i64 0] := has_new2 _ _ _ _
      have O0 : Only (fun _ => False) w ((w.alloc (.cells #[.string s, .int .i64 (qa : Int), .int .i64 qe] 38)).alloc (.cells #[.string ⟨#[]⟩, .int .i64 0, .int .i64 0] 38)) := ((Only.refl _ _).alloc _).alloc _
      go_enter Tryd.func25, Tryd.ntmps25
      go_wp2_with fail
      refine (HM.out _).mono ?_; rintro e w1 ⟨rfl, o1⟩
      have A1 := o1.has A0 (fun f => f)
      have B1 := o1.has B0 (fun f => f)
      have O1 := Only.trans O0 o1
      have C1 := Has.new w1 38 #[.string s, .int .i64 (ya : Int), .int .i64 0]
      replace A1 := A1.alloc (.cells #[.string s, .int .i64 (ya : Int), .int .i64 0] 38)
      replace B1 := B1.alloc (.cells #[.string s, .int .i64 (ya : Int), .int .i64 0] 38)
      replace O1 := O1.alloc (.cells #[.string s, .int .i64 (ya : Int), .int .i64 0] 38)
      obtain ⟨a0, a1, a2, af⟩ := Has.facts3 A1
      obtain ⟨b0, b1, b2, bf⟩ := Has.facts3 B1
      obtain ⟨c0, c1, c2, cf⟩ := Has.facts3 C1
      go_wp2_with fail
      refine (HT.out _).mono ?_; rintro e w2 ⟨rfl, o2⟩
      have A2 := o2.has A1 (fun f => f)
      have B2 := o2.has B1 (fun f => f)
      have O2 := Only.trans O1 o2
      have C2 := Has.new w2 38 #[.string s, .int .i64 (za : Int), .int .i64 0]
      replace A2 := A2.alloc (.cells #[.string s, .int .i64 (za : Int), .int .i64 0] 38)
      replace B2 := B2.alloc (.cells #[.string s, .int .i64 (za : Int), .int .i64 0] 38)
      replace O2 := O2.alloc (.cells #[.string s, .int .i64 (za : Int), .int .i64 0] 38)
      obtain ⟨a0, a1, a2, af⟩ := Has.facts3 A2
      obtain ⟨b0, b1, b2, bf⟩ := Has.facts3 B2
      obtain ⟨c0, c1, c2, cf⟩ := Has.facts3 C2
      go_wp2_with fail
      refine bodyPost_ret (v := .tuple #[.agg #[.string s, .int .i64 (za : Int), .int .i64 0], .string t]) ?hr rfl ?hp
      case hr => exact res_bl (b := w.heap.size + 1) (Has.put3 B2 rfl _ _ _) rfl rfl
      case hp => exact ⟨rfl, Only.then_ O2 (Only.put3 _ (w.heap.size + 1) (.string s) (.int .i64 (za : Int)) (.int .i64 0)) (fun i hi e => absurd hi (by have : i = w.heap.size + 1 := e; omega))⟩
    · rw [if_pos hze]
      have HF := HF
      have hze' : (ze != 0) = true := by simpa using hze
      simp only [hfz] at HF
      have HF := Lib.hid HF
      clear hfz hze
      obtain ⟨qa, qe⟩ := q
      simp only [Q8.cells] at *
      have A0 : Has ((w.alloc (.cells #[.string s, .int .i64 (qa : Int), .int .i64 qe] 38)).alloc (.cells #[.string ⟨#[]⟩, .int .i64 0, .int .i64 0] 38)) w.heap.size 38 #[.string s, .int .i64 (qa : Int), .int .i64 qe] := (Has.new _ _ _).alloc _
      have B0 : Has ((w.alloc (.cells #[.string s, .int .i64 (qa : Int), .int .i64 qe] 38)).alloc (.cells #[.string ⟨#[]⟩, .int .i64 0, .int .i64 0] 38)) (w.heap.size + 1) 38 #[.string ⟨#[]⟩, .int .i64 0, .int .i64 0] := has_new2 _ _ _ _
      have O0 : Only (fun _ => False) w ((w.alloc (.cells #[.string s, .int .i64 (qa : Int), .int .i64 qe] 38)).alloc (.cells #[.string ⟨#[]⟩, .int .i64 0, .int .i64 0] 38)) := ((Only.refl _ _).alloc _).alloc _
      go_enter Tryd.func25, Tryd.ntmps25
      go_wp2_with fail
      refine (HM.out _).mono ?_; rintro e w1 ⟨rfl, o1⟩
      have A1 := o1.has A0 (fun f => f)
      have B1 := o1.has B0 (fun f => f)
      have O1 := Only.trans O0 o1
      have C1 := Has.new w1 38 #[.string s, .int .i64 (ya : Int), .int .i64 0]
      replace A1 := A1.alloc (.cells #[.string s, .int .i64 (ya : Int), .int .i64 0] 38)
      replace B1 := B1.alloc (.cells #[.string s, .int .i64 (ya : Int), .int .i64 0] 38)
      replace O1 := O1.alloc (.cells #[.string s, .int .i64 (ya : Int), .int .i64 0] 38)
      obtain ⟨a0, a1, a2, af⟩ := Has.facts3 A1
      obtain ⟨b0, b1, b2, bf⟩ := Has.facts3 B1
      obtain ⟨c0, c1, c2, cf⟩ := Has.facts3 C1
      go_wp2_with fail
      refine (HT.out _).mono ?_; rintro e w2 ⟨rfl, o2⟩
      have A2 := o2.has A1 (fun f => f)
      have B2 := o2.has B1 (fun f => f)
      have O2 := Only.trans O1 o2
      have C2 := Has.new w2 38 #[.string s, .int .i64 (za : Int), .int .i64 ze]
      replace A2 := A2.alloc (.cells #[.string s, .int .i64 (za : Int), .int .i64 ze] 38)
      replace B2 := B2.alloc (.cells #[.string s, .int .i64 (za : Int), .int .i64 ze] 38)
      replace O2 := O2.alloc (.cells #[.string s, .int .i64 (za : Int), .int .i64 ze] 38)
      obtain ⟨a0, a1, a2, af⟩ := Has.facts3 A2
      obtain ⟨b0, b1, b2, bf⟩ := Has.facts3 B2
      obtain ⟨c0, c1, c2, cf⟩ := Has.facts3 C2
      go_wp2_with fail
      refine (HF.out _ _).mono ?_; rintro e w3 ⟨rfl, o3⟩
      have A3 := o3.has A2 (fun f => f)
      have B3 := o3.has B2 (fun f => f)
      have O3 := Only.trans O2 o3
      obtain ⟨a0, a1, a2, af⟩ := Has.facts3 A3
      obtain ⟨b0, b1, b2, bf⟩ := Has.facts3 B3
      go_wp2_with fail
      refine bodyPost_ret (v := .tuple #[.agg #[.string s, .int .i64 (qa : Int), .int .i64 ze], .string ⟨#[]⟩]) ?hr rfl ?hp
      case hr => exact res_bl (b := w.heap.size + 1) (Has.put3 B3 rfl _ _ _) rfl rfl
      case hp => exact ⟨rfl, Only.then_ O3 (Only.put3 _ (w.heap.size + 1) (.string s) (.int .i64 (qa : Int)) (.int .i64 ze)) (fun i hi e => absurd hi (by have : i = w.heap.size + 1 := e; omega))⟩
  · rw [if_pos he]
    have he' : (ye != 0) = true := by simpa using he
    clear he hfz HF
    obtain ⟨qa, qe⟩ := q
    simp only [Q8.cells] at *
    have A0 : Has ((w.alloc (.cells #[.string s, .int .i64 (qa : Int), .int .i64 qe] 38)).alloc (.cells #[.string ⟨#[]⟩, .int .i64 0, .int .i64 0] 38)) w.heap.size 38 #[.string s, .int .i64 (qa : Int), .int .i64 qe] := (Has.new _ _ _).alloc _
    have B0 : Has ((w.alloc (.cells #[.string s, .int .i64 (qa : Int), .int .i64 qe] 38)).alloc (.cells #[.string ⟨#[]⟩, .int .i64 0, .int .i64 0] 38)) (w.heap.size + 1) 38 #[.string ⟨#[]⟩, .int .i64 0, .int .i64 0] := has_new2 _ _ _ _
    have O0 : Only (fun _ => False) w ((w.alloc (.cells #[.string s, .int .i64 (qa : Int), .int .i64 qe] 38)).alloc (.cells #[.string ⟨#[]⟩, .int .i64 0, .int .i64 0] 38)) := ((Only.refl _ _).alloc _).alloc _
    go_enter Tryd.func25, Tryd.ntmps25
    go_wp2_with fail
    refine (HM.out _).mono ?_; rintro e w1 ⟨rfl, o1⟩
    have A1 := o1.has A0 (fun f => f)
    have B1 := o1.has B0 (fun f => f)
    have O1 := Only.trans O0 o1
    have C1 := Has.new w1 38 #[.string s, .int .i64 (ya : Int), .int .i64 ye]
    replace A1 := A1.alloc (.cells #[.string s, .int .i64 (ya : Int), .int .i64 ye] 38)
    replace B1 := B1.alloc (.cells #[.string s, .int .i64 (ya : Int), .int .i64 ye] 38)
    replace O1 := O1.alloc (.cells #[.string s, .int .i64 (ya : Int), .int .i64 ye] 38)
    obtain ⟨a0, a1, a2, af⟩ := Has.facts3 A1
    obtain ⟨b0, b1, b2, bf⟩ := Has.facts3 B1
    obtain ⟨c0, c1, c2, cf⟩ := Has.facts3 C1
    go_wp2_with fail
    refine bodyPost_ret (v := .tuple #[.agg #[.string s, .int .i64 (ya : Int), .int .i64 ye], .string ⟨#[]⟩]) ?hr rfl ?hp
    case hr => exact res_bl (b := w.heap.size + 1) (Has.put3 B1 rfl _ _ _) rfl rfl
    case hp => exact ⟨rfl, Only.then_ O1 (Only.put3 _ (w.heap.size + 1) (.string s) (.int .i64 (ya : Int)) (.int .i64 ye)) (fun i hi e => absurd hi (by have : i = w.heap.size + 1 := e; omega))⟩
theorem Q8.bits_ref (q : Q8) (s : ByteArray) (most : Int) (y z : Q8) (n : Nat) (t : ByteArray) (hy : q.many s (min most 524288) 0 = (y, n)) (hz : y.take s ((n + 7) / 8) = (z, t)) : q.bits s most =
    if y.e ≠ 0 then (y, []) else if z.e ≠ 0 then (⟨q.at_, z.e⟩, []) else match Go.Proofs.YtkafnkkipflbbaaDoor.bitsOf n t with
      | some l => (z, l)
      | none => (⟨q.at_, 13⟩, []) := by
  unfold Q8.bits
  rw [hy]
  simp only
  rw [hz]
  unfold Q8.bitsOf
  simp only
  by_cases he : y.e = 0
  · rw [if_neg (show ¬ (y.e ≠ 0) by simpa using he)]
    rfl
  · rw [if_pos he]
    rw [Q8.take_had he] at hz
    injection hz with h1 h2
    subst h1
    rw [if_pos he]
    have hat : y.at_ = q.at_ := by
      have h3 : (q.many s (min most 524288) 0).1 = y := by rw [hy]
      rw [← h3]
      have he2 : (q.many s (min most 524288) 0).1.e ≠ 0 := by rw [h3]; exact he
      by_cases hq : q.e = 0
      · by_cases h4 : q.at_ + 4 ≤ s.size
        · rw [q.many_ok s _ 0 hq h4] at he2 ⊢
          split
          · rfl
          · split
            · rfl
            · rename_i h5 h6
              rw [if_neg h5, if_neg h6] at he2
              exact absurd rfl he2
        · rw [q.many_short s _ 0 hq (by omega)]
      · rw [q.many_e s _ 0 hq]
    rw [← hat]
theorem many_take_size {y z : Q8} {s t : ByteArray} {d : Nat} (h : y.take s d = (z, t)) (hz : z.e = 0) : t.size = d := by
  have h1 : (y.take s d).1 = z := by rw [h]
  have h2 : (y.take s d).2 = t := by rw [h]
  rw [← h2]
  rw [← h1] at hz
  by_cases hye : y.e = 0
  · by_cases hl : y.at_ + d ≤ s.size
    · rw [Q8.take_ok hye hl]; simp; omega
    · rw [Q8.take_short hye (by omega)] at hz; cases hz
  · rw [Q8.take_had hye] at hz; exact absurd hz hye
theorem res_bi {W : World} {b : Nat} {x0 x1 x2 v : Value} {tm : Array Value} (h : Has W b 38 #[x0, x1, x2]) (h8 : tm.getD 4 undef = .pointer (some ⟨b, 0, none⟩)) (h9 : tm.getD 5 undef = v) :
    (results Tryd.f31 tm).run Tryd.prog W = .ok (.tuple #[.agg #[x0, x1, x2], v]) W := by
  obtain ⟨c0, c1, c2, _⟩ := h.facts3
  simp only [Array.getD_eq_getD_getElem?] at h8 h9
  simp [results, Tryd.results31, go_sem, h8, h9, c0, c1, c2]
def BitsPost (s : ByteArray) (P : Q8 × List Bool) (B : Nat) (e : Ending) (W : World) : Prop := ∃ v, e = .returned (.tuple #[.agg (P.1.cells s), v]) ∧ W.ownsRow B 4 1 v P.2.length (bcellsB P.2)
set_option maxRecDepth 100000 in
set_option maxHeartbeats 3000000 in
theorem q_bits (w : World) (s : ByteArray) (q : Q8) (most : Int) (hs : s.size ≤ 140737488351232) (hat : q.at_ ≤ s.size) : Calls Tryd.prog 31 #[.agg (q.cells s), .int .i64 most] w fun x w' => BitsPost s (q.bits s most) w.heap.size x w' ∧ Only (fun _ => False) w w' := by
  have HM := fun W => q_many W s q most 524288 hs hat
  have hya := q.many_at s (min most 524288) 0 hat
  have hmx := many_max0 q s (min most 524288) 0
  have hm65 : min most 524288 ≤ 524288 := Int.min_le_right _ _
  have hq0 := many_e0 (q := q) (s := s) (m := min most 524288) (size := 0)
  rw [show ((524288 : Nat) : Int) = 524288 from rfl] at HM
  obtain ⟨⟨y, n⟩, hy⟩ : ∃ M, q.many s (min most 524288) 0 = M := ⟨_, rfl⟩
  obtain ⟨⟨z, t⟩, hz⟩ : ∃ M, y.take s ((n + 7) / 8) = M := ⟨_, rfl⟩
  rw [q.bits_ref s most y z n t hy hz]
  rw [hy] at HM hya hmx hq0
  simp only at HM hya hmx hq0
  have hn : n ≤ 524288 := by omega
  have HT := fun W => q_take W s y ((n + 7) / 8) hs (by omega) hya
  rw [hz] at HT
  have htz := many_take_size hz
  have HF := fun W c => q_failed W s q c
  have hfz : y.e = 0 → ∀ c, q.fail c = ⟨q.at_, c⟩ := fun h c => fail_zero (hq0 h)
  have HRD := fun W (h : t.size = (n + 7) / 8) => rread_any W n t (by omega) h
  have hdz : ((n : Int) + 7) / 8 = (((n + 7) / 8 : Nat) : Int) := by omega
  clear hmx hm65 hq0 hat hya hy hz
  generalize (n + 7) / 8 = d at *
  have hnI : (n : Int) ≤ 524288 := by omega
  obtain ⟨za, ze⟩ := z
  obtain ⟨ya, ye⟩ := y
  simp only at HT hfz ⊢
  have HM := Lib.hid HM
  have HT := Lib.hid HT
  by_cases he : ye = 0
  · subst he
    rw [if_neg (by simp)]
    have hfz := hfz rfl
    simp only [hfz] at HF
    have HF := Lib.hid HF
    clear hfz
    by_cases hze : ze = 0
    · subst hze
      rw [if_neg (by simp)]
      have HRD := fun W => HRD W (htz rfl)
      clear htz
      cases hb : Go.Proofs.YtkafnkkipflbbaaDoor.bitsOf n t with
      | some l =>
        unfold RefRead at HRD
        simp only [hb] at HRD ⊢
        have HRD := Lib.hid HRD
        clear hb HF
        obtain ⟨qa, qe⟩ := q
        simp only [Q8.cells] at *
        have A0 : Has ((w.alloc (.cells #[.string s, .int .i64 (qa : Int), .int .i64 qe] 38)).alloc (.cells #[.string ⟨#[]⟩, .int .i64 0, .int .i64 0] 38)) w.heap.size 38 #[.string s, .int .i64 (qa : Int), .int .i64 qe] := (Has.new _ _ _).alloc _
        have B0 : Has ((w.alloc (.cells #[.string s, .int .i64 (qa : Int), .int .i64 qe] 38)).alloc (.cells #[.string ⟨#[]⟩, .int .i64 0, .int .i64 0] 38)) (w.heap.size + 1) 38 #[.string ⟨#[]⟩, .int .i64 0, .int .i64 0] := has_new2 _ _ _ _
        have O0 : Only (fun _ => False) w ((w.alloc (.cells #[.string s, .int .i64 (qa : Int), .int .i64 qe] 38)).alloc (.cells #[.string ⟨#[]⟩, .int .i64 0, .int .i64 0] 38)) := ((Only.refl _ _).alloc _).alloc _
        go_enter Tryd.func31, Tryd.ntmps31
        go_wp2_with fail
        refine (HM.out _).mono ?_; rintro e w1 ⟨rfl, o1⟩
        have A1 := o1.has A0 (fun f => f)
        have B1 := o1.has B0 (fun f => f)
        have O1 := Only.trans O0 o1
        have C1 := Has.new w1 38 #[.string s, .int .i64 (ya : Int), .int .i64 0]
        replace A1 := A1.alloc (.cells #[.string s, .int .i64 (ya : Int), .int .i64 0] 38)
        replace B1 := B1.alloc (.cells #[.string s, .int .i64 (ya : Int), .int .i64 0] 38)
        replace O1 := O1.alloc (.cells #[.string s, .int .i64 (ya : Int), .int .i64 0] 38)
        obtain ⟨a0, a1, a2, af⟩ := Has.facts3 A1
        obtain ⟨b0, b1, b2, bf⟩ := Has.facts3 B1
        obtain ⟨c0, c1, c2, cf⟩ := Has.facts3 C1
        go_wp2_with fail
        refine (HT.out _).mono ?_; rintro e w2 ⟨rfl, o2⟩
        have A2 := o2.has A1 (fun f => f)
        have B2 := o2.has B1 (fun f => f)
        have O2 := Only.trans O1 o2
        have C2 := Has.new w2 38 #[.string s, .int .i64 (za : Int), .int .i64 0]
        replace A2 := A2.alloc (.cells #[.string s, .int .i64 (za : Int), .int .i64 0] 38)
        replace B2 := B2.alloc (.cells #[.string s, .int .i64 (za : Int), .int .i64 0] 38)
        replace O2 := O2.alloc (.cells #[.string s, .int .i64 (za : Int), .int .i64 0] 38)
        obtain ⟨a0, a1, a2, af⟩ := Has.facts3 A2
        obtain ⟨b0, b1, b2, bf⟩ := Has.facts3 B2
        obtain ⟨c0, c1, c2, cf⟩ := Has.facts3 C2
        go_wp2_with fail
        refine (HRD.out _).mono ?_; rintro e w3 ⟨⟨v, rfl, hv⟩, o3⟩
        have A3 := o3.has A2 (fun f => f)
        have B3 := o3.has B2 (fun f => f)
        have C3 := o3.has C2 (fun f => f)
        have O3 := Only.trans O2 o3
        have HV := Lib.hid hv
        have HS2 := Lib.hid O2.size
        have HB2 := Lib.hid B2.lt
        clear hv
        obtain ⟨a0, a1, a2, af⟩ := Has.facts3 A3
        obtain ⟨b0, b1, b2, bf⟩ := Has.facts3 B3
        obtain ⟨c0, c1, c2, cf⟩ := Has.facts3 C3
        go_wp2_with fail
        refine bodyPost_ret (v := .tuple #[.agg #[.string s, .int .i64 (za : Int), .int .i64 0], v]) ?hr rfl ?hp
        case hr => exact res_bi (b := w.heap.size + 1) (Has.put3 B3 rfl _ _ _) rfl rfl
        case hp => exact ⟨⟨v, rfl, ownsRow_setCell_other (a := ⟨w.heap.size + 1, 2, none⟩) (ownsRow_setCell_other (a := ⟨w.heap.size + 1, 1, none⟩) (ownsRow_setCell_other (a := ⟨w.heap.size + 1, 0, none⟩) (own_base HV.out HS2.out) (own_off HV.out HB2.out) _) (own_off HV.out HB2.out) _) (own_off HV.out HB2.out) _⟩, Only.then_ O3 (Only.put3 _ (w.heap.size + 1) (.string s) (.int .i64 (za : Int)) (.int .i64 0)) (fun i hi e => absurd hi (by have : i = w.heap.size + 1 := e; omega))⟩
      | none =>
        unfold RefRead at HRD
        simp only [hb] at HRD ⊢
        have HRD := Lib.hid HRD
        clear hb
        obtain ⟨qa, qe⟩ := q
        simp only [Q8.cells] at *
        have A0 : Has ((w.alloc (.cells #[.string s, .int .i64 (qa : Int), .int .i64 qe] 38)).alloc (.cells #[.string ⟨#[]⟩, .int .i64 0, .int .i64 0] 38)) w.heap.size 38 #[.string s, .int .i64 (qa : Int), .int .i64 qe] := (Has.new _ _ _).alloc _
        have B0 : Has ((w.alloc (.cells #[.string s, .int .i64 (qa : Int), .int .i64 qe] 38)).alloc (.cells #[.string ⟨#[]⟩, .int .i64 0, .int .i64 0] 38)) (w.heap.size + 1) 38 #[.string ⟨#[]⟩, .int .i64 0, .int .i64 0] := has_new2 _ _ _ _
        have O0 : Only (fun _ => False) w ((w.alloc (.cells #[.string s, .int .i64 (qa : Int), .int .i64 qe] 38)).alloc (.cells #[.string ⟨#[]⟩, .int .i64 0, .int .i64 0] 38)) := ((Only.refl _ _).alloc _).alloc _
        go_enter Tryd.func31, Tryd.ntmps31
        go_wp2_with fail
        refine (HM.out _).mono ?_; rintro e w1 ⟨rfl, o1⟩
        have A1 := o1.has A0 (fun f => f)
        have B1 := o1.has B0 (fun f => f)
        have O1 := Only.trans O0 o1
        have C1 := Has.new w1 38 #[.string s, .int .i64 (ya : Int), .int .i64 0]
        replace A1 := A1.alloc (.cells #[.string s, .int .i64 (ya : Int), .int .i64 0] 38)
        replace B1 := B1.alloc (.cells #[.string s, .int .i64 (ya : Int), .int .i64 0] 38)
        replace O1 := O1.alloc (.cells #[.string s, .int .i64 (ya : Int), .int .i64 0] 38)
        obtain ⟨a0, a1, a2, af⟩ := Has.facts3 A1
        obtain ⟨b0, b1, b2, bf⟩ := Has.facts3 B1
        obtain ⟨c0, c1, c2, cf⟩ := Has.facts3 C1
        go_wp2_with fail
        refine (HT.out _).mono ?_; rintro e w2 ⟨rfl, o2⟩
        have A2 := o2.has A1 (fun f => f)
        have B2 := o2.has B1 (fun f => f)
        have O2 := Only.trans O1 o2
        have C2 := Has.new w2 38 #[.string s, .int .i64 (za : Int), .int .i64 0]
        replace A2 := A2.alloc (.cells #[.string s, .int .i64 (za : Int), .int .i64 0] 38)
        replace B2 := B2.alloc (.cells #[.string s, .int .i64 (za : Int), .int .i64 0] 38)
        replace O2 := O2.alloc (.cells #[.string s, .int .i64 (za : Int), .int .i64 0] 38)
        obtain ⟨a0, a1, a2, af⟩ := Has.facts3 A2
        obtain ⟨b0, b1, b2, bf⟩ := Has.facts3 B2
        obtain ⟨c0, c1, c2, cf⟩ := Has.facts3 C2
        go_wp2_with fail
        refine (HRD.out _).mono ?_; rintro e w3 ⟨rfl, o3⟩
        have A3 := o3.has A2 (fun f => f)
        have B3 := o3.has B2 (fun f => f)
        have O3 := Only.trans O2 o3
        obtain ⟨a0, a1, a2, af⟩ := Has.facts3 A3
        obtain ⟨b0, b1, b2, bf⟩ := Has.facts3 B3
        go_wp2_with fail
        refine (HF.out _ _).mono ?_; rintro e w4 ⟨rfl, o4⟩
        have A4 := o4.has A3 (fun f => f)
        have B4 := o4.has B3 (fun f => f)
        have O4 := Only.trans O3 o4
        obtain ⟨a0, a1, a2, af⟩ := Has.facts3 A4
        obtain ⟨b0, b1, b2, bf⟩ := Has.facts3 B4
        go_wp2_with fail
        refine bodyPost_ret (v := .tuple #[.agg #[.string s, .int .i64 (qa : Int), .int .i64 13], .slice none 0 0]) ?hr rfl ?hp
        case hr => exact res_bi (b := w.heap.size + 1) (Has.put3 B4 rfl _ _ _) rfl rfl
        case hp => exact ⟨⟨_, rfl, World.ownsRow_nil _ _ _ _⟩, Only.then_ O4 (Only.put3 _ (w.heap.size + 1) (.string s) (.int .i64 (qa : Int)) (.int .i64 13)) (fun i hi e => absurd hi (by have : i = w.heap.size + 1 := e; omega))⟩
    · rw [if_pos hze]
      have hze' : (ze != 0) = true := by simpa using hze
      clear hze htz HRD
      obtain ⟨qa, qe⟩ := q
      simp only [Q8.cells] at *
      have A0 : Has ((w.alloc (.cells #[.string s, .int .i64 (qa : Int), .int .i64 qe] 38)).alloc (.cells #[.string ⟨#[]⟩, .int .i64 0, .int .i64 0] 38)) w.heap.size 38 #[.string s, .int .i64 (qa : Int), .int .i64 qe] := (Has.new _ _ _).alloc _
      have B0 : Has ((w.alloc (.cells #[.string s, .int .i64 (qa : Int), .int .i64 qe] 38)).alloc (.cells #[.string ⟨#[]⟩, .int .i64 0, .int .i64 0] 38)) (w.heap.size + 1) 38 #[.string ⟨#[]⟩, .int .i64 0, .int .i64 0] := has_new2 _ _ _ _
      have O0 : Only (fun _ => False) w ((w.alloc (.cells #[.string s, .int .i64 (qa : Int), .int .i64 qe] 38)).alloc (.cells #[.string ⟨#[]⟩, .int .i64 0, .int .i64 0] 38)) := ((Only.refl _ _).alloc _).alloc _
      go_enter Tryd.func31, Tryd.ntmps31
      go_wp2_with fail
      refine (HM.out _).mono ?_; rintro e w1 ⟨rfl, o1⟩
      have A1 := o1.has A0 (fun f => f)
      have B1 := o1.has B0 (fun f => f)
      have O1 := Only.trans O0 o1
      have C1 := Has.new w1 38 #[.string s, .int .i64 (ya : Int), .int .i64 0]
      replace A1 := A1.alloc (.cells #[.string s, .int .i64 (ya : Int), .int .i64 0] 38)
      replace B1 := B1.alloc (.cells #[.string s, .int .i64 (ya : Int), .int .i64 0] 38)
      replace O1 := O1.alloc (.cells #[.string s, .int .i64 (ya : Int), .int .i64 0] 38)
      obtain ⟨a0, a1, a2, af⟩ := Has.facts3 A1
      obtain ⟨b0, b1, b2, bf⟩ := Has.facts3 B1
      obtain ⟨c0, c1, c2, cf⟩ := Has.facts3 C1
      go_wp2_with fail
      refine (HT.out _).mono ?_; rintro e w2 ⟨rfl, o2⟩
      have A2 := o2.has A1 (fun f => f)
      have B2 := o2.has B1 (fun f => f)
      have O2 := Only.trans O1 o2
      have C2 := Has.new w2 38 #[.string s, .int .i64 (za : Int), .int .i64 ze]
      replace A2 := A2.alloc (.cells #[.string s, .int .i64 (za : Int), .int .i64 ze] 38)
      replace B2 := B2.alloc (.cells #[.string s, .int .i64 (za : Int), .int .i64 ze] 38)
      replace O2 := O2.alloc (.cells #[.string s, .int .i64 (za : Int), .int .i64 ze] 38)
      obtain ⟨a0, a1, a2, af⟩ := Has.facts3 A2
      obtain ⟨b0, b1, b2, bf⟩ := Has.facts3 B2
      obtain ⟨c0, c1, c2, cf⟩ := Has.facts3 C2
      go_wp2_with fail
      refine (HF.out _ _).mono ?_; rintro e w3 ⟨rfl, o3⟩
      have A3 := o3.has A2 (fun f => f)
      have B3 := o3.has B2 (fun f => f)
      have O3 := Only.trans O2 o3
      obtain ⟨a0, a1, a2, af⟩ := Has.facts3 A3
      obtain ⟨b0, b1, b2, bf⟩ := Has.facts3 B3
      go_wp2_with fail
      refine bodyPost_ret (v := .tuple #[.agg #[.string s, .int .i64 (qa : Int), .int .i64 ze], .slice none 0 0]) ?hr rfl ?hp
      case hr => exact res_bi (b := w.heap.size + 1) (Has.put3 B3 rfl _ _ _) rfl rfl
      case hp => exact ⟨⟨_, rfl, World.ownsRow_nil _ _ _ _⟩, Only.then_ O3 (Only.put3 _ (w.heap.size + 1) (.string s) (.int .i64 (qa : Int)) (.int .i64 ze)) (fun i hi e => absurd hi (by have : i = w.heap.size + 1 := e; omega))⟩
  · rw [if_pos he]
    have he' : (ye != 0) = true := by simpa using he
    clear he hfz HF HRD htz
    obtain ⟨qa, qe⟩ := q
    simp only [Q8.cells] at *
    have A0 : Has ((w.alloc (.cells #[.string s, .int .i64 (qa : Int), .int .i64 qe] 38)).alloc (.cells #[.string ⟨#[]⟩, .int .i64 0, .int .i64 0] 38)) w.heap.size 38 #[.string s, .int .i64 (qa : Int), .int .i64 qe] := (Has.new _ _ _).alloc _
    have B0 : Has ((w.alloc (.cells #[.string s, .int .i64 (qa : Int), .int .i64 qe] 38)).alloc (.cells #[.string ⟨#[]⟩, .int .i64 0, .int .i64 0] 38)) (w.heap.size + 1) 38 #[.string ⟨#[]⟩, .int .i64 0, .int .i64 0] := has_new2 _ _ _ _
    have O0 : Only (fun _ => False) w ((w.alloc (.cells #[.string s, .int .i64 (qa : Int), .int .i64 qe] 38)).alloc (.cells #[.string ⟨#[]⟩, .int .i64 0, .int .i64 0] 38)) := ((Only.refl _ _).alloc _).alloc _
    go_enter Tryd.func31, Tryd.ntmps31
    go_wp2_with fail
    refine (HM.out _).mono ?_; rintro e w1 ⟨rfl, o1⟩
    have A1 := o1.has A0 (fun f => f)
    have B1 := o1.has B0 (fun f => f)
    have O1 := Only.trans O0 o1
    have C1 := Has.new w1 38 #[.string s, .int .i64 (ya : Int), .int .i64 ye]
    replace A1 := A1.alloc (.cells #[.string s, .int .i64 (ya : Int), .int .i64 ye] 38)
    replace B1 := B1.alloc (.cells #[.string s, .int .i64 (ya : Int), .int .i64 ye] 38)
    replace O1 := O1.alloc (.cells #[.string s, .int .i64 (ya : Int), .int .i64 ye] 38)
    obtain ⟨a0, a1, a2, af⟩ := Has.facts3 A1
    obtain ⟨b0, b1, b2, bf⟩ := Has.facts3 B1
    obtain ⟨c0, c1, c2, cf⟩ := Has.facts3 C1
    go_wp2_with fail
    refine bodyPost_ret (v := .tuple #[.agg #[.string s, .int .i64 (ya : Int), .int .i64 ye], .slice none 0 0]) ?hr rfl ?hp
    case hr => exact res_bi (b := w.heap.size + 1) (Has.put3 B1 rfl _ _ _) rfl rfl
    case hp => exact ⟨⟨_, rfl, World.ownsRow_nil _ _ _ _⟩, Only.then_ O1 (Only.put3 _ (w.heap.size + 1) (.string s) (.int .i64 (ya : Int)) (.int .i64 ye)) (fun i hi e => absurd hi (by have : i = w.heap.size + 1 := e; omega))⟩
end Go.Proofs.YtkafnkkipflbbaaDoor
