/- wire.Reader: Bits. -/
import Derived.Test.YtkafnkkipflbbaaDoorRw
import Derived.Test.YtkafnkkipflbbaaDoorBr
set_option linter.unusedSimpArgs false
set_option linter.unusedVariables false
namespace Go.Proofs.YtkafnkkipflbbaaDoor
open Go.RowKit Go.Lib

theorem bitsOf_some {n : Nat} {t : ByteArray} {l : List Bool} (h : Go.Proofs.YtkafnkkipflbbaaDoor.bitsOf n t = some l) : l.length = n ∧ ∀ i, byteBit t i = l.getD i false := by
  unfold Go.Proofs.YtkafnkkipflbbaaDoor.bitsOf at h
  split at h
  · rename_i hall
    obtain rfl := Option.some.inj h
    simp only [List.all_eq_true, List.mem_range] at hall
    refine ⟨by simp, fun i => ?_⟩
    by_cases hi : i < n
    · simp [List.getD_eq_getElem?_getD, hi]
    · have hr : ((List.range n).map (byteBit t)).getD i false = false := by
        rw [List.getD_eq_getElem?_getD, List.getElem?_eq_none (by simp; omega)]
        rfl
      rw [hr]
      by_cases h8 : i < 8 * t.size
      · have := hall i h8
        simpa [hi] using this
      · exact byteBit_far (by omega)
  · cases h
theorem res_rb {W : World} {b : Nat} {x0 x1 : Value} {tm : Array Value} (h : Has W b 77 #[x0, x1]) (h8 : tm.getD 6 undef = .pointer (some ⟨b, 0, none⟩)) :
    (results Tryd.f33 tm).run Tryd.prog W = .ok (.agg #[x0, x1]) W := by
  obtain ⟨c0, c1, _⟩ := h.facts2
  simp only [Array.getD_eq_getD_getElem?] at h8
  simp [results, Tryd.results33, go_sem, h8, c0, c1]
theorem put2_row {W : World} {b g n : Nat} {t : TypeId} {f : Nat → Value} (h : W.rowIs g t n f) (hne : g ≠ b) (x0 x1 : Value) : ((W.setCell ⟨b, 0, none⟩ x0).setCell ⟨b, 1, none⟩ x1).rowIs g t n f :=
  (h.setOther (a := ⟨b, 0, none⟩) hne _).setOther (a := ⟨b, 1, none⟩) hne _
theorem VecIs.put2 {W : World} {base n b : Nat} {v : Value} {f : Nat → Bool} (h : VecIs W base v n f) (hb : b < base) (x0 x1 : Value) : VecIs ((W.setCell ⟨b, 0, none⟩ x0).setCell ⟨b, 1, none⟩ x1) base v n f := by
  rcases h with h | ⟨g, h1, h2, h3⟩
  · exact .inl h
  · exact .inr ⟨g, h1, h2, put2_row h3 (by omega) x0 x1⟩
theorem RQ.put2 {W : World} {p b : Nat} {s : ByteArray} {q : Q8} {cs : Array Value} (h : RQ W p s q) (hb : Has W b 77 cs) (x0 x1 : Value) : RQ ((W.setCell ⟨b, 0, none⟩ x0).setCell ⟨b, 1, none⟩ x1) p s q :=
  h.only (Only.put2 W b x0 x1) (h.apart hb (by decide)) (fun k cs hk e => by subst e; exact hk.apart hb (by decide) rfl)
def lf (l : List Bool) : Nat → Bool := fun i => l.getD i false
set_option maxRecDepth 100000 in
set_option maxHeartbeats 4000000 in
theorem rq_bits (w : World) (p : Nat) (s f : ByteArray) (q : Q8) (most : Int) (hs : s.size ≤ 140737488351232) (h : RQ w p s q) : Calls Tryd.prog 33 #[.pointer (some ⟨p, 0, none⟩), .string f, .int .i64 most] w fun x w' =>
    ∃ v, x = .returned v ∧ VecIs w' w.heap.size v (q.bits s most).2.length (lf (q.bits s most).2) ∧ RQ w' p s (q.bits s most).1 ∧ Only (· = p) w w' := by
  unfold Q8.bits
  have hat := h.atLe
  have hpl := h.lt
  have hmin : (most ≤ 524288 ∧ min most 524288 = most) ∨ (524288 < most ∧ min most 524288 = 524288) := by omega
  have HC := Lib.hid (fun W h => rq_count W p s f q (min most 524288) 0 hs (by decide) h)
  have hmx := q.many_max s (min most 524288) 0
  have hm65 : min most 524288 ≤ 524288 := Int.min_le_right _ _
  have HMIN := Lib.hid hmin
  have HQ := Lib.hid h
  have hca : ∃ u, w.cell? ⟨p, 1, none⟩ = some (.int .i64 q.at_) ∧ u = 0 := by
    by_cases he : q.e = 0
    · exact ⟨0, (h.whole he).cell 1, rfl⟩
    · obtain ⟨b, l, h1, _⟩ := h.had he
      exact ⟨0, h1.cell 1, rfl⟩
  obtain ⟨_, ca, _⟩ := hca
  have ca2 : ∀ o, (w.alloc o).cell? ⟨p, 1, none⟩ = some (.int .i64 q.at_) := fun o => by rw [World.cell?_alloc_lt _ _ _ hpl]; exact ca
  clear hmin h ca
  generalize min most 524288 = m at *
  generalize (q.many s m 0).1 = y at *
  generalize (q.many s m 0).2 = n at *
  have hn : n ≤ 524288 := by omega
  have hts := y.take_size s ((n + 7) / 8)
  have htz : (y.take s ((n + 7) / 8)).1.e = 0 → (y.take s ((n + 7) / 8)).2.size = (n + 7) / 8 := by
    intro he
    by_cases hye : y.e = 0
    · by_cases hl : y.at_ + (n + 7) / 8 ≤ s.size
      · rw [Q8.take_ok hye hl]; simp; omega
      · rw [Q8.take_short hye (by omega)] at he; cases he
    · rw [Q8.take_had hye] at he; exact absurd he hye
  have HT := Lib.hid (fun W h => rq_take W p s f y ((n + 7) / 8) hs (by omega) h)
  have HTZ := Lib.hid htz
  have hdz : ((n : Int) + 7) / 8 = (((n + 7) / 8 : Nat) : Int) := by omega
  clear htz hts hmx hm65
  generalize (y.take s ((n + 7) / 8)).2 = t at *
  generalize (y.take s ((n + 7) / 8)).1 = z at *
  generalize (n + 7) / 8 = d at *
  rcases HMIN.out with ⟨hm1, hm2⟩ | ⟨hm1, hm2⟩
  all_goals
    subst hm2
    clear HMIN
    have B0 : Has (w.alloc (.cells #[.int .i64 0, .slice none 0 0] 77)) w.heap.size 77 #[.int .i64 0, .slice none 0 0] := Has.new _ _ _
    have hpne : ¬ w.heap.size = p := by omega
    go_enter Tryd.func33, Tryd.ntmps33
    go_wp2_with fail
    refine (HC.out _ (HQ.out.inner ((Only.refl _ _).alloc _))).mono ?_
    rintro e w1 ⟨rfl, R1, o1⟩
    have B1 := o1.has B0 hpne
    have O1 := ((Only.refl (· = p) w).alloc _).trans o1
    have HR1 := Lib.hid R1
    clear R1 o1 B0
    go_wp2_with fail
    refine (HT.out _ HR1.out).mono ?_
    rintro e w2 ⟨rfl, R2, o2⟩
    have B2 := o2.has B1 hpne
    have O2 := O1.trans o2
    clear HR1 B1 O1 o2
    by_cases he : z.e = 0
    · have W2 := R2.whole he
      obtain ⟨d0, d1, d2, df⟩ := W2.facts
      simp only [ev] at d2
      have HR2 := Lib.hid R2
      have HZ := Lib.hid (HTZ.out he)
      have HRD := Lib.hid (fun W (h : t.size = d) => bread_any W n t (by omega) (by omega))
      clear R2 W2 d0 d1 df
      go_wp2_with fail
      refine (HRD.out _ HZ.out).mono ?_
      rintro e w3 ⟨hp, o3⟩
      have B3 := o3.has B2 (fun f => f)
      have O3 := O2.then_ o3 (fun _ _ f => f.elim)
      have R3 := HR2.out.inner o3
      have hsz3 := O3.size
      unfold ReadPost at hp
      cases hb : Go.Proofs.YtkafnkkipflbbaaDoor.bitsOf n t with
      | some l =>
        rw [hb] at hp
        obtain ⟨v, rfl, hv⟩ := hp
        obtain ⟨hlen, hf⟩ := bitsOf_some hb
        obtain ⟨A, m', c, rfl⟩ := hv.shape
        have HV := Lib.hid (hv.congr (f' := lf l) (fun i _ => hf i))
        have HB := Lib.hid hb
        have HLEN := Lib.hid hlen
        clear hb hlen hf hv
        have C4 := Has.new w3 77 #[.int .i64 (n : Int), .slice A m' c]
        have B4 := B3.alloc (.cells #[.int .i64 (n : Int), .slice A m' c] 77)
        obtain ⟨b0, b1, bf⟩ := B4.facts2
        obtain ⟨c0, c1, cf⟩ := C4.facts2
        have O4 := O3.alloc (.cells #[.int .i64 (n : Int), .slice A m' c] 77)
        have R4 := Lib.hid (R3.inner ((Only.refl _ w3).alloc (.cells #[.int .i64 (n : Int), .slice A m' c] 77)))
        clear R3 B3 cf
        go_wp2_with fail
        refine bodyPost_ret (v := .agg #[.int .i64 (n : Int), .slice A m' c]) ?hr rfl ?hp
        case hr => exact res_rb (b := w.heap.size) (Has.put2 B4 rfl _ _) rfl
        case hp =>
          refine ⟨_, rfl, ?_⟩
          unfold Q8.bitsOf
          rw [if_neg (by simpa using he), HB.out]
          show VecIs _ _ _ l.length (lf l) ∧ RQ _ p s z ∧ _
          rw [HLEN.out]
          refine ⟨((HV.out.only ((Only.refl (fun _ => False) w3).alloc _) (fun _ _ _ f => f)).put2 B2.lt _ _).mono O2.size, R4.out.put2 B4 _ _, ?_⟩
          exact O4.then_ (Only.put2 _ w.heap.size (.int .i64 (n : Int)) (.slice A m' c)) (fun i hi e => absurd hi (by have : i = w.heap.size := e; omega))
      | none =>
        rw [hb] at hp
        obtain rfl := hp
        have HB := Lib.hid hb
        clear hb
        have C4 := Has.new w3 77 #[.int .i64 0, .slice none 0 0]
        have B4 := B3.alloc (.cells #[.int .i64 0, .slice none 0 0] 77)
        have O4 := O3.alloc (.cells #[.int .i64 0, .slice none 0 0] 77)
        have R4 := R3.inner ((Only.refl _ w3).alloc (.cells #[.int .i64 0, .slice none 0 0] 77))
        obtain ⟨d0, d1, d2, df⟩ := (R4.whole he).facts
        have hp4 : ¬ p = w3.heap.size := by omega
        have B5 := B4.far (p := ⟨p, 1, none⟩) (by show w.heap.size ≠ p; omega) (.int .i64 (q.at_ : Int))
        have C5 := C4.far (p := ⟨p, 1, none⟩) (fun e => hp4 e.symm) (.int .i64 (q.at_ : Int))
        have R5 := R4.back q.at_ hat
        rw [he] at R5
        have O5 := O4.setCell ⟨p, 1, none⟩ (.int .i64 (q.at_ : Int)) (fun _ => rfl)
        have HR5 := Lib.hid R5
        clear R3 B3 R4 d0 d2 R5 B4 C4 O4
        go_wp2_with fail
        refine (rq_fail _ p s f _ 13 (by decide) HR5.out).mono ?_
        rintro e w6 ⟨rfl, R6, o6⟩
        have B6 := o6.has B5 hpne
        have C6 := o6.has C5 (fun e => hp4 e.symm)
        obtain ⟨b0, b1, bf⟩ := B6.facts2
        obtain ⟨c0, c1, cf⟩ := C6.facts2
        have O6 := O5.trans o6
        have HR6 := Lib.hid R6
        clear R6 cf d1 df
        go_wp2_with fail
        refine bodyPost_ret (v := .agg #[.int .i64 0, .slice none 0 0]) ?hr rfl ?hp
        case hr => exact res_rb (b := w.heap.size) (Has.put2 B6 rfl _ _) rfl
        case hp =>
          refine ⟨_, rfl, ?_⟩
          unfold Q8.bitsOf
          rw [if_neg (by simpa using he), HB.out]
          refine ⟨.inl ⟨rfl, rfl⟩, HR6.out.put2 B6 _ _, ?_⟩
          exact O6.then_ (Only.put2 _ w.heap.size (.int .i64 0) (.slice none 0 0)) (fun i hi e => absurd hi (by have : i = w.heap.size := e; omega))
    · obtain ⟨bb, ll, W2, E2⟩ := R2.had he
      obtain ⟨d0, d1, d2, df⟩ := W2.facts
      simp only [ev] at d2
      have B3 := B2.far (p := ⟨p, 1, none⟩) (by show w.heap.size ≠ p; omega) (.int .i64 (q.at_ : Int))
      have R3 := R2.back q.at_ hat
      have O3 := O2.setCell ⟨p, 1, none⟩ (.int .i64 (q.at_ : Int)) (fun _ => rfl)
      have HR3 := Lib.hid R3
      obtain ⟨b0, b1, bf⟩ := B3.facts2
      clear R2 R3 W2 E2 d0
      go_wp2_with fail
      refine bodyPost_ret (v := .agg #[.int .i64 0, .slice none 0 0]) ?hr rfl ?hp
      case hr => exact res_rb (b := w.heap.size) (Has.put2 B3 rfl _ _) rfl
      case hp =>
        refine ⟨_, rfl, ?_⟩
        unfold Q8.bitsOf
        rw [if_pos he]
        refine ⟨.inl ⟨rfl, rfl⟩, HR3.out.put2 B3 _ _, ?_⟩
        exact O3.then_ (Only.put2 _ w.heap.size (.int .i64 0) (.slice none 0 0)) (fun i hi e => absurd hi (by have : i = w.heap.size := e; omega))
end Go.Proofs.YtkafnkkipflbbaaDoor
