/- The law trefoillaw24.BitmulComes: its walk where lists are as long as they must be. -/
import Derived.Test.YthkgjhjfgoglhaaTe
import Derived.Deep.AppendLies
import Derived.Deep.RegionHeldLaw
set_option linter.unusedSimpArgs false
set_option linter.unusedVariables false
namespace Go.Proofs.Ythkgjhjfgoglhaa
open Go.RowKit

set_option maxRecDepth 100000 in
set_option maxHeartbeats 16000000 in
theorem PartV.putT {W W' : World} {base b : Nat} {v : Value} {p : Pt} {t : TypeId} {cs : Array Value} (h : PartV W base v p) (hb : Has W b t cs) (hne : (70 : TypeId) ≠ t) (o : Only (· = b) W W') : PartV W' base v p := by
  obtain ⟨A1, m1, c1, A2, m2, c2, A3, m3, c3, e, h1, h2, h3⟩ := h
  exact ⟨A1, m1, c1, A2, m2, c2, A3, m3, c3, e, h1.putT hb hne o, h2.putT hb hne o, h3.putT hb hne o⟩
theorem Has.off2' {w : World} {g b : Nat} {t : TypeId} {cs : Array Value} (hne : g ≠ b) (h : Has w g t cs) (x0 x1 : Value) : Has ((w.setCell ⟨b, 0, none⟩ x0).setCell ⟨b, 1, none⟩ x1) g t cs := h.off2 hne x0 x1
theorem Has.off6' {w : World} {g b : Nat} {t : TypeId} {cs : Array Value} (hne : g ≠ b) (h : Has w g t cs) (x0 x1 x2 x3 x4 x5 : Value) : Has ((((((w.setCell ⟨b, 0, none⟩ x0).setCell ⟨b, 1, none⟩ x1).setCell ⟨b, 2, none⟩ x2).setCell ⟨b, 3, none⟩ x3).setCell ⟨b, 4, none⟩ x4).setCell ⟨b, 5, none⟩ x5) g t cs := h.off6 hne x0 x1 x2 x3 x4 x5
theorem pf32 {w : World} {g g' : Nat} {t t' : TypeId} {x0 x1 x2 y0 y1 : Value} (h : Has w g t #[x0, x1, x2]) (h' : Has w g' t' #[y0, y1]) : w.cell? ⟨g, 0, none⟩ = some x0 ∧ w.cell? ⟨g, 1, none⟩ = some x1 ∧ w.cell? ⟨g, 2, none⟩ = some x2 ∧ w.cell? ⟨g', 0, none⟩ = some y0 ∧ w.cell? ⟨g', 1, none⟩ = some y1 := ⟨h.cell 0, h.cell 1, h.cell 2, h'.cell 0, h'.cell 1⟩
theorem pf322 {w : World} {g g' g2 : Nat} {t t' t2 : TypeId} {x0 x1 x2 y0 y1 z0 z1 : Value} (h : Has w g t #[x0, x1, x2]) (h' : Has w g' t' #[y0, y1]) (h2 : Has w g2 t2 #[z0, z1]) : w.cell? ⟨g, 0, none⟩ = some x0 ∧ w.cell? ⟨g, 1, none⟩ = some x1 ∧ w.cell? ⟨g, 2, none⟩ = some x2 ∧ w.cell? ⟨g', 0, none⟩ = some y0 ∧ w.cell? ⟨g', 1, none⟩ = some y1 ∧ w.cell? ⟨g2, 0, none⟩ = some z0 ∧ w.cell? ⟨g2, 1, none⟩ = some z1 := ⟨h.cell 0, h.cell 1, h.cell 2, h'.cell 0, h'.cell 1, h2.cell 0, h2.cell 1⟩
structure Comes2 (n : Nat) (p q : Pt) (x y x0 x1 y0 y1 : List Bool) : Prop where
  s1 : sendC p x0 x1 = 0
  s2 : sendC q y0 y1 = 0
  z1 : sendZ p x0 x1 = x0
  z2 : sendZ q y0 y1 = y0
  r1 : recvC q x (sendF p x0 x1) = 0
  r2 : recvC p y (sendF q y0 y1) = 0
  f1 : finC p x0 (recvL p y (sendF q y0 y1)) = 0
  f2 : finC q y0 (recvL q x (sendF p x0 x1)) = 0
  w : ∃ l : List Bool, wrongM (finP p x0 (recvL p y (sendF q y0 y1))) (finP q y0 (recvL q x (sendF p x0 x1))) = some l ∧ l.length = n ∧ ∀ i, lf l i = false
  ls1 : (sendF p x0 x1).length = n
  ls2 : (sendF q y0 y1).length = n
  lr1 : (recvL q x (sendF p x0 x1)).length = n
  lr2 : (recvL p y (sendF q y0 y1)).length = n
  lf1 : (finP p x0 (recvL p y (sendF q y0 y1))).a.length = n ∧ (finP p x0 (recvL p y (sendF q y0 y1))).b.length = n ∧ (finP p x0 (recvL p y (sendF q y0 y1))).c.length = n
def Sep (u v : Value) : Prop := ∀ g, u.ownBlock = some g → v.ownBlock ≠ some g
theorem Sep.symm {u v : Value} (h : Sep u v) : Sep v u := fun g hg hu => h g hu hg
theorem own_lt {w : World} {base n size : Nat} {e : TypeId} {v : Value} {xs : List Value} (h : w.ownsRow base e size v n xs) {k : Nat} (q : v.ownBlock = some k) : k < w.heap.size := by
  rcases h.2 with ⟨rfl, _⟩ | ⟨g, cap, cur, rfl, hb, hh, _⟩
  · cases q
  · cases q; exact lt_of_block hh
theorem Sep.app {W : World} {base n size : Nat} {e : TypeId} {u u' v : Value} {xs : List Value} (h : Sep u v) (hv : W.ownsRow base e size v n xs) (hu : u'.ownBlock = u.ownBlock ∨ u'.ownBlock = some W.heap.size) : Sep u' v := by
  intro g hg hvg
  rcases hu with hu | hu
  · exact h g (hu ▸ hg) hvg
  · rw [hu] at hg
    have := own_lt hv hvg
    have := Option.some.inj hg
    omega
theorem Sep.lies {W : World} {base n m c g size : Nat} {e : TypeId} {u v : Value} {xs : List Value} (h : Sep u v) (hv : W.ownsRow base e size v n xs) (hu : u.ownBlock = some g ∨ g = W.heap.size) : Sep (.slice (some ⟨g, 0, none⟩) m c) v :=
  h.app hv (hu.elim (fun e => .inl e.symm) (fun e => .inr (by rw [e]; rfl)))
theorem Sep.ne {u v : Value} (h : Sep u v) : v.ownBlock = none ∨ v.ownBlock ≠ u.ownBlock := by
  cases hv : v.ownBlock with
  | none => exact .inl rfl
  | some g =>
    refine .inr fun e => ?_
    exact h g e.symm hv
theorem reads_cell {W : World} {a : Addr} {n c : Nat} {l : List Bool} (h : Reads W (.slice (some a) n c) (bcellsB l)) {i : Nat} (hi : i < l.length) : W.cell? (a.add i) = some (.bool (lf l i)) := h.at (bcellsB_at hi)
set_option maxRecDepth 100000 in
set_option maxHeartbeats 16000000 in
theorem comesMain_any (w : World) (n m k1 k2 k3 k4 k5 : Nat) (a1 a2 a3 a4 g : Addr) (a b c d N : List Bool) (ha : a.length = n) (hb : b.length = n) (hc : c.length = n) (hd : d.length = n) (hN : N.length = m) (ra : Reads w (.slice (some a1) n k1) (bcellsB a)) (rb : Reads w (.slice (some a2) n k2) (bcellsB b)) (rc : Reads w (.slice (some a3) n k3) (bcellsB c)) (rd : Reads w (.slice (some a4) n k4) (bcellsB d)) (rn : Reads w (.slice (some g) m k5) (bcellsB N)) (h1 : 1 ≤ n) (h2 : n ≤ 200) (h4 : 4 * n ≤ m) (h5 : m ≤ k5) :
    Calls Try.prog 5 #[.slice (some a1) n k1, .slice (some a2) n k2, .slice (some a3) n k3, .slice (some a4) n k4, .slice (some g) m k5] w fun x w' => x = .returned (.bool true) ∧ Only (fun _ => False) w w' := by
  have HRA := Lib.hid (fun W (o : Only (fun _ => False) w W) => ra.inner o)
  have HRB := Lib.hid (fun W (o : Only (fun _ => False) w W) => rb.inner o)
  have HRC := Lib.hid (fun W (o : Only (fun _ => False) w W) => rc.inner o)
  have HRD := Lib.hid (fun W (o : Only (fun _ => False) w W) => rd.inner o)
  have HRN := Lib.hid (fun W (o : Only (fun _ => False) w W) => rn.inner o)
  have HLA := Lib.hid ha
  have HLB := Lib.hid hb
  have HLC := Lib.hid hc
  have HLD := Lib.hid hd
  have HLN := Lib.hid hN
  have H1 := Lib.hid h1
  have H2 := Lib.hid h2
  have H4 := Lib.hid h4
  clear ra rb rc rd rn ha hb hc hd hN
  have g1 : ((n : Int) == 0) = false := by
    have : (n : Int) ≠ 0 := by omega
    simpa using this
  have g1' : (n == 0) = false := by
    have : n ≠ 0 := by omega
    simpa using this
  have g2 : decide ((n : Int) > 200) = false := by
    have : ¬ (n : Int) > 200 := by omega
    simpa using this
  have g3 : ¬ (m : Int) < 4 * (n : Int) := by omega
  have g3' : decide ((m : Int) < 4 * (n : Int)) = false := by simpa using g3
  go_enter Try.func5, Try.ntmps5
  go_upto_region 5 with fail
  have b2 : IntKind.i64.wrap (2 * (n : Int)) = 2 * (n : Int) := IntWalk.i64_in _ (by omega)
  have b3 : IntKind.i64.wrap (3 * (n : Int)) = 3 * (n : Int) := IntWalk.i64_in _ (by omega)
  have b4 : IntKind.i64.wrap (4 * (n : Int)) = 4 * (n : Int) := IntWalk.i64_in _ (by omega)
  have t2 : (2 * (n : Int)).toNat = 2 * n := by omega
  have t3 : (3 * (n : Int)).toNat = 3 * n := by omega
  have t4 : (4 * (n : Int)).toNat = 4 * n := by omega
  have i1 : (n : Int) ≤ (k5 : Int) := by omega
  have i2 : 2 * (n : Int) ≤ (k5 : Int) := by omega
  have i3 : 3 * (n : Int) ≤ (k5 : Int) := by omega
  have i4 : 4 * (n : Int) ≤ (k5 : Int) := by omega
  have j2 : (n : Int) ≤ 2 * (n : Int) := by omega
  have j3 : 2 * (n : Int) ≤ 3 * (n : Int) := by omega
  have j4 : 3 * (n : Int) ≤ 4 * (n : Int) := by omega
  go_quiet (fail)
  clear g1 g1' g2 g3 g3' b2 b3 b4 t2 t3 t4 i1 i2 i3 i4 j2 j3 j4
  rw [show 2 * n - n = n by omega, show 3 * n - 2 * n = n by omega, show 4 * n - 3 * n = n by omega]
  have P := (show Has (((w.alloc (.cells #[.slice (some a1) n k1, .slice (some a2) n k2, .slice none 0 0] 24)).alloc (.cells #[.slice (some a3) n k3, .slice (some a4) n k4, .slice none 0 0] 24)).drewN nq) w.heap.size 24 #[.slice (some a1) n k1, .slice (some a2) n k2, .slice none 0 0] from ((Has.new _ _ _).alloc _).drewN nq)
  have Q := (show Has (((w.alloc (.cells #[.slice (some a1) n k1, .slice (some a2) n k2, .slice none 0 0] 24)).alloc (.cells #[.slice (some a3) n k3, .slice (some a4) n k4, .slice none 0 0] 24)).drewN nq) (w.heap.size + 1) 24 #[.slice (some a3) n k3, .slice (some a4) n k4, .slice none 0 0] from (has_new2 _ _ _ _).drewN nq)
  have O : Only (fun _ => False) w (((w.alloc (.cells #[.slice (some a1) n k1, .slice (some a2) n k2, .slice none 0 0] 24)).alloc (.cells #[.slice (some a3) n k3, .slice (some a4) n k4, .slice none 0 0] 24)).drewN nq) := (((Only.refl _ _).alloc _).alloc _).drewN nq
  generalize (((w.alloc (.cells #[.slice (some a1) n k1, .slice (some a2) n k2, .slice none 0 0] 24)).alloc (.cells #[.slice (some a3) n k3, .slice (some a4) n k4, .slice none 0 0] 24)).drewN nq) = W5 at *
  obtain ⟨x0, hx0⟩ : ∃ l, l = seg N 0 n := ⟨_, rfl⟩
  obtain ⟨x1, hx1⟩ : ∃ l, l = seg N n n := ⟨_, rfl⟩
  obtain ⟨y0, hy0⟩ : ∃ l, l = seg N (2 * n) n := ⟨_, rfl⟩
  obtain ⟨y1, hy1⟩ : ∃ l, l = seg N (3 * n) n := ⟨_, rfl⟩
  have HX0 := Lib.hid (fun W (o : Only (fun _ => False) w W) => (show Reads W (.slice (some g) n k5) (bcellsB x0) by rw [hx0]; have := (HRN.out W o).seg (k := 0) (n := n) (by have := HLN.out; omega) k5; rwa [show g.add 0 = g by simp [Addr.add]] at this))
  have HX1 := Lib.hid (fun W (o : Only (fun _ => False) w W) => (show Reads W (.slice (some (g.add n)) n (k5 - n)) (bcellsB x1) by rw [hx1]; exact (HRN.out W o).seg (by have := HLN.out; omega) _))
  have HY0 := Lib.hid (fun W (o : Only (fun _ => False) w W) => (show Reads W (.slice (some (g.add (2 * n))) n (k5 - 2 * n)) (bcellsB y0) by rw [hy0]; exact (HRN.out W o).seg (by have := HLN.out; omega) _))
  have HY1 := Lib.hid (fun W (o : Only (fun _ => False) w W) => (show Reads W (.slice (some (g.add (3 * n))) n (k5 - 3 * n)) (bcellsB y1) by rw [hy1]; exact (HRN.out W o).seg (by have := HLN.out; omega) _))
  have LX0 := Lib.hid (show x0.length = n by rw [hx0]; exact seg_len (by have := HLN.out; omega))
  have LX1 := Lib.hid (show x1.length = n by rw [hx1]; exact seg_len (by have := HLN.out; omega))
  have LY0 := Lib.hid (show y0.length = n by rw [hy0]; exact seg_len (by have := HLN.out; omega))
  have LY1 := Lib.hid (show y1.length = n by rw [hy1]; exact seg_len (by have := HLN.out; omega))
  generalize g.add n = gx1 at *
  generalize g.add (2 * n) = gy0 at *
  generalize g.add (3 * n) = gy1 at *
  generalize k5 - n = e1 at *
  generalize k5 - 2 * n = e2 at *
  generalize k5 - 3 * n = e3 at *
  clear hx0 hx1 hy0 hy1 HRN h4 h5 H4 HLN
  have HC := Lib.hid (comes_of h1 h2 HLA.out HLB.out HLC.out HLD.out LX0.out LX1.out LY0.out LY1.out)
  have HP := Lib.hid P
  have HQ := Lib.hid Q
  have HO := Lib.hid O
  have HI := Lib.hid (info_parts Try.info_bb)
  clear P Q O
  go_upto_block 0 with fail
  go_cut [18, 19] (fun u v W => ∃ (BU : Option Addr) (cu : Nat) (BV : Option Addr) (cv : Nat), u = .slice BU n cu ∧ v = .slice BV n cv ∧ Reads W (.slice BU n cu) (bcellsB (pickL c x0 x1 n)) ∧ Reads W (.slice BV n cv) (bcellsB (pickL a y0 y1 n)) ∧ Only (fun _ => False) W5 W)
  case first =>
    as_aux_lemma =>
      go_wp2_with fail
      go_loopw [18, 19, 20] (fun u v i W => ∃ (k : Nat) (u0 v0 : Value), k ≤ n ∧ i = .int .i64 k ∧ u0 = u ∧ v0 = v ∧ W.ownsRow W5.heap.size 4 1 u0 k (bcellsB (pickL c x0 x1 k)) ∧ W.ownsRow W5.heap.size 4 1 v0 k (bcellsB (pickL a y0 y1 k)) ∧ Sep u0 v0 ∧ Only (fun _ => False) W5 W) (fun _ _ i _ => n - (intOf i).toNat)
      case atStart => exact ⟨0, _, _, by omega, rfl, rfl, rfl, World.ownsRow_nil _ _ _ _, World.ownsRow_nil _ _ _ _, fun g hg => by simp [Value.ownBlock] at hg, Only.refl _ _⟩
      case round =>
        obtain ⟨k, u, v, hk, rfl, rfl, rfl, ownu, ownv, sep, ho⟩ := hrel
        have hk' : k < n ∨ k = n := by omega
        rcases hk' with hlt | rfl
        · have hki : (k : Int) < (n : Int) := by omega
          have hOW := HO.out.trans ho
          have l1 : k < c.length := by rw [HLC.out]; exact hlt
          have l2 : k < x0.length := by rw [LX0.out]; exact hlt
          have l3 : k < x1.length := by rw [LX1.out]; exact hlt
          have m1 : k < a.length := by rw [HLA.out]; exact hlt
          have m2 : k < y0.length := by rw [LY0.out]; exact hlt
          have m3 : k < y1.length := by rw [LY1.out]; exact hlt
          have M1 := Lib.hid m1
          have M2 := Lib.hid m2
          have M3 := Lib.hid m3
          have L1 := Lib.hid l1
          have L2 := Lib.hid l2
          have L3 := Lib.hid l3
          clear l1 l2 l3 m1 m2 m3
          have c1 := reads_cell (HRC.out wr hOW) L1.out
          have c2 := reads_cell (HX0.out wr hOW) L2.out
          have c3 := reads_cell (HX1.out wr hOW) L3.out
          have HSN := Lib.hid (pickL_snoc c x0 x1 k)
          have HSN2 := Lib.hid (pickL_snoc a y0 y1 k)
          have HOWN := Lib.hid ownu
          have HOWV := Lib.hid ownv
          have HSEP := Lib.hid sep
          have HHO := Lib.hid ho
          have HOW := Lib.hid hOW
          have hk300 : k ≤ 300 := by omega
          have hw5 : W5.heap.size ≤ wr.heap.size := ho.size
          obtain ⟨i0, hi, hz0, hz1, hz2⟩ := HI.out
          clear ownu ownv sep ho hOW
          go_wp2_with fail
          go_region_held_law (fun W => W.cell? (a3.add k) = some (.bool (lf c k)) ∧ W.cell? (g.add k) = some (.bool (lf x0 k)) ∧ W.cell? (gx1.add k) = some (.bool (lf x1 k))) (first | exact ⟨c1, c2, c3⟩ | with_reducible exact ⟨reads_cell (HRC.out _ ((HOW.out.alloc _).drew)) L1.out, reads_cell (HX0.out _ ((HOW.out.alloc _).drew)) L2.out, reads_cell (HX1.out _ ((HOW.out.alloc _).drew)) L3.out⟩ | with_reducible exact ⟨reads_cell (HRC.out _ O3) L1.out, reads_cell (HX0.out _ O3) L2.out, reads_cell (HX1.out _ O3) L3.out⟩) (first
            | (refine step_append_lies _ (by rfl) _ _ 22 (by rfl) W5.heap.size 4 i0 (.bool false) 1 1 Try.underlying22 hi hz0 hz1 hz2 rfl (by decide) u k (bcellsB (pickL c x0 x1 k)) (by rfl) ((HOWN.out.alloc _).drew) ⟨wr.heap.size, 0, none⟩ 1 1 [.bool (pickB (lf c k) (lf x0 k) (lf x1 k))] (by rfl) (by rfl) (cell_one_new wr _ _) (by intro y hy; obtain rfl := List.mem_singleton.1 hy; rfl) (by omega) (by unfold maxLen; omega) (by omega) (by simp; omega) _ (by rfl) ?_; intro g3 cap3 w3 ho3 hg3 hat3 hlt3; have P3 : Only (fun _ => False) W5 w3 := Only.grown ((HHO.out.alloc _).drew) hg3 (fun j e hj => absurd hj (by have := own_ge2 HOWN.out e; omega)); have O3 : Only (fun _ => False) w w3 := HO.out.trans P3; simp only [Act.put, List.getElem_toArray, List.getElem_cons_succ, List.getElem_cons_zero, List.setIfInBounds_toArray, List.set_cons_zero, List.set_cons_succ])
            | (go_at_call 23; (with_reducible refine (pick_any _ _ _ _).mono ?_); rintro e w' ⟨rfl, rfl⟩))
          have hw3 := P3.size
          have hV3 := (((HOWV.out.alloc _).drew).kept hg3 HSEP.out.ne)
          have hS3 := HSEP.out.lies (m := k + 1) (c := cap3) ((HOWV.out.alloc _).drew) hat3
          have HO3 := Lib.hid ho3
          have HV3 := Lib.hid hV3
          have HS3 := Lib.hid hS3
          have HP3 := Lib.hid P3
          have HOW3 := Lib.hid O3
          have d1 := reads_cell (HRA.out w3 O3) M1.out
          have d2 := reads_cell (HY0.out w3 O3) M2.out
          have d3 := reads_cell (HY1.out w3 O3) M3.out
          clear c1 c2 c3 ho3 hg3 hat3 hlt3 hV3 hS3 P3 O3 HOWN HOWV HSEP HHO HOW hw5
          go_wp2_with fail
          go_region_held_law (fun W => W.cell? (a1.add k) = some (.bool (lf a k)) ∧ W.cell? (gy0.add k) = some (.bool (lf y0 k)) ∧ W.cell? (gy1.add k) = some (.bool (lf y1 k))) (first | exact ⟨d1, d2, d3⟩ | with_reducible exact ⟨reads_cell (HRA.out _ ((HOW3.out.alloc _).drew)) M1.out, reads_cell (HY0.out _ ((HOW3.out.alloc _).drew)) M2.out, reads_cell (HY1.out _ ((HOW3.out.alloc _).drew)) M3.out⟩ | with_reducible exact ⟨reads_cell (HRA.out _ O4) M1.out, reads_cell (HY0.out _ O4) M2.out, reads_cell (HY1.out _ O4) M3.out⟩) (first
            | (go_at_call 23; (with_reducible refine (pick_any _ _ _ _).mono ?_); rintro e w' ⟨rfl, rfl⟩)
            | (refine step_append_lies _ (by rfl) _ _ 22 (by rfl) W5.heap.size 4 i0 (.bool false) 1 1 Try.underlying22 hi hz0 hz1 hz2 rfl (by decide) v k (bcellsB (pickL a y0 y1 k)) (by rfl) ((HV3.out.alloc _).drew) ⟨w3.heap.size, 0, none⟩ 1 1 [.bool (pickB (lf a k) (lf y0 k) (lf y1 k))] (by rfl) (by rfl) (cell_one_new w3 _ _) (by intro y hy; obtain rfl := List.mem_singleton.1 hy; rfl) (by omega) (by unfold maxLen; omega) (by omega) (by simp; omega) _ (by rfl) ?_; intro g4 cap4 w4 ho4 hg4 hat4 hlt4; have P4 : Only (fun _ => False) W5 w4 := Only.grown ((HP3.out.alloc _).drew) hg4 (fun j e hj => absurd hj (by have := own_ge2 HV3.out e; omega)); have O4 : Only (fun _ => False) w w4 := HO.out.trans P4; simp only [Act.put, List.getElem_toArray, List.getElem_cons_succ, List.getElem_cons_zero, List.setIfInBounds_toArray, List.set_cons_zero, List.set_cons_succ]))
          have hU4 := (((HO3.out.alloc _).drew).kept hg4 HS3.out.symm.ne)
          have hS4 := HS3.out.symm.lies (m := k + 1) (c := cap4) ((HO3.out.alloc _).drew) hat4
          have HU4 := Lib.hid hU4
          have HV4 := Lib.hid ho4
          have HS4 := Lib.hid hS4.symm
          have HP4 := Lib.hid P4
          clear d1 d2 d3 ho4 hg4 hat4 hlt4 hU4 hS4 P4 O4
          go_wp2_with fail
          go_roundw
          case rel => exact ⟨k + 1, _, _, by omega, by go_num, rfl, rfl, by rw [HSN.out, bcellsB_snoc]; exact HU4.out, by rw [HSN2.out, bcellsB_snoc]; exact HV4.out, HS4.out, HP4.out⟩
          case measure => simp only [intOf]; omega
        · have hki : ¬ (k : Int) < (k : Int) := by omega
          have hru := Reads.ofOwn ownu (by rw [bcellsB_length, pickL_len])
          have hrv := Reads.ofOwn ownv (by rw [bcellsB_length, pickL_len])
          obtain ⟨BU, cu, rfl, -⟩ := hru.shape
          obtain ⟨BV, cv, rfl, -⟩ := hrv.shape
          rw [bcellsB_length, pickL_len] at hru hrv
          have HRU := Lib.hid hru
          have HRV := Lib.hid hrv
          have HHO := Lib.hid ho
          simp only [bcellsB_length, pickL_len]
          clear ownu ownv sep hru hrv ho
          go_wp2_with fail
          go_meet
          exact ⟨BU, cu, BV, cv, rfl, rfl, HRU.out, HRV.out, HHO.out⟩
  case rest =>
  obtain ⟨BU, cu, BV, cv, rfl, rfl, hru, hrv, ho⟩ := hcut
  obtain ⟨k, rfl⟩ : ∃ k : Nat, k = n := ⟨_, rfl⟩
  obtain ⟨wo, rfl⟩ : ∃ wo : World, wo = wc := ⟨_, rfl⟩
  clear HI h1 h2
  have HP5 := Lib.hid (ho.has HP.out (fun f => f))
  have HQ5 := Lib.hid (ho.has HQ.out (fun f => f))
  have HO5 := Lib.hid (HO.out.trans ho)
  have RX := Lib.hid hru
  have RY := Lib.hid hrv
  clear hru hrv HP HQ HO
  obtain ⟨p, hp⟩ : ∃ p : Pt, p = ⟨a, b, []⟩ := ⟨_, rfl⟩
  obtain ⟨q, hq⟩ : ∃ q : Pt, q = ⟨c, d, []⟩ := ⟨_, rfl⟩
  obtain ⟨x, hx⟩ : ∃ x : List Bool, x = pickL c x0 x1 k := ⟨_, rfl⟩
  obtain ⟨y, hy⟩ : ∃ y : List Bool, y = pickL a y0 y1 k := ⟨_, rfl⟩
  have HC' := Lib.hid (show Comes2 k p q x y x0 x1 y0 y1 by rw [hp, hq, hx, hy]; exact ⟨HC.out.s1, HC.out.s2, HC.out.z1, HC.out.z2, HC.out.r1, HC.out.r2, HC.out.f1, HC.out.f2, HC.out.w, HC.out.ls1, HC.out.ls2, HC.out.lr1, HC.out.lr2, HC.out.lf1⟩)
  have LX := Lib.hid (show x.length = k by rw [hx]; exact pickL_len _ _ _ _)
  have LY := Lib.hid (show y.length = k by rw [hy]; exact pickL_len _ _ _ _)
  have HRP := Lib.hid (fun W (o : Only (fun _ => False) w W) => (show RefP W (.agg #[.slice (some a1) k k1, .slice (some a2) k k2, .slice none 0 0]) p by rw [hp]; exact ⟨_, _, _, rfl, HRA.out W o, HRB.out W o, reads_nil _⟩))
  have HRQ := Lib.hid (fun W (o : Only (fun _ => False) w W) => (show RefP W (.agg #[.slice (some a3) k k3, .slice (some a4) k k4, .slice none 0 0]) q by rw [hq]; exact ⟨_, _, _, rfl, HRC.out W o, HRD.out W o, reads_nil _⟩))
  have HLP := Lib.hid (show p.a.length = k ∧ p.b.length = k ∧ p.c.length = 0 by rw [hp]; exact ⟨HLA.out, HLB.out, rfl⟩)
  have HLQ := Lib.hid (show q.a.length = k ∧ q.b.length = k ∧ q.c.length = 0 by rw [hq]; exact ⟨HLC.out, HLD.out, rfl⟩)
  rw [← hx] at RX
  rw [← hy] at RY
  clear hp hq hx hy HC HRA HRB HRC HRD HLA HLB HLC HLD
  have HOP := Lib.hid (fun W (o : Only (fun _ => False) w W) => of_any0 W _ p (HRP.out W o) (by have := HLP.out; have := H2.out; omega) (by have := HLP.out; have := H2.out; omega) (by have := HLP.out; omega))
  have HOQ := Lib.hid (fun W (o : Only (fun _ => False) w W) => of_any0 W _ q (HRQ.out W o) (by have := HLQ.out; have := H2.out; omega) (by have := HLQ.out; have := H2.out; omega) (by have := HLQ.out; omega))
  have HVX0 := Lib.hid (fun W (o : Only (fun _ => False) w W) => vec_any0 W _ x0 (HX0.out W o) (by have := LX0.out; have := H2.out; omega))
  have HVX1 := Lib.hid (fun W (o : Only (fun _ => False) w W) => vec_any0 W _ x1 (HX1.out W o) (by have := LX1.out; have := H2.out; omega))
  have HVY0 := Lib.hid (fun W (o : Only (fun _ => False) w W) => vec_any0 W _ y0 (HY0.out W o) (by have := LY0.out; have := H2.out; omega))
  have HVY1 := Lib.hid (fun W (o : Only (fun _ => False) w W) => vec_any0 W _ y1 (HY1.out W o) (by have := LY1.out; have := H2.out; omega))
  have P := HP5.out
  have Q := HQ5.out
  have O := HO5.out
  clear HP5 HQ5 HO5 ho
  obtain ⟨p_0, p_1, p_2⟩ := part_facts P
  go_wp2_with fail
  clear p_0 p_1 p_2
  refine (HOP.out _ O).mono ?_; rintro e w1 ⟨⟨F1, F2, F3, F4, F5, F6, F7, F8, F9, rfl, hf⟩, o1⟩
  have P1 := Only.has o1 P (fun f => f)
  have Q1 := Only.has o1 Q (fun f => f)
  have O1 := O.trans o1
  have RX1 := Lib.hid (RX.out.inner o1)
  have RY1 := Lib.hid (RY.out.inner o1)
  clear P Q O RX RY
  clear o1
  have HFp := Lib.hid hf
  clear hf
  go_wp2_with fail
  refine (HVX0.out _ O1).mono ?_; rintro e w2 ⟨⟨X1, X2, X3, rfl, hf⟩, o2⟩
  have P2 := Only.has o2 P1 (fun f => f)
  have Q2 := Only.has o2 Q1 (fun f => f)
  have O2 := O1.trans o2
  have RX2 := Lib.hid (RX1.out.inner o2)
  have RY2 := Lib.hid (RY1.out.inner o2)
  have HFp2 := Lib.hid (HFp.out.inner o2)
  clear P1 Q1 O1 RX1 RY1 HFp
  clear o2
  have HXp := Lib.hid hf
  clear hf
  go_wp2_with fail
  refine (HVX1.out _ O2).mono ?_; rintro e w3 ⟨⟨Y1, Y2, Y3, rfl, hf⟩, o3⟩
  have P3 := Only.has o3 P2 (fun f => f)
  have Q3 := Only.has o3 Q2 (fun f => f)
  have O3 := O2.trans o3
  have RX3 := Lib.hid (RX2.out.inner o3)
  have RY3 := Lib.hid (RY2.out.inner o3)
  have HFp3 := Lib.hid (HFp2.out.inner o3)
  have HXp3 := Lib.hid (HXp.out.inner o3)
  clear P2 Q2 O2 RX2 RY2 HFp2 HXp
  clear o3
  have HYp := Lib.hid hf
  clear hf
  go_wp2_with fail
  refine (send_any _ _ _ _ p x0 x1 HFp3.out HXp3.out HYp.out (by have := LX0.out; have := H2.out; omega)).mono ?_; rintro e w4 ⟨⟨S1p, S2p, S3p, S4p, S5p, S6p, rfl, hs1, hs2⟩, o4⟩
  have P4 := Only.has o4 P3 (fun f => f)
  have Q4 := Only.has o4 Q3 (fun f => f)
  have O4 := O3.trans o4
  have RX4 := Lib.hid (RX3.out.inner o4)
  have RY4 := Lib.hid (RY3.out.inner o4)
  have HFp4 := Lib.hid (HFp3.out.inner o4)
  have HXp4 := Lib.hid (HXp3.out.inner o4)
  have HYp4 := Lib.hid (HYp.out.inner o4)
  clear P3 Q3 O3 RX3 RY3 HFp3 HXp3 HYp
  clear o4
  clear HFp4 HXp4 HYp4
  have VFp := Lib.hid hs1
  clear hs1
  have VZp := Lib.hid hs2
  clear hs2
  have P5 := Has.alloc P4 (.cells #[.int .i64 (sendF p x0 x1).length, .slice S1p S2p S3p] 29)
  have Q5 := Has.alloc Q4 (.cells #[.int .i64 (sendF p x0 x1).length, .slice S1p S2p S3p] 29)
  have O5 := O4.alloc (.cells #[.int .i64 (sendF p x0 x1).length, .slice S1p S2p S3p] 29)
  have RX5 := Lib.hid (RX4.out.inner ((Only.refl _ _).alloc (.cells #[.int .i64 (sendF p x0 x1).length, .slice S1p S2p S3p] 29)))
  have RY5 := Lib.hid (RY4.out.inner ((Only.refl _ _).alloc (.cells #[.int .i64 (sendF p x0 x1).length, .slice S1p S2p S3p] 29)))
  have VFp5 := Lib.hid (VFp.out.inner ((Only.refl _ _).alloc (.cells #[.int .i64 (sendF p x0 x1).length, .slice S1p S2p S3p] 29)))
  have VZp5 := Lib.hid (VZp.out.inner ((Only.refl _ _).alloc (.cells #[.int .i64 (sendF p x0 x1).length, .slice S1p S2p S3p] 29)))
  clear P4 Q4 O4 RX4 RY4 VFp VZp
  have BFp := Has.new w4 29 #[.int .i64 (sendF p x0 x1).length, .slice S1p S2p S3p]
  have P6 := Has.alloc P5 (.cells #[.int .i64 (sendZ p x0 x1).length, .slice S4p S5p S6p] 29)
  have Q6 := Has.alloc Q5 (.cells #[.int .i64 (sendZ p x0 x1).length, .slice S4p S5p S6p] 29)
  have O6 := O5.alloc (.cells #[.int .i64 (sendZ p x0 x1).length, .slice S4p S5p S6p] 29)
  have RX6 := Lib.hid (RX5.out.inner ((Only.refl _ _).alloc (.cells #[.int .i64 (sendZ p x0 x1).length, .slice S4p S5p S6p] 29)))
  have RY6 := Lib.hid (RY5.out.inner ((Only.refl _ _).alloc (.cells #[.int .i64 (sendZ p x0 x1).length, .slice S4p S5p S6p] 29)))
  have VFp6 := Lib.hid (VFp5.out.inner ((Only.refl _ _).alloc (.cells #[.int .i64 (sendZ p x0 x1).length, .slice S4p S5p S6p] 29)))
  have VZp6 := Lib.hid (VZp5.out.inner ((Only.refl _ _).alloc (.cells #[.int .i64 (sendZ p x0 x1).length, .slice S4p S5p S6p] 29)))
  have BFp6 := Has.alloc BFp (.cells #[.int .i64 (sendZ p x0 x1).length, .slice S4p S5p S6p] 29)
  clear P5 Q5 O5 RX5 RY5 VFp5 VZp5 BFp
  have BZp := has_new2 w4 (.cells #[.int .i64 (sendF p x0 x1).length, .slice S1p S2p S3p] 29) 29 #[.int .i64 (sendZ p x0 x1).length, .slice S4p S5p S6p]
  obtain ⟨q_0, q_1, q_2⟩ := part_facts Q6
  go_wp2_with fail
  clear q_0 q_1 q_2
  refine (HOQ.out _ O6).mono ?_; rintro e w7 ⟨⟨F1, F2, F3, F4, F5, F6, F7, F8, F9, rfl, hf⟩, o7⟩
  have P7 := Only.has o7 P6 (fun f => f)
  have Q7 := Only.has o7 Q6 (fun f => f)
  have O7 := O6.trans o7
  have RX7 := Lib.hid (RX6.out.inner o7)
  have RY7 := Lib.hid (RY6.out.inner o7)
  have VFp7 := Lib.hid (VFp6.out.inner o7)
  have VZp7 := Lib.hid (VZp6.out.inner o7)
  have BFp7 := Only.has o7 BFp6 (fun f => f)
  have BZp7 := Only.has o7 BZp (fun f => f)
  clear P6 Q6 O6 RX6 RY6 VFp6 VZp6 BFp6 BZp
  clear o7
  have HFq := Lib.hid hf
  clear hf
  go_wp2_with fail
  refine (HVY0.out _ O7).mono ?_; rintro e w8 ⟨⟨X1, X2, X3, rfl, hf⟩, o8⟩
  have P8 := Only.has o8 P7 (fun f => f)
  have Q8 := Only.has o8 Q7 (fun f => f)
  have O8 := O7.trans o8
  have RX8 := Lib.hid (RX7.out.inner o8)
  have RY8 := Lib.hid (RY7.out.inner o8)
  have VFp8 := Lib.hid (VFp7.out.inner o8)
  have VZp8 := Lib.hid (VZp7.out.inner o8)
  have BFp8 := Only.has o8 BFp7 (fun f => f)
  have BZp8 := Only.has o8 BZp7 (fun f => f)
  have HFq8 := Lib.hid (HFq.out.inner o8)
  clear P7 Q7 O7 RX7 RY7 VFp7 VZp7 BFp7 BZp7 HFq
  clear o8
  have HXq := Lib.hid hf
  clear hf
  go_wp2_with fail
  refine (HVY1.out _ O8).mono ?_; rintro e w9 ⟨⟨Y1, Y2, Y3, rfl, hf⟩, o9⟩
  have P9 := Only.has o9 P8 (fun f => f)
  have Q9 := Only.has o9 Q8 (fun f => f)
  have O9 := O8.trans o9
  have RX9 := Lib.hid (RX8.out.inner o9)
  have RY9 := Lib.hid (RY8.out.inner o9)
  have VFp9 := Lib.hid (VFp8.out.inner o9)
  have VZp9 := Lib.hid (VZp8.out.inner o9)
  have BFp9 := Only.has o9 BFp8 (fun f => f)
  have BZp9 := Only.has o9 BZp8 (fun f => f)
  have HFq9 := Lib.hid (HFq8.out.inner o9)
  have HXq9 := Lib.hid (HXq.out.inner o9)
  clear P8 Q8 O8 RX8 RY8 VFp8 VZp8 BFp8 BZp8 HFq8 HXq
  clear o9
  have HYq := Lib.hid hf
  clear hf
  go_wp2_with fail
  refine (send_any _ _ _ _ q y0 y1 HFq9.out HXq9.out HYq.out (by have := LY0.out; have := H2.out; omega)).mono ?_; rintro e w10 ⟨⟨S1q, S2q, S3q, S4q, S5q, S6q, rfl, hs1, hs2⟩, o10⟩
  have P10 := Only.has o10 P9 (fun f => f)
  have Q10 := Only.has o10 Q9 (fun f => f)
  have O10 := O9.trans o10
  have RX10 := Lib.hid (RX9.out.inner o10)
  have RY10 := Lib.hid (RY9.out.inner o10)
  have VFp10 := Lib.hid (VFp9.out.inner o10)
  have VZp10 := Lib.hid (VZp9.out.inner o10)
  have BFp10 := Only.has o10 BFp9 (fun f => f)
  have BZp10 := Only.has o10 BZp9 (fun f => f)
  have HFq10 := Lib.hid (HFq9.out.inner o10)
  have HXq10 := Lib.hid (HXq9.out.inner o10)
  have HYq10 := Lib.hid (HYq.out.inner o10)
  clear P9 Q9 O9 RX9 RY9 VFp9 VZp9 BFp9 BZp9 HFq9 HXq9 HYq
  clear o10
  clear HFq10 HXq10 HYq10
  have VFq := Lib.hid hs1
  clear hs1
  have VZq := Lib.hid hs2
  clear hs2
  have P11 := Has.alloc P10 (.cells #[.int .i64 (sendF q y0 y1).length, .slice S1q S2q S3q] 29)
  have Q11 := Has.alloc Q10 (.cells #[.int .i64 (sendF q y0 y1).length, .slice S1q S2q S3q] 29)
  have O11 := O10.alloc (.cells #[.int .i64 (sendF q y0 y1).length, .slice S1q S2q S3q] 29)
  have RX11 := Lib.hid (RX10.out.inner ((Only.refl _ _).alloc (.cells #[.int .i64 (sendF q y0 y1).length, .slice S1q S2q S3q] 29)))
  have RY11 := Lib.hid (RY10.out.inner ((Only.refl _ _).alloc (.cells #[.int .i64 (sendF q y0 y1).length, .slice S1q S2q S3q] 29)))
  have VFp11 := Lib.hid (VFp10.out.inner ((Only.refl _ _).alloc (.cells #[.int .i64 (sendF q y0 y1).length, .slice S1q S2q S3q] 29)))
  have VZp11 := Lib.hid (VZp10.out.inner ((Only.refl _ _).alloc (.cells #[.int .i64 (sendF q y0 y1).length, .slice S1q S2q S3q] 29)))
  have BFp11 := Has.alloc BFp10 (.cells #[.int .i64 (sendF q y0 y1).length, .slice S1q S2q S3q] 29)
  have BZp11 := Has.alloc BZp10 (.cells #[.int .i64 (sendF q y0 y1).length, .slice S1q S2q S3q] 29)
  have VFq11 := Lib.hid (VFq.out.inner ((Only.refl _ _).alloc (.cells #[.int .i64 (sendF q y0 y1).length, .slice S1q S2q S3q] 29)))
  have VZq11 := Lib.hid (VZq.out.inner ((Only.refl _ _).alloc (.cells #[.int .i64 (sendF q y0 y1).length, .slice S1q S2q S3q] 29)))
  clear P10 Q10 O10 RX10 RY10 VFp10 VZp10 BFp10 BZp10 VFq VZq
  have BFq := Has.new w10 29 #[.int .i64 (sendF q y0 y1).length, .slice S1q S2q S3q]
  have P12 := Has.alloc P11 (.cells #[.int .i64 (sendZ q y0 y1).length, .slice S4q S5q S6q] 29)
  have Q12 := Has.alloc Q11 (.cells #[.int .i64 (sendZ q y0 y1).length, .slice S4q S5q S6q] 29)
  have O12 := O11.alloc (.cells #[.int .i64 (sendZ q y0 y1).length, .slice S4q S5q S6q] 29)
  have RX12 := Lib.hid (RX11.out.inner ((Only.refl _ _).alloc (.cells #[.int .i64 (sendZ q y0 y1).length, .slice S4q S5q S6q] 29)))
  have RY12 := Lib.hid (RY11.out.inner ((Only.refl _ _).alloc (.cells #[.int .i64 (sendZ q y0 y1).length, .slice S4q S5q S6q] 29)))
  have VFp12 := Lib.hid (VFp11.out.inner ((Only.refl _ _).alloc (.cells #[.int .i64 (sendZ q y0 y1).length, .slice S4q S5q S6q] 29)))
  have VZp12 := Lib.hid (VZp11.out.inner ((Only.refl _ _).alloc (.cells #[.int .i64 (sendZ q y0 y1).length, .slice S4q S5q S6q] 29)))
  have BFp12 := Has.alloc BFp11 (.cells #[.int .i64 (sendZ q y0 y1).length, .slice S4q S5q S6q] 29)
  have BZp12 := Has.alloc BZp11 (.cells #[.int .i64 (sendZ q y0 y1).length, .slice S4q S5q S6q] 29)
  have VFq12 := Lib.hid (VFq11.out.inner ((Only.refl _ _).alloc (.cells #[.int .i64 (sendZ q y0 y1).length, .slice S4q S5q S6q] 29)))
  have VZq12 := Lib.hid (VZq11.out.inner ((Only.refl _ _).alloc (.cells #[.int .i64 (sendZ q y0 y1).length, .slice S4q S5q S6q] 29)))
  have BFq12 := Has.alloc BFq (.cells #[.int .i64 (sendZ q y0 y1).length, .slice S4q S5q S6q] 29)
  clear P11 Q11 O11 RX11 RY11 VFp11 VZp11 BFp11 BZp11 VFq11 VZq11 BFq
  have BZq := has_new2 w10 (.cells #[.int .i64 (sendF q y0 y1).length, .slice S1q S2q S3q] 29) 29 #[.int .i64 (sendZ q y0 y1).length, .slice S4q S5q S6q]
  go_upto_region 14 with fail
  generalize ((w10.alloc (.cells #[.int .i64 (sendF q y0 y1).length, .slice S1q S2q S3q] 29)).alloc (.cells #[.int .i64 (sendZ q y0 y1).length, .slice S4q S5q S6q] 29)) = wAg at *
  have lt_Q := Has.lt Q12
  have lt_BFp := Has.lt BFp12
  go_cut [27, 28] (fun s e W => ∃ (n1 : Nat) (A : Option Addr) (kk cc : Nat), s = .pointer (some ⟨n1, 0, none⟩) ∧ e = .int .i64 (recvC q x (sendF p x0 x1)) ∧ Has W n1 29 #[.int .i64 (recvL q x (sendF p x0 x1)).length, .slice A kk cc] ∧ VL W 0 (.agg #[.int .i64 (recvL q x (sendF p x0 x1)).length, .slice A kk cc]) (recvL q x (sendF p x0 x1)) ∧ Only (fun _ => False) wAg W)
  case first =>
    as_aux_lemma =>
      clear HX0 HX1 HY0 HY1 LX0 LX1 LY0 LY1 HC' LY HRP HRQ HLP HOP HVX0 HVX1 HVY0 HVY1 H1 P12 RY12 VZp12 BZp12 VFq12 VZq12 BFq12 BZq
      go_region_held3 (fun W => W.cell? ⟨w.heap.size + 1, 0, none⟩ = some (.slice (some a3) k k3) ∧ W.cell? ⟨w.heap.size + 1, 1, none⟩ = some (.slice (some a4) k k4) ∧ W.cell? ⟨w.heap.size + 1, 2, none⟩ = some (.slice none 0 0) ∧ W.cell? ⟨w4.heap.size, 0, none⟩ = some (.int .i64 (sendF p x0 x1).length) ∧ W.cell? ⟨w4.heap.size, 1, none⟩ = some (.slice S1p S2p S3p)) (with_reducible exact pf32 (t := 24) (t' := 29) (by repeat (first | with_reducible assumption | with_reducible apply Has.drew | with_reducible apply Has.alloc | ((with_reducible refine Has.off2' ?_ ?_ _ _); (focus omega)) | ((with_reducible refine Has.off6' ?_ ?_ _ _ _ _ _ _); (focus omega)))) (by repeat (first | with_reducible assumption | with_reducible apply Has.drew | with_reducible apply Has.alloc | ((with_reducible refine Has.off2' ?_ ?_ _ _); (focus omega)) | ((with_reducible refine Has.off6' ?_ ?_ _ _ _ _ _ _); (focus omega))))) (first
        | (go_at_call 9; (with_reducible refine (HOQ.out _ (by repeat (first | with_reducible assumption | with_reducible exact Only.refl _ _ | with_reducible apply Only.drew | with_reducible apply Only.alloc))).mono ?_); rintro e wag ⟨⟨F1, F2, F3, F4, F5, F6, F7, F8, F9, rfl, hfa⟩, oag⟩; have Da : Only (fun _ => False) wAg wag := Only.trans (by repeat (first | with_reducible assumption | with_reducible exact Only.refl _ _ | with_reducible apply Only.drew | with_reducible apply Only.alloc)) oag; have Ta : Only (fun _ => False) w wag := Only.trans O12 Da; have Ga := Da.size; have ha_Q : Has wag (w.heap.size + 1) 24 _ := Only.has oag (by repeat (first | with_reducible assumption | with_reducible apply Has.drew | with_reducible apply Has.alloc | ((with_reducible refine Has.off2' ?_ ?_ _ _); (focus omega)) | ((with_reducible refine Has.off6' ?_ ?_ _ _ _ _ _ _); (focus omega)))) (fun f => f); have ha_BFp : Has wag (w4.heap.size) 29 _ := Only.has oag (by repeat (first | with_reducible assumption | with_reducible apply Has.drew | with_reducible apply Has.alloc | ((with_reducible refine Has.off2' ?_ ?_ _ _); (focus omega)) | ((with_reducible refine Has.off6' ?_ ?_ _ _ _ _ _ _); (focus omega)))) (fun f => f))
        | (go_at_call 16; (with_reducible refine (vec_any0 _ _ x (RX12.out.inner (by repeat (first | with_reducible assumption | with_reducible exact Only.refl _ _ | with_reducible apply Only.drew | with_reducible apply Only.alloc))) (by have := LX.out; have := H2.out; omega)).mono ?_); rintro e wbg ⟨⟨X1, X2, X3, rfl, hfb⟩, obg⟩; have Db : Only (fun _ => False) wAg wbg := Only.trans (by repeat (first | with_reducible assumption | with_reducible exact Only.refl _ _ | with_reducible apply Only.drew | with_reducible apply Only.alloc)) obg; have Tb : Only (fun _ => False) w wbg := Only.trans O12 Db; have Gb := Db.size; have Eab : Only (fun _ => False) wag wbg := Only.trans (by repeat (first | with_reducible assumption | with_reducible exact Only.refl _ _ | with_reducible apply Only.drew | with_reducible apply Only.alloc)) obg; have hb_Q : Has wbg (w.heap.size + 1) 24 _ := Only.has obg (by repeat (first | with_reducible assumption | with_reducible apply Has.drew | with_reducible apply Has.alloc | ((with_reducible refine Has.off2' ?_ ?_ _ _); (focus omega)) | ((with_reducible refine Has.off6' ?_ ?_ _ _ _ _ _ _); (focus omega)))) (fun f => f); have hb_BFp : Has wbg (w4.heap.size) 29 _ := Only.has obg (by repeat (first | with_reducible assumption | with_reducible apply Has.drew | with_reducible apply Has.alloc | ((with_reducible refine Has.off2' ?_ ?_ _ _); (focus omega)) | ((with_reducible refine Has.off6' ?_ ?_ _ _ _ _ _ _); (focus omega)))) (fun f => f))
        | (go_at_call 18; (with_reducible refine (recv_any _ _ _ _ q x (sendF p x0 x1) (hfa.inner (by repeat (first | with_reducible assumption | with_reducible exact Only.refl _ _ | with_reducible apply Only.drew | with_reducible apply Only.alloc))) (hfb.inner (by repeat (first | with_reducible assumption | with_reducible exact Only.refl _ _ | with_reducible apply Only.drew | with_reducible apply Only.alloc))) (VFp12.out.inner (by repeat (first | with_reducible assumption | with_reducible exact Only.refl _ _ | with_reducible apply Only.drew | with_reducible apply Only.alloc))) (by have := HLQ.out; have := H2.out; omega)).mono ?_); rintro e wcg ⟨⟨R1, R2, R3, rfl, hres⟩, ocg⟩; have Dc : Only (fun _ => False) wAg wcg := Only.trans (by repeat (first | with_reducible assumption | with_reducible exact Only.refl _ _ | with_reducible apply Only.drew | with_reducible apply Only.alloc)) ocg; have Tc : Only (fun _ => False) w wcg := Only.trans O12 Dc; have Gc := Dc.size; have Eac : Only (fun _ => False) wag wcg := Only.trans (by repeat (first | with_reducible assumption | with_reducible exact Only.refl _ _ | with_reducible apply Only.drew | with_reducible apply Only.alloc)) ocg; have Ebc : Only (fun _ => False) wbg wcg := Only.trans (by repeat (first | with_reducible assumption | with_reducible exact Only.refl _ _ | with_reducible apply Only.drew | with_reducible apply Only.alloc)) ocg; have hc_Q : Has wcg (w.heap.size + 1) 24 _ := Only.has ocg (by repeat (first | with_reducible assumption | with_reducible apply Has.drew | with_reducible apply Has.alloc | ((with_reducible refine Has.off2' ?_ ?_ _ _); (focus omega)) | ((with_reducible refine Has.off6' ?_ ?_ _ _ _ _ _ _); (focus omega)))) (fun f => f); have hc_BFp : Has wcg (w4.heap.size) 29 _ := Only.has ocg (by repeat (first | with_reducible assumption | with_reducible apply Has.drew | with_reducible apply Has.alloc | ((with_reducible refine Has.off2' ?_ ?_ _ _); (focus omega)) | ((with_reducible refine Has.off6' ?_ ?_ _ _ _ _ _ _); (focus omega)))) (fun f => f); (first | ((have hZ : Has wcg (wAg.heap.size) 29 #[.int .i64 0, .slice none 0 0] := by with_reducible exact Only.has ocg (Only.has obg (Only.has oag (Has.drew (Has.new _ _ _)) (fun f => f)) (fun f => f)) (fun f => f)); obtain ⟨y0, y1, yf⟩ := Has.facts2 hZ) | ((have hZ : Has wcg (wag.heap.size) 29 #[.int .i64 0, .slice none 0 0] := by with_reducible exact Only.has ocg (Only.has obg (Has.new _ _ _) (fun f => f)) (fun f => f)); obtain ⟨y0, y1, yf⟩ := Has.facts2 hZ) | ((have hZ : Has wcg (wbg.heap.size) 29 #[.int .i64 0, .slice none 0 0] := by with_reducible exact Only.has ocg (Has.new _ _ _) (fun f => f)); obtain ⟨y0, y1, yf⟩ := Has.facts2 hZ) | skip)))
      all_goals
        go_wp2_with fail
        go_meet
        first
          | (have hZ : Has wcg (wAg.heap.size) 29 #[.int .i64 0, .slice none 0 0] := (by with_reducible exact Only.has ocg (Only.has obg (Only.has oag (Has.drew (Has.new _ _ _)) (fun f => f)) (fun f => f)) (fun f => f)); exact ⟨_, _, _, _, rfl, rfl, Has.put2 hZ rfl _ _, VL.putT hres hZ (by decide) (Only.put2 _ _ _ _), Only.then_ Dc (Only.put2 _ (wAg.heap.size) _ _) (fun i hi e => absurd hi (by have : i = wAg.heap.size := e; omega))⟩)
          | (have hZ : Has wcg (wag.heap.size) 29 #[.int .i64 0, .slice none 0 0] := (by with_reducible exact Only.has ocg (Only.has obg (Has.new _ _ _) (fun f => f)) (fun f => f)); exact ⟨_, _, _, _, rfl, rfl, Has.put2 hZ rfl _ _, VL.putT hres hZ (by decide) (Only.put2 _ _ _ _), Only.then_ Dc (Only.put2 _ (wag.heap.size) _ _) (fun i hi e => absurd hi (by have : i = wag.heap.size := e; omega))⟩)
          | (have hZ : Has wcg (wbg.heap.size) 29 #[.int .i64 0, .slice none 0 0] := (by with_reducible exact Only.has ocg (Has.new _ _ _) (fun f => f)); exact ⟨_, _, _, _, rfl, rfl, Has.put2 hZ rfl _ _, VL.putT hres hZ (by decide) (Only.put2 _ _ _ _), Only.then_ Dc (Only.put2 _ (wbg.heap.size) _ _) (fun i hi e => absurd hi (by have : i = wbg.heap.size := e; omega))⟩)
          | exact ⟨_, _, _, _, rfl, rfl, (by with_reducible exact Has.new _ _ _), hres.inner ((Only.refl _ _).alloc _), Only.alloc Dc _⟩
  case rest =>
  obtain ⟨ng, Ag, kkg, ccg, rfl, rfl, Ng, hs1, on⟩ := hcut
  obtain ⟨wg, rfl⟩ : ∃ x : World, x = wc := ⟨_, rfl⟩
  clear lt_Q lt_BFp
  have P13 := Only.has on P12 (fun f => f)
  have Q13 := Only.has on Q12 (fun f => f)
  have O13 := O12.trans on
  have RX13 := Lib.hid (RX12.out.inner on)
  have RY13 := Lib.hid (RY12.out.inner on)
  have VFp13 := Lib.hid (VFp12.out.inner on)
  have VZp13 := Lib.hid (VZp12.out.inner on)
  have BFp13 := Only.has on BFp12 (fun f => f)
  have BZp13 := Only.has on BZp12 (fun f => f)
  have VFq13 := Lib.hid (VFq12.out.inner on)
  have VZq13 := Lib.hid (VZq12.out.inner on)
  have BFq13 := Only.has on BFq12 (fun f => f)
  have BZq13 := Only.has on BZq (fun f => f)
  clear P12 Q12 O12 RX12 RY12 VFp12 VZp12 BFp12 BZp12 VFq12 VZq12 BFq12 BZq
  clear on
  have Vg := Lib.hid hs1
  clear hs1
  clear RX13 BFp13
  go_upto_region 15 with fail
  generalize wg = wAh at *
  have lt_P := Has.lt P13
  have lt_BFq := Has.lt BFq13
  go_cut [29, 30] (fun s e W => ∃ (n1 : Nat) (A : Option Addr) (kk cc : Nat), s = .pointer (some ⟨n1, 0, none⟩) ∧ e = .int .i64 (recvC p y (sendF q y0 y1)) ∧ Has W n1 29 #[.int .i64 (recvL p y (sendF q y0 y1)).length, .slice A kk cc] ∧ VL W 0 (.agg #[.int .i64 (recvL p y (sendF q y0 y1)).length, .slice A kk cc]) (recvL p y (sendF q y0 y1)) ∧ Only (fun _ => False) wAh W)
  case first =>
    as_aux_lemma =>
      clear HX0 HX1 HY0 HY1 LX0 LX1 LY0 LY1 HC' LX HRP HRQ HLQ HOQ HVX0 HVX1 HVY0 HVY1 H1 Q13 VFp13 VZp13 BZp13 VZq13 BZq13 Ng Vg
      go_region_held3 (fun W => W.cell? ⟨w.heap.size, 0, none⟩ = some (.slice (some a1) k k1) ∧ W.cell? ⟨w.heap.size, 1, none⟩ = some (.slice (some a2) k k2) ∧ W.cell? ⟨w.heap.size, 2, none⟩ = some (.slice none 0 0) ∧ W.cell? ⟨w10.heap.size, 0, none⟩ = some (.int .i64 (sendF q y0 y1).length) ∧ W.cell? ⟨w10.heap.size, 1, none⟩ = some (.slice S1q S2q S3q)) (with_reducible exact pf32 (t := 24) (t' := 29) (by repeat (first | with_reducible assumption | with_reducible apply Has.drew | with_reducible apply Has.alloc | ((with_reducible refine Has.off2' ?_ ?_ _ _); (focus omega)) | ((with_reducible refine Has.off6' ?_ ?_ _ _ _ _ _ _); (focus omega)))) (by repeat (first | with_reducible assumption | with_reducible apply Has.drew | with_reducible apply Has.alloc | ((with_reducible refine Has.off2' ?_ ?_ _ _); (focus omega)) | ((with_reducible refine Has.off6' ?_ ?_ _ _ _ _ _ _); (focus omega))))) (first
        | (go_at_call 9; (with_reducible refine (HOP.out _ (by repeat (first | with_reducible assumption | with_reducible exact Only.refl _ _ | with_reducible apply Only.drew | with_reducible apply Only.alloc))).mono ?_); rintro e wah ⟨⟨F1, F2, F3, F4, F5, F6, F7, F8, F9, rfl, hfa⟩, oah⟩; have Da : Only (fun _ => False) wAh wah := Only.trans (by repeat (first | with_reducible assumption | with_reducible exact Only.refl _ _ | with_reducible apply Only.drew | with_reducible apply Only.alloc)) oah; have Ta : Only (fun _ => False) w wah := Only.trans O13 Da; have Ga := Da.size; have ha_P : Has wah (w.heap.size) 24 _ := Only.has oah (by repeat (first | with_reducible assumption | with_reducible apply Has.drew | with_reducible apply Has.alloc | ((with_reducible refine Has.off2' ?_ ?_ _ _); (focus omega)) | ((with_reducible refine Has.off6' ?_ ?_ _ _ _ _ _ _); (focus omega)))) (fun f => f); have ha_BFq : Has wah (w10.heap.size) 29 _ := Only.has oah (by repeat (first | with_reducible assumption | with_reducible apply Has.drew | with_reducible apply Has.alloc | ((with_reducible refine Has.off2' ?_ ?_ _ _); (focus omega)) | ((with_reducible refine Has.off6' ?_ ?_ _ _ _ _ _ _); (focus omega)))) (fun f => f))
        | (go_at_call 16; (with_reducible refine (vec_any0 _ _ y (RY13.out.inner (by repeat (first | with_reducible assumption | with_reducible exact Only.refl _ _ | with_reducible apply Only.drew | with_reducible apply Only.alloc))) (by have := LY.out; have := H2.out; omega)).mono ?_); rintro e wbh ⟨⟨X1, X2, X3, rfl, hfb⟩, obh⟩; have Db : Only (fun _ => False) wAh wbh := Only.trans (by repeat (first | with_reducible assumption | with_reducible exact Only.refl _ _ | with_reducible apply Only.drew | with_reducible apply Only.alloc)) obh; have Tb : Only (fun _ => False) w wbh := Only.trans O13 Db; have Gb := Db.size; have Eab : Only (fun _ => False) wah wbh := Only.trans (by repeat (first | with_reducible assumption | with_reducible exact Only.refl _ _ | with_reducible apply Only.drew | with_reducible apply Only.alloc)) obh; have hb_P : Has wbh (w.heap.size) 24 _ := Only.has obh (by repeat (first | with_reducible assumption | with_reducible apply Has.drew | with_reducible apply Has.alloc | ((with_reducible refine Has.off2' ?_ ?_ _ _); (focus omega)) | ((with_reducible refine Has.off6' ?_ ?_ _ _ _ _ _ _); (focus omega)))) (fun f => f); have hb_BFq : Has wbh (w10.heap.size) 29 _ := Only.has obh (by repeat (first | with_reducible assumption | with_reducible apply Has.drew | with_reducible apply Has.alloc | ((with_reducible refine Has.off2' ?_ ?_ _ _); (focus omega)) | ((with_reducible refine Has.off6' ?_ ?_ _ _ _ _ _ _); (focus omega)))) (fun f => f))
        | (go_at_call 18; (with_reducible refine (recv_any _ _ _ _ p y (sendF q y0 y1) (hfa.inner (by repeat (first | with_reducible assumption | with_reducible exact Only.refl _ _ | with_reducible apply Only.drew | with_reducible apply Only.alloc))) (hfb.inner (by repeat (first | with_reducible assumption | with_reducible exact Only.refl _ _ | with_reducible apply Only.drew | with_reducible apply Only.alloc))) (VFq13.out.inner (by repeat (first | with_reducible assumption | with_reducible exact Only.refl _ _ | with_reducible apply Only.drew | with_reducible apply Only.alloc))) (by have := HLP.out; have := H2.out; omega)).mono ?_); rintro e wch ⟨⟨R1, R2, R3, rfl, hres⟩, och⟩; have Dc : Only (fun _ => False) wAh wch := Only.trans (by repeat (first | with_reducible assumption | with_reducible exact Only.refl _ _ | with_reducible apply Only.drew | with_reducible apply Only.alloc)) och; have Tc : Only (fun _ => False) w wch := Only.trans O13 Dc; have Gc := Dc.size; have Eac : Only (fun _ => False) wah wch := Only.trans (by repeat (first | with_reducible assumption | with_reducible exact Only.refl _ _ | with_reducible apply Only.drew | with_reducible apply Only.alloc)) och; have Ebc : Only (fun _ => False) wbh wch := Only.trans (by repeat (first | with_reducible assumption | with_reducible exact Only.refl _ _ | with_reducible apply Only.drew | with_reducible apply Only.alloc)) och; have hc_P : Has wch (w.heap.size) 24 _ := Only.has och (by repeat (first | with_reducible assumption | with_reducible apply Has.drew | with_reducible apply Has.alloc | ((with_reducible refine Has.off2' ?_ ?_ _ _); (focus omega)) | ((with_reducible refine Has.off6' ?_ ?_ _ _ _ _ _ _); (focus omega)))) (fun f => f); have hc_BFq : Has wch (w10.heap.size) 29 _ := Only.has och (by repeat (first | with_reducible assumption | with_reducible apply Has.drew | with_reducible apply Has.alloc | ((with_reducible refine Has.off2' ?_ ?_ _ _); (focus omega)) | ((with_reducible refine Has.off6' ?_ ?_ _ _ _ _ _ _); (focus omega)))) (fun f => f); (first | ((have hZ : Has wch (wAh.heap.size) 29 #[.int .i64 0, .slice none 0 0] := by with_reducible exact Only.has och (Only.has obh (Only.has oah (Has.drew (Has.new _ _ _)) (fun f => f)) (fun f => f)) (fun f => f)); obtain ⟨y0, y1, yf⟩ := Has.facts2 hZ) | ((have hZ : Has wch (wah.heap.size) 29 #[.int .i64 0, .slice none 0 0] := by with_reducible exact Only.has och (Only.has obh (Has.new _ _ _) (fun f => f)) (fun f => f)); obtain ⟨y0, y1, yf⟩ := Has.facts2 hZ) | ((have hZ : Has wch (wbh.heap.size) 29 #[.int .i64 0, .slice none 0 0] := by with_reducible exact Only.has och (Has.new _ _ _) (fun f => f)); obtain ⟨y0, y1, yf⟩ := Has.facts2 hZ) | skip)))
      all_goals
        go_wp2_with fail
        go_meet
        first
          | (have hZ : Has wch (wAh.heap.size) 29 #[.int .i64 0, .slice none 0 0] := (by with_reducible exact Only.has och (Only.has obh (Only.has oah (Has.drew (Has.new _ _ _)) (fun f => f)) (fun f => f)) (fun f => f)); exact ⟨_, _, _, _, rfl, rfl, Has.put2 hZ rfl _ _, VL.putT hres hZ (by decide) (Only.put2 _ _ _ _), Only.then_ Dc (Only.put2 _ (wAh.heap.size) _ _) (fun i hi e => absurd hi (by have : i = wAh.heap.size := e; omega))⟩)
          | (have hZ : Has wch (wah.heap.size) 29 #[.int .i64 0, .slice none 0 0] := (by with_reducible exact Only.has och (Only.has obh (Has.new _ _ _) (fun f => f)) (fun f => f)); exact ⟨_, _, _, _, rfl, rfl, Has.put2 hZ rfl _ _, VL.putT hres hZ (by decide) (Only.put2 _ _ _ _), Only.then_ Dc (Only.put2 _ (wah.heap.size) _ _) (fun i hi e => absurd hi (by have : i = wah.heap.size := e; omega))⟩)
          | (have hZ : Has wch (wbh.heap.size) 29 #[.int .i64 0, .slice none 0 0] := (by with_reducible exact Only.has och (Has.new _ _ _) (fun f => f)); exact ⟨_, _, _, _, rfl, rfl, Has.put2 hZ rfl _ _, VL.putT hres hZ (by decide) (Only.put2 _ _ _ _), Only.then_ Dc (Only.put2 _ (wbh.heap.size) _ _) (fun i hi e => absurd hi (by have : i = wbh.heap.size := e; omega))⟩)
          | exact ⟨_, _, _, _, rfl, rfl, (by with_reducible exact Has.new _ _ _), hres.inner ((Only.refl _ _).alloc _), Only.alloc Dc _⟩
  case rest =>
  obtain ⟨nh, Ah, kkh, cch, rfl, rfl, Nh, hs1, on⟩ := hcut
  obtain ⟨wh, rfl⟩ : ∃ x : World, x = wc := ⟨_, rfl⟩
  clear lt_P lt_BFq
  have P14 := Only.has on P13 (fun f => f)
  have Q14 := Only.has on Q13 (fun f => f)
  have O14 := O13.trans on
  have RY14 := Lib.hid (RY13.out.inner on)
  have VFp14 := Lib.hid (VFp13.out.inner on)
  have VZp14 := Lib.hid (VZp13.out.inner on)
  have BZp14 := Only.has on BZp13 (fun f => f)
  have VFq14 := Lib.hid (VFq13.out.inner on)
  have VZq14 := Lib.hid (VZq13.out.inner on)
  have BFq14 := Only.has on BFq13 (fun f => f)
  have BZq14 := Only.has on BZq13 (fun f => f)
  have Ng14 := Only.has on Ng (fun f => f)
  have Vg14 := Lib.hid (Vg.out.inner on)
  clear P13 Q13 O13 RY13 VFp13 VZp13 BZp13 VFq13 VZq13 BFq13 BZq13 Ng Vg
  clear on
  have Vh := Lib.hid hs1
  clear hs1
  clear RY14 BFq14 VFp14 VFq14
  have HLR := Lib.hid (show p.a.length ≤ 4194304 ∧ q.a.length ≤ 4194304 by have := HLP.out; have := HLQ.out; have := H2.out; omega)
  go_upto_region 16 with fail
  generalize wh = wAi at *
  have lt_P := Has.lt P14
  have lt_BZp := Has.lt BZp14
  have lt_Nh := Has.lt Nh
  go_cut [31, 32] (fun s e W => ∃ (n1 : Nat) (A : Option Addr) (kk cc : Nat) (A' : Option Addr) (kk' cc' : Nat) (A'' : Option Addr) (kk'' cc'' : Nat), s = .pointer (some ⟨n1, 0, none⟩) ∧ e = .int .i64 (finC p (sendZ p x0 x1) (recvL p y (sendF q y0 y1))) ∧ Has W n1 34 #[.int .i64 (finP p (sendZ p x0 x1) (recvL p y (sendF q y0 y1))).a.length, .slice A kk cc, .int .i64 (finP p (sendZ p x0 x1) (recvL p y (sendF q y0 y1))).b.length, .slice A' kk' cc', .int .i64 (finP p (sendZ p x0 x1) (recvL p y (sendF q y0 y1))).c.length, .slice A'' kk'' cc''] ∧ PartV W 0 (.agg #[.int .i64 (finP p (sendZ p x0 x1) (recvL p y (sendF q y0 y1))).a.length, .slice A kk cc, .int .i64 (finP p (sendZ p x0 x1) (recvL p y (sendF q y0 y1))).b.length, .slice A' kk' cc', .int .i64 (finP p (sendZ p x0 x1) (recvL p y (sendF q y0 y1))).c.length, .slice A'' kk'' cc'']) (finP p (sendZ p x0 x1) (recvL p y (sendF q y0 y1))) ∧ Only (fun _ => False) wAi W)
  case first =>
    as_aux_lemma =>
      clear HX0 HX1 HY0 HY1 LX0 LX1 LY0 LY1 HC' LX LY HRP HRQ HLP HLQ HOQ HVX0 HVX1 HVY0 HVY1 H1 Q14 VZq14 BZq14 Ng14 Vg14
      go_region_held3 (fun W => W.cell? ⟨w.heap.size, 0, none⟩ = some (.slice (some a1) k k1) ∧ W.cell? ⟨w.heap.size, 1, none⟩ = some (.slice (some a2) k k2) ∧ W.cell? ⟨w.heap.size, 2, none⟩ = some (.slice none 0 0) ∧ W.cell? ⟨w4.heap.size + 1, 0, none⟩ = some (.int .i64 (sendZ p x0 x1).length) ∧ W.cell? ⟨w4.heap.size + 1, 1, none⟩ = some (.slice S4p S5p S6p) ∧ W.cell? ⟨nh, 0, none⟩ = some (.int .i64 (recvL p y (sendF q y0 y1)).length) ∧ W.cell? ⟨nh, 1, none⟩ = some (.slice Ah kkh cch)) (with_reducible exact pf322 (t := 24) (t' := 29) (t2 := 29) (by repeat (first | with_reducible assumption | with_reducible apply Has.drew | with_reducible apply Has.alloc | ((with_reducible refine Has.off2' ?_ ?_ _ _); (focus omega)) | ((with_reducible refine Has.off6' ?_ ?_ _ _ _ _ _ _); (focus omega)))) (by repeat (first | with_reducible assumption | with_reducible apply Has.drew | with_reducible apply Has.alloc | ((with_reducible refine Has.off2' ?_ ?_ _ _); (focus omega)) | ((with_reducible refine Has.off6' ?_ ?_ _ _ _ _ _ _); (focus omega)))) (by repeat (first | with_reducible assumption | with_reducible apply Has.drew | with_reducible apply Has.alloc | ((with_reducible refine Has.off2' ?_ ?_ _ _); (focus omega)) | ((with_reducible refine Has.off6' ?_ ?_ _ _ _ _ _ _); (focus omega))))) (first
        | (go_at_call 9; (with_reducible refine (HOP.out _ (by repeat (first | with_reducible assumption | with_reducible exact Only.refl _ _ | with_reducible apply Only.drew | with_reducible apply Only.alloc))).mono ?_); rintro e wai ⟨⟨F1, F2, F3, F4, F5, F6, F7, F8, F9, rfl, hfa⟩, oai⟩; have Da : Only (fun _ => False) wAi wai := Only.trans (by repeat (first | with_reducible assumption | with_reducible exact Only.refl _ _ | with_reducible apply Only.drew | with_reducible apply Only.alloc)) oai; have Ta : Only (fun _ => False) w wai := Only.trans O14 Da; have Ga := Da.size; have ha_P : Has wai (w.heap.size) 24 _ := Only.has oai (by repeat (first | with_reducible assumption | with_reducible apply Has.drew | with_reducible apply Has.alloc | ((with_reducible refine Has.off2' ?_ ?_ _ _); (focus omega)) | ((with_reducible refine Has.off6' ?_ ?_ _ _ _ _ _ _); (focus omega)))) (fun f => f); have ha_BZp : Has wai (w4.heap.size + 1) 29 _ := Only.has oai (by repeat (first | with_reducible assumption | with_reducible apply Has.drew | with_reducible apply Has.alloc | ((with_reducible refine Has.off2' ?_ ?_ _ _); (focus omega)) | ((with_reducible refine Has.off6' ?_ ?_ _ _ _ _ _ _); (focus omega)))) (fun f => f); have ha_Nh : Has wai (nh) 29 _ := Only.has oai (by repeat (first | with_reducible assumption | with_reducible apply Has.drew | with_reducible apply Has.alloc | ((with_reducible refine Has.off2' ?_ ?_ _ _); (focus omega)) | ((with_reducible refine Has.off6' ?_ ?_ _ _ _ _ _ _); (focus omega)))) (fun f => f))
        | (go_at_call 20; (with_reducible refine (fin_any _ _ _ _ p (sendZ p x0 x1) (recvL p y (sendF q y0 y1)) (hfa.inner (by repeat (first | with_reducible assumption | with_reducible exact Only.refl _ _ | with_reducible apply Only.drew | with_reducible apply Only.alloc))) (VZp14.out.inner (by repeat (first | with_reducible assumption | with_reducible exact Only.refl _ _ | with_reducible apply Only.drew | with_reducible apply Only.alloc))) (Vh.out.inner (by repeat (first | with_reducible assumption | with_reducible exact Only.refl _ _ | with_reducible apply Only.drew | with_reducible apply Only.alloc))) HLR.out.1).mono ?_); rintro e wbi ⟨⟨ur, rfl, hres⟩, obi⟩; have Db : Only (fun _ => False) wAi wbi := Only.trans (by repeat (first | with_reducible assumption | with_reducible exact Only.refl _ _ | with_reducible apply Only.drew | with_reducible apply Only.alloc)) obi; have Tb : Only (fun _ => False) w wbi := Only.trans O14 Db; have Gb := Db.size; have Eab : Only (fun _ => False) wai wbi := Only.trans (by repeat (first | with_reducible assumption | with_reducible exact Only.refl _ _ | with_reducible apply Only.drew | with_reducible apply Only.alloc)) obi; have hb_P : Has wbi (w.heap.size) 24 _ := Only.has obi (by repeat (first | with_reducible assumption | with_reducible apply Has.drew | with_reducible apply Has.alloc | ((with_reducible refine Has.off2' ?_ ?_ _ _); (focus omega)) | ((with_reducible refine Has.off6' ?_ ?_ _ _ _ _ _ _); (focus omega)))) (fun f => f); have hb_BZp : Has wbi (w4.heap.size + 1) 29 _ := Only.has obi (by repeat (first | with_reducible assumption | with_reducible apply Has.drew | with_reducible apply Has.alloc | ((with_reducible refine Has.off2' ?_ ?_ _ _); (focus omega)) | ((with_reducible refine Has.off6' ?_ ?_ _ _ _ _ _ _); (focus omega)))) (fun f => f); have hb_Nh : Has wbi (nh) 29 _ := Only.has obi (by repeat (first | with_reducible assumption | with_reducible apply Has.drew | with_reducible apply Has.alloc | ((with_reducible refine Has.off2' ?_ ?_ _ _); (focus omega)) | ((with_reducible refine Has.off6' ?_ ?_ _ _ _ _ _ _); (focus omega)))) (fun f => f); (first | ((have hZ : Has wbi (wAi.heap.size) 34 #[.int .i64 0, .slice none 0 0, .int .i64 0, .slice none 0 0, .int .i64 0, .slice none 0 0] := by with_reducible exact Only.has obi (Only.has oai (Has.drew (Has.new _ _ _)) (fun f => f)) (fun f => f)); obtain ⟨y0, y1, y2, y3, y4, y5, yf⟩ := Has.facts6 hZ) | ((have hZ : Has wbi (wai.heap.size) 34 #[.int .i64 0, .slice none 0 0, .int .i64 0, .slice none 0 0, .int .i64 0, .slice none 0 0] := by with_reducible exact Only.has obi (Has.new _ _ _) (fun f => f)); obtain ⟨y0, y1, y2, y3, y4, y5, yf⟩ := Has.facts6 hZ) | skip); (obtain ⟨R1, R2, R3, R4, R5, R6, R7, R8, R9, rfl⟩ := hres.lit)))
      all_goals
        go_wp2_with fail
        go_meet
        first
          | (have hZ : Has wbi (wAi.heap.size) 34 #[.int .i64 0, .slice none 0 0, .int .i64 0, .slice none 0 0, .int .i64 0, .slice none 0 0] := (by with_reducible exact Only.has obi (Only.has oai (Has.drew (Has.new _ _ _)) (fun f => f)) (fun f => f)); exact ⟨_, _, _, _, _, _, _, _, _, _, rfl, rfl, Has.put6 hZ rfl _ _ _ _ _ _, PartV.putT hres hZ (by decide) (Only.put6 _ _ _ _ _ _ _ _), Only.then_ Db (Only.put6 _ (wAi.heap.size) _ _ _ _ _ _) (fun i hi e => absurd hi (by have : i = wAi.heap.size := e; omega))⟩)
          | (have hZ : Has wbi (wai.heap.size) 34 #[.int .i64 0, .slice none 0 0, .int .i64 0, .slice none 0 0, .int .i64 0, .slice none 0 0] := (by with_reducible exact Only.has obi (Has.new _ _ _) (fun f => f)); exact ⟨_, _, _, _, _, _, _, _, _, _, rfl, rfl, Has.put6 hZ rfl _ _ _ _ _ _, PartV.putT hres hZ (by decide) (Only.put6 _ _ _ _ _ _ _ _), Only.then_ Db (Only.put6 _ (wai.heap.size) _ _ _ _ _ _) (fun i hi e => absurd hi (by have : i = wai.heap.size := e; omega))⟩)
          | exact ⟨_, _, _, _, _, _, _, _, _, _, rfl, rfl, (by with_reducible exact Has.new _ _ _), hres.inner ((Only.refl _ _).alloc _), Only.alloc Db _⟩
  case rest =>
  obtain ⟨ni, Ai, kki, cci, Ai', kki', cci', Ai'', kki'', cci'', rfl, rfl, Ni, hs1, on⟩ := hcut
  obtain ⟨wi, rfl⟩ : ∃ x : World, x = wc := ⟨_, rfl⟩
  clear lt_P lt_BZp lt_Nh
  have P15 := Only.has on P14 (fun f => f)
  have Q15 := Only.has on Q14 (fun f => f)
  have O15 := O14.trans on
  have VZp15 := Lib.hid (VZp14.out.inner on)
  have BZp15 := Only.has on BZp14 (fun f => f)
  have VZq15 := Lib.hid (VZq14.out.inner on)
  have BZq15 := Only.has on BZq14 (fun f => f)
  have Ng15 := Only.has on Ng14 (fun f => f)
  have Vg15 := Lib.hid (Vg14.out.inner on)
  have Nh15 := Only.has on Nh (fun f => f)
  have Vh15 := Lib.hid (Vh.out.inner on)
  clear P14 Q14 O14 VZp14 BZp14 VZq14 BZq14 Ng14 Vg14 Nh Vh
  clear on
  have Vi := Lib.hid hs1
  clear hs1
  clear P15 Nh15 Vh15
  go_upto_region 17 with fail
  generalize wi = wAj at *
  have lt_Q := Has.lt Q15
  have lt_BZq := Has.lt BZq15
  have lt_Ng := Has.lt Ng15
  go_cut [33, 34] (fun s e W => ∃ (n1 : Nat) (A : Option Addr) (kk cc : Nat) (A' : Option Addr) (kk' cc' : Nat) (A'' : Option Addr) (kk'' cc'' : Nat), s = .pointer (some ⟨n1, 0, none⟩) ∧ e = .int .i64 (finC q (sendZ q y0 y1) (recvL q x (sendF p x0 x1))) ∧ Has W n1 34 #[.int .i64 (finP q (sendZ q y0 y1) (recvL q x (sendF p x0 x1))).a.length, .slice A kk cc, .int .i64 (finP q (sendZ q y0 y1) (recvL q x (sendF p x0 x1))).b.length, .slice A' kk' cc', .int .i64 (finP q (sendZ q y0 y1) (recvL q x (sendF p x0 x1))).c.length, .slice A'' kk'' cc''] ∧ PartV W 0 (.agg #[.int .i64 (finP q (sendZ q y0 y1) (recvL q x (sendF p x0 x1))).a.length, .slice A kk cc, .int .i64 (finP q (sendZ q y0 y1) (recvL q x (sendF p x0 x1))).b.length, .slice A' kk' cc', .int .i64 (finP q (sendZ q y0 y1) (recvL q x (sendF p x0 x1))).c.length, .slice A'' kk'' cc'']) (finP q (sendZ q y0 y1) (recvL q x (sendF p x0 x1))) ∧ Only (fun _ => False) wAj W)
  case first =>
    as_aux_lemma =>
      clear HX0 HX1 HY0 HY1 LX0 LX1 LY0 LY1 HC' LX LY HRP HRQ HLP HLQ HOP HVX0 HVX1 HVY0 HVY1 H1 VZp15 BZp15 Ni Vi
      go_region_held3 (fun W => W.cell? ⟨w.heap.size + 1, 0, none⟩ = some (.slice (some a3) k k3) ∧ W.cell? ⟨w.heap.size + 1, 1, none⟩ = some (.slice (some a4) k k4) ∧ W.cell? ⟨w.heap.size + 1, 2, none⟩ = some (.slice none 0 0) ∧ W.cell? ⟨w10.heap.size + 1, 0, none⟩ = some (.int .i64 (sendZ q y0 y1).length) ∧ W.cell? ⟨w10.heap.size + 1, 1, none⟩ = some (.slice S4q S5q S6q) ∧ W.cell? ⟨ng, 0, none⟩ = some (.int .i64 (recvL q x (sendF p x0 x1)).length) ∧ W.cell? ⟨ng, 1, none⟩ = some (.slice Ag kkg ccg)) (with_reducible exact pf322 (t := 24) (t' := 29) (t2 := 29) (by repeat (first | with_reducible assumption | with_reducible apply Has.drew | with_reducible apply Has.alloc | ((with_reducible refine Has.off2' ?_ ?_ _ _); (focus omega)) | ((with_reducible refine Has.off6' ?_ ?_ _ _ _ _ _ _); (focus omega)))) (by repeat (first | with_reducible assumption | with_reducible apply Has.drew | with_reducible apply Has.alloc | ((with_reducible refine Has.off2' ?_ ?_ _ _); (focus omega)) | ((with_reducible refine Has.off6' ?_ ?_ _ _ _ _ _ _); (focus omega)))) (by repeat (first | with_reducible assumption | with_reducible apply Has.drew | with_reducible apply Has.alloc | ((with_reducible refine Has.off2' ?_ ?_ _ _); (focus omega)) | ((with_reducible refine Has.off6' ?_ ?_ _ _ _ _ _ _); (focus omega))))) (first
        | (go_at_call 9; (with_reducible refine (HOQ.out _ (by repeat (first | with_reducible assumption | with_reducible exact Only.refl _ _ | with_reducible apply Only.drew | with_reducible apply Only.alloc))).mono ?_); rintro e waj ⟨⟨F1, F2, F3, F4, F5, F6, F7, F8, F9, rfl, hfa⟩, oaj⟩; have Da : Only (fun _ => False) wAj waj := Only.trans (by repeat (first | with_reducible assumption | with_reducible exact Only.refl _ _ | with_reducible apply Only.drew | with_reducible apply Only.alloc)) oaj; have Ta : Only (fun _ => False) w waj := Only.trans O15 Da; have Ga := Da.size; have ha_Q : Has waj (w.heap.size + 1) 24 _ := Only.has oaj (by repeat (first | with_reducible assumption | with_reducible apply Has.drew | with_reducible apply Has.alloc | ((with_reducible refine Has.off2' ?_ ?_ _ _); (focus omega)) | ((with_reducible refine Has.off6' ?_ ?_ _ _ _ _ _ _); (focus omega)))) (fun f => f); have ha_BZq : Has waj (w10.heap.size + 1) 29 _ := Only.has oaj (by repeat (first | with_reducible assumption | with_reducible apply Has.drew | with_reducible apply Has.alloc | ((with_reducible refine Has.off2' ?_ ?_ _ _); (focus omega)) | ((with_reducible refine Has.off6' ?_ ?_ _ _ _ _ _ _); (focus omega)))) (fun f => f); have ha_Ng : Has waj (ng) 29 _ := Only.has oaj (by repeat (first | with_reducible assumption | with_reducible apply Has.drew | with_reducible apply Has.alloc | ((with_reducible refine Has.off2' ?_ ?_ _ _); (focus omega)) | ((with_reducible refine Has.off6' ?_ ?_ _ _ _ _ _ _); (focus omega)))) (fun f => f))
        | (go_at_call 20; (with_reducible refine (fin_any _ _ _ _ q (sendZ q y0 y1) (recvL q x (sendF p x0 x1)) (hfa.inner (by repeat (first | with_reducible assumption | with_reducible exact Only.refl _ _ | with_reducible apply Only.drew | with_reducible apply Only.alloc))) (VZq15.out.inner (by repeat (first | with_reducible assumption | with_reducible exact Only.refl _ _ | with_reducible apply Only.drew | with_reducible apply Only.alloc))) (Vg15.out.inner (by repeat (first | with_reducible assumption | with_reducible exact Only.refl _ _ | with_reducible apply Only.drew | with_reducible apply Only.alloc))) HLR.out.2).mono ?_); rintro e wbj ⟨⟨ur, rfl, hres⟩, obj⟩; have Db : Only (fun _ => False) wAj wbj := Only.trans (by repeat (first | with_reducible assumption | with_reducible exact Only.refl _ _ | with_reducible apply Only.drew | with_reducible apply Only.alloc)) obj; have Tb : Only (fun _ => False) w wbj := Only.trans O15 Db; have Gb := Db.size; have Eab : Only (fun _ => False) waj wbj := Only.trans (by repeat (first | with_reducible assumption | with_reducible exact Only.refl _ _ | with_reducible apply Only.drew | with_reducible apply Only.alloc)) obj; have hb_Q : Has wbj (w.heap.size + 1) 24 _ := Only.has obj (by repeat (first | with_reducible assumption | with_reducible apply Has.drew | with_reducible apply Has.alloc | ((with_reducible refine Has.off2' ?_ ?_ _ _); (focus omega)) | ((with_reducible refine Has.off6' ?_ ?_ _ _ _ _ _ _); (focus omega)))) (fun f => f); have hb_BZq : Has wbj (w10.heap.size + 1) 29 _ := Only.has obj (by repeat (first | with_reducible assumption | with_reducible apply Has.drew | with_reducible apply Has.alloc | ((with_reducible refine Has.off2' ?_ ?_ _ _); (focus omega)) | ((with_reducible refine Has.off6' ?_ ?_ _ _ _ _ _ _); (focus omega)))) (fun f => f); have hb_Ng : Has wbj (ng) 29 _ := Only.has obj (by repeat (first | with_reducible assumption | with_reducible apply Has.drew | with_reducible apply Has.alloc | ((with_reducible refine Has.off2' ?_ ?_ _ _); (focus omega)) | ((with_reducible refine Has.off6' ?_ ?_ _ _ _ _ _ _); (focus omega)))) (fun f => f); (first | ((have hZ : Has wbj (wAj.heap.size) 34 #[.int .i64 0, .slice none 0 0, .int .i64 0, .slice none 0 0, .int .i64 0, .slice none 0 0] := by with_reducible exact Only.has obj (Only.has oaj (Has.drew (Has.new _ _ _)) (fun f => f)) (fun f => f)); obtain ⟨y0, y1, y2, y3, y4, y5, yf⟩ := Has.facts6 hZ) | ((have hZ : Has wbj (waj.heap.size) 34 #[.int .i64 0, .slice none 0 0, .int .i64 0, .slice none 0 0, .int .i64 0, .slice none 0 0] := by with_reducible exact Only.has obj (Has.new _ _ _) (fun f => f)); obtain ⟨y0, y1, y2, y3, y4, y5, yf⟩ := Has.facts6 hZ) | skip); (obtain ⟨R1, R2, R3, R4, R5, R6, R7, R8, R9, rfl⟩ := hres.lit)))
      all_goals
        go_wp2_with fail
        go_meet
        first
          | (have hZ : Has wbj (wAj.heap.size) 34 #[.int .i64 0, .slice none 0 0, .int .i64 0, .slice none 0 0, .int .i64 0, .slice none 0 0] := (by with_reducible exact Only.has obj (Only.has oaj (Has.drew (Has.new _ _ _)) (fun f => f)) (fun f => f)); exact ⟨_, _, _, _, _, _, _, _, _, _, rfl, rfl, Has.put6 hZ rfl _ _ _ _ _ _, PartV.putT hres hZ (by decide) (Only.put6 _ _ _ _ _ _ _ _), Only.then_ Db (Only.put6 _ (wAj.heap.size) _ _ _ _ _ _) (fun i hi e => absurd hi (by have : i = wAj.heap.size := e; omega))⟩)
          | (have hZ : Has wbj (waj.heap.size) 34 #[.int .i64 0, .slice none 0 0, .int .i64 0, .slice none 0 0, .int .i64 0, .slice none 0 0] := (by with_reducible exact Only.has obj (Has.new _ _ _) (fun f => f)); exact ⟨_, _, _, _, _, _, _, _, _, _, rfl, rfl, Has.put6 hZ rfl _ _ _ _ _ _, PartV.putT hres hZ (by decide) (Only.put6 _ _ _ _ _ _ _ _), Only.then_ Db (Only.put6 _ (waj.heap.size) _ _ _ _ _ _) (fun i hi e => absurd hi (by have : i = waj.heap.size := e; omega))⟩)
          | exact ⟨_, _, _, _, _, _, _, _, _, _, rfl, rfl, (by with_reducible exact Has.new _ _ _), hres.inner ((Only.refl _ _).alloc _), Only.alloc Db _⟩
  case rest =>
  obtain ⟨nj, Aj, kkj, ccj, Aj', kkj', ccj', Aj'', kkj'', ccj'', rfl, rfl, Nj, hs1, on⟩ := hcut
  obtain ⟨wj, rfl⟩ : ∃ x : World, x = wc := ⟨_, rfl⟩
  clear lt_Q lt_BZq lt_Ng
  have Q16 := Only.has on Q15 (fun f => f)
  have O16 := O15.trans on
  have VZp16 := Lib.hid (VZp15.out.inner on)
  have BZp16 := Only.has on BZp15 (fun f => f)
  have VZq16 := Lib.hid (VZq15.out.inner on)
  have BZq16 := Only.has on BZq15 (fun f => f)
  have Ng16 := Only.has on Ng15 (fun f => f)
  have Vg16 := Lib.hid (Vg15.out.inner on)
  have Ni16 := Only.has on Ni (fun f => f)
  have Vi16 := Lib.hid (Vi.out.inner on)
  clear Q15 O15 VZp15 BZp15 VZq15 BZq15 Ng15 Vg15 Ni Vi
  clear on
  have Vj := Lib.hid hs1
  clear hs1
  clear Q16 BZq16 VZq16 Ng16 Vg16
  obtain ⟨l, hw, hln, hlz⟩ : ∃ l : List Bool, wrongM (finP p (sendZ p x0 x1) (recvL p y (sendF q y0 y1))) (finP q (sendZ q y0 y1) (recvL q x (sendF p x0 x1))) = some l ∧ l.length = k ∧ ∀ i, lf l i = false := by rw [HC'.out.z1, HC'.out.z2]; exact HC'.out.w
  have HW := Lib.hid hw
  have HLN := Lib.hid hln
  have HLZ := Lib.hid hlz
  have HLF := Lib.hid (show (finP p (sendZ p x0 x1) (recvL p y (sendF q y0 y1))).a.length = k ∧ (finP p (sendZ p x0 x1) (recvL p y (sendF q y0 y1))).b.length = k ∧ (finP p (sendZ p x0 x1) (recvL p y (sendF q y0 y1))).c.length = k by rw [HC'.out.z1]; exact HC'.out.lf1)
  clear hw hln hlz
  have q1 : sendC p x0 x1 = 0 := HC'.out.s1
  have q2 : sendC q y0 y1 = 0 := HC'.out.s2
  have q3 : recvC q x (sendF p x0 x1) = 0 := HC'.out.r1
  have q4 : recvC p y (sendF q y0 y1) = 0 := HC'.out.r2
  have q5 : finC p (sendZ p x0 x1) (recvL p y (sendF q y0 y1)) = 0 := by rw [HC'.out.z1]; exact HC'.out.f1
  have q6 : finC q (sendZ q y0 y1) (recvL q x (sendF p x0 x1)) = 0 := by rw [HC'.out.z2]; exact HC'.out.f2
  simp only [q1, q2, q3, q4, q5, q6]
  clear q1 q2 q3 q4 q5 q6
  as_aux_lemma =>
    obtain ⟨ni_0, ni_1, ni_2, ni_3, ni_4, ni_5, ni_f⟩ := Has.facts6 Ni16
    obtain ⟨nj_0, nj_1, nj_2, nj_3, nj_4, nj_5, nj_f⟩ := Has.facts6 Nj
    go_wp2_with fail
    clear ni_0 ni_1 ni_2 ni_3 ni_4 ni_5 ni_f nj_0 nj_1 nj_2 nj_3 nj_4 nj_5 nj_f
    refine (wrong_any _ 0 _ _ (finP p (sendZ p x0 x1) (recvL p y (sendF q y0 y1))) (finP q (sendZ q y0 y1) (recvL q x (sendF p x0 x1))) Vi16.out Vj.out (by have := HLF.out; have := H2.out; omega) (by have := HLF.out; have := H2.out; omega) (by have := HLF.out; have := H2.out; omega)).mono ?_; rintro e w17 ⟨hp18, o17⟩
    have O17 := O16.trans o17
    have VZp17 := Lib.hid (VZp16.out.inner o17)
    have BZp17 := Only.has o17 BZp16 (fun f => f)
    have Ni17 := Only.has o17 Ni16 (fun f => f)
    have Vi17 := Lib.hid (Vi16.out.inner o17)
    have Nj17 := Only.has o17 Nj (fun f => f)
    have Vj17 := Lib.hid (Vj.out.inner o17)
    clear O16 VZp16 BZp16 Ni16 Vi16 Nj Vj
    clear o17
    obtain ⟨B18, k18, c18, rfl, hs1⟩ := wrong_some hp18 HW.out
    clear hp18
    clear Ni17 Nj17 Vi17 Vj17
    have hs2 := hs1.mono (Nat.zero_le _)
    clear hs1
    have VW := Lib.hid hs2
    clear hs2
    have O18 := O17.alloc (.cells #[.int .i64 l.length, .slice B18 k18 c18] 29)
    have VZp18 := Lib.hid (VZp17.out.inner ((Only.refl _ _).alloc (.cells #[.int .i64 l.length, .slice B18 k18 c18] 29)))
    have BZp18 := Has.alloc BZp17 (.cells #[.int .i64 l.length, .slice B18 k18 c18] 29)
    have VW18 := Lib.hid (VW.out.inner ((Only.refl _ _).alloc (.cells #[.int .i64 l.length, .slice B18 k18 c18] 29)))
    clear O17 VZp17 BZp17 VW
    have BW := Has.new w17 29 #[.int .i64 l.length, .slice B18 k18 c18]
    have e1 : ((l.length : Int) == (k : Int)) = true := by rw [HLN.out]; simp
    have e2 : (l.length == k) = true := by rw [HLN.out]; simp
    obtain ⟨bw_0, bw_1, bw_f⟩ := Has.facts2 BW
    go_wp2_with fail
    clear bw_0 bw_1 bw_f
    refine (blen_any _ 0 _ l VW18.out).mono ?_; rintro e w19 ⟨rfl, o19⟩
    have O19 := O18.trans o19
    have VZp19 := Lib.hid (VZp18.out.inner o19)
    have BZp19 := Only.has o19 BZp18 (fun f => f)
    have VW19 := Lib.hid (VW18.out.inner o19)
    have BW19 := Only.has o19 BW (fun f => f)
    clear O18 VZp18 BZp18 VW18 BW
    clear o19
    obtain ⟨bw_0, bw_1, bw_f⟩ := Has.facts2 BW19
    go_wp2_with fail
    clear bw_0 bw_1 bw_f
    refine (bcount_zero _ 0 _ l VW19.out (by have := HLN.out; have := H2.out; omega) HLZ.out).mono ?_; rintro e w20 ⟨rfl, o20⟩
    have O20 := O19.trans o20
    have VZp20 := Lib.hid (VZp19.out.inner o20)
    have BZp20 := Only.has o20 BZp19 (fun f => f)
    have VW20 := Lib.hid (VW19.out.inner o20)
    have BW20 := Only.has o20 BW19 (fun f => f)
    clear O19 VZp19 BZp19 VW19 BW19
    clear o20
    obtain ⟨bzp_0, bzp_1, bzp_f⟩ := Has.facts2 BZp20
    go_wp2_with fail
    clear bzp_0 bzp_1 bzp_f
    refine (bools_reads _ _ (sendZ p x0 x1) VZp20.out (by rw [HC'.out.z1]; have := LX0.out; have := H2.out; omega)).mono ?_; rintro e w21 ⟨⟨g9, rfl, hs1⟩, o21⟩
    have O21 := O20.trans o21
    have VZp21 := Lib.hid (VZp20.out.inner o21)
    have BZp21 := Only.has o21 BZp20 (fun f => f)
    have VW21 := Lib.hid (VW20.out.inner o21)
    have BW21 := Only.has o21 BW20 (fun f => f)
    clear O20 VZp20 BZp20 VW20 BW20
    clear o21
    go_wp2_with fail
    refine (same_eq _ _ _ (sendZ p x0 x1) hs1 (by rw [HC'.out.z1]; exact HX0.out _ O21) (by rw [HC'.out.z1]; have := LX0.out; have := H2.out; omega)).mono ?_; rintro e w22 ⟨rfl, o22⟩
    have O22 := O21.trans o22
    have VZp22 := Lib.hid (VZp21.out.inner o22)
    have BZp22 := Only.has o22 BZp21 (fun f => f)
    have VW22 := Lib.hid (VW21.out.inner o22)
    have BW22 := Only.has o22 BW21 (fun f => f)
    clear O21 VZp21 BZp21 VW21 BW21
    clear o22
    go_wp2_with fail
    refine (awake_any _).mono ?_; rintro e w9 ⟨rfl, o9⟩
    go_wp2_with fail
    go_ret
    exact ⟨rfl, O22.trans o9⟩
end Go.Proofs.Ythkgjhjfgoglhaa
