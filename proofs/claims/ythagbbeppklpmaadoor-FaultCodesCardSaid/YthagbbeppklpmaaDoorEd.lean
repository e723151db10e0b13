/- Chapter 1: fault.collect at any error. -/
import Derived.Test.YthagbbeppklpmaaDoorEc
import Derived.Deep.DeepCutAuto
import Derived.Deep.CutBlock
set_option linter.unusedSimpArgs false
set_option linter.unusedVariables false
namespace Go.Proofs.YthagbbeppklpmaaDoor
open Go.RowKit

set_option maxRecDepth 100000 in
set_option maxHeartbeats 4000000 in
theorem collect_root (w : World) (b p base : Nat) (sl : Value) (xs : List Int) (c : Int) (s : ByteArray) (hb : Has w b 63 #[.int .i64 c, .string s, .nilIface]) (hl : LAt w p base sl xs) (hE : Et w) (hn : xs.length + 1 ≤ 1000000000) :
    Calls Tryd.prog 33 #[pf b, .pointer (some ⟨p, 0, none⟩)] w (Collects p base sl (xs ++ [c]) w) := by
  have hta := no_list
  obtain ⟨i0, hi, hz0, hz1, hz2⟩ := info_parts Tryd.info_errno
  have h0 := hE.lt
  have hbl := hb.lt
  have hpl := hl.has.lt
  have HAS := Lib.hid (as_any b w.heap.size (.pointer none))
  have t1 : Has ((w.alloc (.cells #[.pointer none] 59)).alloc (.cells #[.int .i64 0] 46)) w.heap.size 59 #[.pointer none] := (Has.new _ _ _).alloc _
  have oE : Only (fun _ => False) w ((w.alloc (.cells #[.pointer none] 59)).alloc (.cells #[.int .i64 0] 46)) := ((Only.refl _ _).alloc _).alloc _
  have HL := Lib.hid hl
  clear hl
  unfold pf
  go_enter Tryd.func33, Tryd.ntmps33
  go_wp2_with fail
  refine (HAS.out _ (hE.only oE (fun f => f)) t1).mono ?_
  rintro e w2 ⟨rfl, a2, o2⟩
  have oo : Only (fun _ => False) w w2 := oE.then_ o2 (fun i hi e => absurd hi (by have : i = w.heap.size := e; omega))
  have hb2 := oo.has hb (fun f => f)
  have L2 := HL.out.keep oo
  have OO := Lib.hid oo
  have e0 : w2.cell? ⟨b, 0, none⟩ = some (.int .i64 c) := hb2.cell 0
  have e2 : w2.cell? ⟨b, 2, none⟩ = some .nilIface := hb2.cell 2
  have f0 : w2.cell? ⟨w.heap.size, 0, none⟩ = some (.pointer (some ⟨b, 0, none⟩)) := a2.cell 0
  have hlow := L2.low
  obtain ⟨A, d, hsl⟩ := own_shape L2.own
  subst hsl
  have g0 : w2.cell? ⟨p, 0, none⟩ = some (.slice A xs.length d) := L2.has.cell 0
  have gf := L2.has.free 0
  have G1 : ∀ o, (w2.alloc o).cell? ⟨p, 0, none⟩ = some (.slice A xs.length d) := fun o => (L2.has.alloc o).cell 0
  have LL2 := Lib.hid L2
  clear L2 hb2 a2 oo oE t1 hb HAS
  go_upto_region 7 with fail
  go_region_law (refine step_append_lies _ (by rfl) _ _ 44 (by rfl) base 46 i0 (.int .i64 0) 1 8 Tryd.underlying44 hi hz0 hz1 hz2 rfl (by decide) (.slice A xs.length d) xs.length (icells xs) (by rfl) ((LL2.out.own.alloc _).drew) ⟨w2.heap.size, 0, none⟩ 1 1 [.int .i64 c] (by rfl) (by rfl) (cell_one_new w2 _ _) (by intro y hy; obtain rfl := List.mem_singleton.1 hy; rfl) (by omega) (by unfold maxLen; omega) (by omega) (by first | omega | (simp; omega) | simp) _ (by rfl) ?_; intro g4 cap4 w4 ho4 hg4 hat4 hlt4; have HP4 : Has w4 p 44 #[.slice A xs.length d] := (Has.grown ((LL2.out.has.alloc _).drew) hg4 (fun e => own_apart LL2.out.own LL2.out.has (by decide) e.symm)); have p40 := HP4.cell 0; have p4f := HP4.free 0; simp only [Act.put, List.getElem_toArray, List.getElem_cons_succ, List.getElem_cons_zero, List.setIfInBounds_toArray, List.set_cons_zero, List.set_cons_succ])
  all_goals
    obtain ⟨r1, r2⟩ := LAt.snoc LL2.out _ ho4 hg4 (by simpa using hat4)
    have R1 := Lib.hid r1
    have R2 := Lib.hid r2
    clear r1 r2 ho4 hg4 hat4 hlt4
    go_wp2_with fail
    go_end0
    exact ⟨rfl, _, R1.out, (CStep.of (q := 0) OO.out).trans R2.out⟩
set_option maxRecDepth 100000 in
set_option maxHeartbeats 4000000 in
theorem collect_num (w : World) (p base : Nat) (sl : Value) (xs : List Int) (c : Int) (hl : LAt w p base sl xs) (hE : Et w) (hn : xs.length + 1 ≤ 1000000000) :
    Calls Tryd.prog 33 #[pn c, .pointer (some ⟨p, 0, none⟩)] w (Collects p base sl (xs ++ [c]) w) := by
  have hta := list_pn
  obtain ⟨i0, hi, hz0, hz1, hz2⟩ := info_parts Tryd.info_errno
  have h0 := hE.lt
  have hpl := hl.has.lt
  have t1 : Has ((w.alloc (.cells #[.pointer none] 59)).alloc (.cells #[.int .i64 0] 46)) w.heap.size 59 #[.pointer none] := (Has.new _ _ _).alloc _
  have t2 : Has ((w.alloc (.cells #[.pointer none] 59)).alloc (.cells #[.int .i64 0] 46)) (w.heap.size + 1) 46 #[.int .i64 0] := by
    have := Has.new (w.alloc (.cells #[.pointer none] 59)) 46 #[.int .i64 0]
    rwa [show (w.alloc (.cells #[.pointer none] 59)).heap.size = w.heap.size + 1 by simp] at this
  have oE : Only (fun _ => False) w ((w.alloc (.cells #[.pointer none] 59)).alloc (.cells #[.int .i64 0] 46)) := ((Only.refl _ _).alloc _).alloc _
  have HAS := Lib.hid (asf_tr (.num c) _ none (pn c) w.heap.size (.pointer none) rfl rfl t1 (hE.only oE (fun f => f)))
  have HAN := Lib.hid (fun W => as_hitn c ⟨w.heap.size + 1, 0, none⟩ (.int .i64 0) W)
  have HL := Lib.hid hl
  clear hl
  unfold pn at HAS ⊢
  go_enter Tryd.func33, Tryd.ntmps33
  go_wp2_with fail
  refine (HAS.out).mono ?_
  rintro e w2 ⟨⟨rfl, a2⟩, o2⟩
  have oo : Only (fun _ => False) w w2 := oE.then_ o2 (fun i hi e => absurd hi (by have : i = w.heap.size := e; omega))
  have T2 := o2.has t2 (fun e => by have : w.heap.size + 1 = w.heap.size := e; omega)
  have f0 : w2.cell? ⟨w.heap.size, 0, none⟩ = some (.pointer none) := a2.cell 0
  have hE2 := hE.only oo (fun f => f)
  have OO := Lib.hid oo
  clear oo oE t1 t2 o2 a2
  go_wp2_with fail
  refine (HAN.out w2 hE2 (T2.cell 0) (T2.free 0)).mono ?_
  rintro e w3 ⟨rfl, hw3⟩
  have T3 : Has w3 (w.heap.size + 1) 46 #[.int .i64 c] := by rw [hw3]; exact Has.put ((((T2.alloc _).alloc _).alloc _).alloc _) 0 _ rfl
  have oo : Only (fun _ => False) w w3 := by
    rw [hw3]
    exact OO.out.then_ ((((((Only.refl (fun j => j = w.heap.size + 1) w2).alloc _).alloc _).alloc _).alloc _).setCell ⟨w.heap.size + 1, 0, none⟩ _ (fun _ => rfl)) (fun i hi e => absurd hi (by have : i = w.heap.size + 1 := e; omega))
  clear hw3 T2 f0
  have L2 := HL.out.keep oo
  have O3 := Lib.hid oo
  have hlow := L2.low
  have f1 : w3.cell? ⟨w.heap.size + 1, 0, none⟩ = some (.int .i64 c) := T3.cell 0
  obtain ⟨A, d, hsl⟩ := own_shape L2.own
  subst hsl
  have g0 : w3.cell? ⟨p, 0, none⟩ = some (.slice A xs.length d) := L2.has.cell 0
  have gf := L2.has.free 0
  have G1 : ∀ o, (w3.alloc o).cell? ⟨p, 0, none⟩ = some (.slice A xs.length d) := fun o => (L2.has.alloc o).cell 0
  have LL2 := Lib.hid L2
  clear L2 T3 oo HAS HAN
  go_upto_region 9 with fail
  go_region_law (refine step_append_lies _ (by rfl) _ _ 44 (by rfl) base 46 i0 (.int .i64 0) 1 8 Tryd.underlying44 hi hz0 hz1 hz2 rfl (by decide) (.slice A xs.length d) xs.length (icells xs) (by rfl) ((LL2.out.own.alloc _).drew) ⟨w3.heap.size, 0, none⟩ 1 1 [.int .i64 c] (by rfl) (by rfl) (cell_one_new w3 _ _) (by intro y hy; obtain rfl := List.mem_singleton.1 hy; rfl) (by omega) (by unfold maxLen; omega) (by omega) (by first | omega | (simp; omega) | simp) _ (by rfl) ?_; intro g4 cap4 w4 ho4 hg4 hat4 hlt4; have HP4 : Has w4 p 44 #[.slice A xs.length d] := (Has.grown ((LL2.out.has.alloc _).drew) hg4 (fun e => own_apart LL2.out.own LL2.out.has (by decide) e.symm)); have p40 := HP4.cell 0; have p4f := HP4.free 0; simp only [Act.put, List.getElem_toArray, List.getElem_cons_succ, List.getElem_cons_zero, List.setIfInBounds_toArray, List.set_cons_zero, List.set_cons_succ])
  all_goals
    obtain ⟨r1, r2⟩ := LAt.snoc LL2.out _ ho4 hg4 (by simpa using hat4)
    have R1 := Lib.hid r1
    have R2 := Lib.hid r2
    clear r1 r2 ho4 hg4 hat4 hlt4
    go_wp2_with fail
    go_end0
    exact ⟨rfl, _, R1.out, (CStep.of (q := 0) O3.out).trans R2.out⟩
set_option maxRecDepth 100000 in
set_option maxHeartbeats 4000000 in
theorem collect_tr : ∀ (t : Tr) (w : World) (av : Option Nat) (v : Value) (p base : Nat) (sl : Value) (xs : List Int), TrAt w av t v → LAt w p base sl xs → Et w → xs.length + t.codes.length ≤ 1000000000 →
    Calls Tryd.prog 33 #[v, .pointer (some ⟨p, 0, none⟩)] w (Collects p base sl (xs ++ t.codes) w)
  | .none, w, av, v, p, base, sl, xs, h, hl, hE, hn => by
    obtain rfl : v = .nilIface := h
    refine (collect_nil w _).mono ?_
    rintro e w' ⟨rfl, o⟩
    refine ⟨rfl, sl, ?_, CStep.of (q := 0) o⟩
    show LAt w' p base sl (xs ++ [])
    rw [List.append_nil]
    exact hl.keep o
  | .root c s, w, av, v, p, base, sl, xs, ⟨b, e, hb⟩, hl, hE, hn => by
    subst e
    exact collect_root w b p base sl xs c s hb hl hE hn
  | .num c, w, av, v, p, base, sl, xs, h, hl, hE, hn => by
    obtain rfl : v = pn c := h
    exact collect_num w p base sl xs c hl hE hn
  | .wrap s t, w, av, v, p, base, sl, xs, ⟨b, u, e, hb, hs, ht⟩, hl, hE, hn => by
    subst e
    have IH := Lib.hid (fun W h1 h2 h3 => collect_tr t W av u p base sl xs h1 h2 h3 hn)
    have hta := no_list
    have h0 := hE.lt
    have hbl := hb.lt
    have hpl := hl.has.lt
    have HAS := Lib.hid (as_any b w.heap.size (.pointer none))
    have t1 : Has ((w.alloc (.cells #[.pointer none] 59)).alloc (.cells #[.int .i64 0] 46)) w.heap.size 59 #[.pointer none] := (Has.new _ _ _).alloc _
    have oE : Only (fun _ => False) w ((w.alloc (.cells #[.pointer none] 59)).alloc (.cells #[.int .i64 0] 46)) := ((Only.refl _ _).alloc _).alloc _
    have HL := Lib.hid hl
    have HT := Lib.hid ht
    obtain ⟨T, x, rfl⟩ := ht.iface hs
    clear hl ht
    have hcodes : (Tr.wrap s t).codes = t.codes := rfl
    rw [hcodes]
    unfold pf
    clear hcodes hn
    generalize t.codes = ys at *
    go_enter Tryd.func33, Tryd.ntmps33
    go_wp2_with fail
    refine (HAS.out _ (hE.only oE (fun f => f)) t1).mono ?_
    rintro e w2 ⟨rfl, a2, o2⟩
    have oo : Only (fun _ => False) w w2 := oE.then_ o2 (fun i hi e => absurd hi (by have : i = w.heap.size := e; omega))
    have hb2 := oo.has hb (fun f => f)
    have OO := Lib.hid oo
    have e2 : w2.cell? ⟨b, 2, none⟩ = some (.iface T x) := hb2.cell 2
    have f0 : w2.cell? ⟨w.heap.size, 0, none⟩ = some (.pointer (some ⟨b, 0, none⟩)) := a2.cell 0
    have HE2 := Lib.hid (hE.only oo (fun f => f))
    clear oo oE t1 hb2 a2 hb o2
    go_wp2_with fail
    refine (IH.out _ (HT.out.keep OO.out) (HL.out.keep OO.out) HE2.out).mono ?_
    rintro e w3 ⟨rfl, sl', hL3, hC3⟩
    have R1 := Lib.hid hL3
    have R2 := Lib.hid hC3
    clear hL3 hC3
    go_wp2_with fail
    go_end0
    exact ⟨rfl, _, R1.out, (CStep.of (q := 0) OO.out).trans R2.out⟩
  | .both x y, w, av, v, p, base, sl, xs, ⟨b, g, n, u1, u2, e, hb, hg, hne, hx, hy, tx, ty⟩, hl, hE, hn => by
    subst e
    have hn2 : xs.length + (x.codes.length + y.codes.length) ≤ 1000000000 := by
      have : (Tr.both x y).codes = x.codes ++ y.codes := rfl
      rw [this, List.length_append] at hn
      exact hn
    have I1 := Lib.hid (fun W h1 h2 h3 => collect_tr x W av u1 p base sl xs h1 h2 h3 (by omega))
    have I2 := Lib.hid (fun W sl2 h1 h2 h3 => collect_tr y W av u2 p base sl2 (xs ++ x.codes) h1 h2 h3 (by rw [List.length_append]; omega))
    have hta := list_pj
    have hm := method_list
    have oE : Only (fun _ => False) w ((w.alloc (.cells #[.pointer none] 59)).alloc (.cells #[.int .i64 0] 46)) := ((Only.refl _ _).alloc _).alloc _
    have HLL := Lib.hid (fun W o => list_any W b _ (Only.has (S := fun _ => False) o hb (fun f => f)))
    have GG := Lib.hid (hg.only oE (fun _ _ f => f))
    have g0 : ((w.alloc (.cells #[.pointer none] 59)).alloc (.cells #[.int .i64 0] 46)).cell? ⟨g, 0, none⟩ = some u1 := GG.out.c0
    have HL := Lib.hid (hl.keep oE)
    have TX := Lib.hid (tx.keep oE)
    have TY := Lib.hid (ty.keep oE)
    have HE2 := Lib.hid (hE.only oE (fun f => f))
    have OO := Lib.hid oE
    have hcodes : xs ++ (Tr.both x y).codes = xs ++ x.codes ++ y.codes := (List.append_assoc _ _ _).symm
    rw [hcodes]
    clear hl tx ty hE hb hg hn hn2 hcodes oE
    generalize x.codes = ys at *
    generalize y.codes = zs at *
    unfold pj
    go_enter Tryd.func33, Tryd.ntmps33
    go_wp2_with fail
    refine (HLL.out _ OO.out).mono ?_
    rintro e w1 ⟨rfl, rfl⟩
    go_wp2_with fail
    refine wp_loop_rounds 3 ?_
    rw [rounds_succ]
    go_wp2_with fail
    refine (I1.out _ TX.out HL.out HE2.out).mono ?_
    rintro e w3 ⟨rfl, sl', hL3, hC3⟩
    have g1 : w3.cell? ⟨g, 1, none⟩ = some u2 := (GG.out.only hC3.only (fun cs hc => HL.out.ne hc (by decide) (by decide))).c1
    have TY3 := Lib.hid (HL.out.tr hC3 TY.out)
    have HE3 := Lib.hid (HL.out.et hC3 HE2.out)
    have R1 := Lib.hid hL3
    have R2 := Lib.hid hC3
    clear hL3 hC3
    go_wp2_with fail
    rw [rounds_succ]
    go_wp2_with fail
    refine (I2.out _ _ TY3.out R1.out HE3.out).mono ?_
    rintro e w4 ⟨rfl, sl4, hL4, hC4⟩
    have R3 := Lib.hid hL4
    have R4 := Lib.hid hC4
    clear hL4 hC4
    go_wp2_with fail
    rw [rounds_succ]
    go_wp2_with fail
    go_end0
    exact ⟨rfl, _, R3.out, ((CStep.of (q := 0) OO.out).trans R2.out).trans R4.out⟩
end Go.Proofs.YthagbbeppklpmaaDoor
