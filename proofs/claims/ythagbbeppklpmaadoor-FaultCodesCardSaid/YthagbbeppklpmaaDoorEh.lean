/- Chapter 1: fault.Path, Wrap, Both at any error; errors.Join. -/
import Derived.Test.YthagbbeppklpmaaDoorEg
set_option linter.unusedSimpArgs false
set_option linter.unusedVariables false
namespace Go.Proofs.YthagbbeppklpmaaDoor
open Go.RowKit

theorem strs_snoc (l : List ByteArray) (s : ByteArray) : strs (l ++ [s]) = strs l ++ [.string s] := by simp [strs]
theorem TrAt.app {w w1 : World} {av : Option Nat} {t : Tr} {v u : Value} {base n : Nat} {e : TypeId} {xs : List Value} {S : Nat → Prop} (h : TrAt w av t v) (hown : w.ownsRow base e 1 u n xs) (o : Only (fun j => some j = u.ownBlock) w w1) (h1 : e ≠ 63) (h2 : e ≠ 93) (h3 : e ≠ 32) : TrAt w1 av t v :=
  h.only o (fun k cs hk e => own_apart hown hk h1 e.symm) (fun k cs hk e => own_apart hown hk h2 e.symm) (fun k cs hk _ e => own_apart hown hk h3 e.symm)
set_option maxRecDepth 100000 in
set_option maxHeartbeats 2000000 in
theorem path_tr (t : Tr) (w : World) (av : Option Nat) (v : Value) (h : TrAt w av t v) (hn : t.path.length ≤ 1000000) :
    Calls Tryd.prog 15 #[v] w fun e w' => ∃ u, e = .returned u ∧ w'.ownsRow w.heap.size 9 1 u t.path.length (strs t.path) ∧ Only (fun _ => False) w w' := by
  obtain ⟨i0, hi, hz0, hz1, hz2⟩ := info_parts Tryd.info_str
  have HT := Lib.hid h
  clear h
  have HU := Lib.hid unwrap_any
  have hit := assert_hit
  have m1 := miss_pn_pf
  have m2 := miss_pj_pf
  obtain ⟨R, hR⟩ : ∃ R, R = t.path := ⟨_, rfl⟩
  rw [← hR] at hn ⊢
  have HR := Lib.hid hR
  clear hR
  go_enter Tryd.func15, Tryd.ntmps15
  go_wp2_with fail
  go_loopg [0, 3] (t.size + 1) (fun k e u W => ∃ (t' : Tr) (l : List ByteArray), TrAt W av t' e ∧ W.ownsRow w.heap.size 9 1 u l.length (strs l) ∧ l ++ t'.path = R ∧ t'.size + t'.some.toNat ≤ k ∧ Only (fun _ => False) w W)
  case atStart => exact ⟨t, [], HT.out, World.ownsRow_nil _ _ _ _, HR.out.symm, by have := t.some.toNat_le; omega, Only.refl _ _⟩
  case round =>
    obtain ⟨t', l, ht, hown, hl, hsz, ho⟩ := hrel
    have hlow := ho.size
    have hlen : l.length ≤ R.length := by rw [← hl, List.length_append]; omega
    obtain ⟨A0, d0, he0⟩ := own_shape hown
    subst he0
    have HL := Lib.hid hl
    have HO := Lib.hid ho
    have HOWN := Lib.hid hown
    clear hl ho hown
    rcases t' with _ | ⟨c, s⟩ | c | ⟨s, t2⟩ | ⟨x, y⟩
    · obtain rfl : _ = Value.nilIface := ht
      go_wp2_with fail
      go_ret
      have e := HL.out
      rw [show Tr.none.path = [] from rfl, List.append_nil] at e
      rw [← e]
      exact ⟨_, rfl, HOWN.out, HO.out⟩
    · obtain ⟨b, rfl, hb⟩ := ht
      have c1 : wr.cell? ⟨b, 1, none⟩ = some (.string s) := hb.cell 1
      have hlr : l.length + 1 ≤ R.length := by rw [← HL.out]; simp [Tr.path]
      have HB := Lib.hid hb
      have HZ := Lib.hid (show gk - 1 < gk ∧ Tr.none.size + Tr.none.some.toNat ≤ gk - 1 from by have : 1 + 1 ≤ gk := hsz; exact ⟨by omega, by show 1 + 0 ≤ _; omega⟩)
      unfold pf
      clear hb
      clear hsz
      go_wp2_with (at_builtin; go_must (refine wpList_append_own_at _ rfl _ _ 37 rfl w.heap.size 9 i0 (.string ⟨#[]⟩) 1 16 Tryd.underlying37 hi hz0 hz1 hz2 rfl (by decide) _ l.length (strs l) ?hs (HOWN.out.alloc _) ⟨wr.heap.size, 0, none⟩ 1 1 [.string s] ?hx rfl (cell_one_new _ _ _) ?c2 ?c3 ?c4 ?c5 ?_); (case hs => rfl); (case hx => rfl); (case c2 => intro y hy; obtain rfl := List.mem_singleton.1 hy; rfl); (case c3 => unfold maxLen; omega); (case c4 => omega); (case c5 => simp; omega); intro v1 w1 ho1 hg1 _ hat1)
      have o1 : Only (fun j => some j = Value.ownBlock (.slice A0 l.length d0)) wr w1 := Only.grown ((Only.refl _ _).alloc _) hg1 (fun j e hj => e.symm)
      have hh1 := o1.has HB.out (fun e => own_apart HOWN.out HB.out (by decide) e.symm)
      clear c1
      refine (HU.out _ b _ _ _ hh1).mono ?_
      rintro e w2 ⟨rfl, rfl⟩
      obtain ⟨A1, d1, hv1⟩ := own_shape ho1
      subst hv1
      go_wp2_with fail
      go_roundg (gk - 1)
      case rel => exact ⟨.none, l ++ [s], rfl, by rw [strs_snoc, List.length_append]; exact ho1, by rw [← HL.out, List.append_assoc]; rfl, HZ.out.2, HO.out.then_ o1 (fun i hi e => absurd hi (by have := own_low HOWN.out e.symm; omega))⟩
      case measure => exact HZ.out.1
    · obtain rfl : _ = pn c := ht
      unfold pn
      go_wp2_with fail
      go_ret
      have e := HL.out
      rw [show (Tr.num c).path = [] from rfl, List.append_nil] at e
      rw [← e]
      exact ⟨_, rfl, HOWN.out, HO.out⟩
    · obtain ⟨b, u2, rfl, hb, hs2, ht2⟩ := ht
      have c1 : wr.cell? ⟨b, 1, none⟩ = some (.string s) := hb.cell 1
      have hlr : l.length + 1 ≤ R.length := by rw [← HL.out]; simp [Tr.path]
      have HB := Lib.hid hb
      have HT2 := Lib.hid ht2
      have HSZ := Lib.hid (show gk - 1 < gk ∧ t2.size + t2.some.toNat ≤ gk - 1 by have : t2.size + 1 + 1 ≤ gk := hsz; have := t2.some.toNat_le; omega)
      unfold pf
      clear hb ht2 hsz
      go_wp2_with (at_builtin; go_must (refine wpList_append_own_at _ rfl _ _ 37 rfl w.heap.size 9 i0 (.string ⟨#[]⟩) 1 16 Tryd.underlying37 hi hz0 hz1 hz2 rfl (by decide) _ l.length (strs l) ?hs (HOWN.out.alloc _) ⟨wr.heap.size, 0, none⟩ 1 1 [.string s] ?hx rfl (cell_one_new _ _ _) ?c2 ?c3 ?c4 ?c5 ?_); (case hs => rfl); (case hx => rfl); (case c2 => intro y hy; obtain rfl := List.mem_singleton.1 hy; rfl); (case c3 => unfold maxLen; omega); (case c4 => omega); (case c5 => simp; omega); intro v1 w1 ho1 hg1 _ hat1)
      have o1 : Only (fun j => some j = Value.ownBlock (.slice A0 l.length d0)) wr w1 := Only.grown ((Only.refl _ _).alloc _) hg1 (fun j e hj => e.symm)
      have hh1 := o1.has HB.out (fun e => own_apart HOWN.out HB.out (by decide) e.symm)
      have HT3 := Lib.hid (HT2.out.app (S := fun _ => False) HOWN.out o1 (by decide) (by decide) (by decide))
      clear c1
      refine (HU.out _ b _ _ _ hh1).mono ?_
      rintro e w2 ⟨rfl, rfl⟩
      obtain ⟨A1, d1, hv1⟩ := own_shape ho1
      subst hv1
      go_wp2_with fail
      go_roundg (gk - 1)
      case rel => exact ⟨t2, l ++ [s], HT3.out, by rw [strs_snoc, List.length_append]; exact ho1, by rw [← HL.out, List.append_assoc]; rfl, HSZ.out.2, HO.out.then_ o1 (fun i hi e => absurd hi (by have := own_low HOWN.out e.symm; omega))⟩
      case measure => exact HSZ.out.1
    · obtain ⟨b, g, m, v1, v2, rfl, _⟩ := ht
      unfold pj
      go_wp2_with fail
      go_ret
      have e := HL.out
      rw [show (Tr.both x y).path = [] from rfl, List.append_nil] at e
      rw [← e]
      exact ⟨_, rfl, HOWN.out, HO.out⟩

theorem wrap_tr (t : Tr) (w : World) (av : Option Nat) (v : Value) (s : ByteArray) (h : TrAt w av t v) :
    Calls Tryd.prog 24 #[.string s, v] w fun e w' => ∃ u, e = .returned u ∧ TrAt w' av (if t.some = true then .wrap s t else .none) u ∧ Only (fun _ => False) w w' := by
  by_cases hs : t.some = true
  · rw [if_pos hs]
    have HT := Lib.hid h
    have HS := Lib.hid hs
    obtain ⟨T, x, rfl⟩ := h.iface hs
    clear h hs
    go_enter Tryd.func24, Tryd.ntmps24
    go_wp2_with fail
    go_ret
    exact ⟨_, rfl, ⟨w.heap.size, _, rfl, Has.new _ _ _, HS.out, HT.out.keep ((Only.refl _ _).alloc _)⟩, (Only.refl _ _).alloc _⟩
  · rw [if_neg hs]
    rcases t with _ | _ | _ | _ | _
    · obtain rfl : v = .nilIface := h
      refine (fwrap_nil w s).mono ?_
      rintro e w' ⟨rfl, rfl⟩
      exact ⟨_, rfl, rfl, Only.refl _ _⟩
    all_goals exact absurd rfl hs
theorem new_tr (w : World) (av : Option Nat) (c : Int) (s : ByteArray) :
    Calls Tryd.prog 23 #[.int .i64 c, .string s] w fun e w' => ∃ u, e = .returned u ∧ TrAt w' av (if c = 0 then .none else .root c s) u ∧ Only (fun _ => False) w w' := by
  by_cases hc : c = 0
  · subst hc
    rw [if_pos rfl]
    refine (fnew_ok w s).mono ?_
    rintro e w' ⟨rfl, rfl⟩
    exact ⟨_, rfl, rfl, Only.refl _ _⟩
  · rw [if_neg hc]
    refine (fnew_any w c s hc).mono ?_
    rintro e w' ⟨rfl, rfl⟩
    exact ⟨_, rfl, ⟨w.heap.size, rfl, Has.new _ _ _⟩, (Only.refl _ _).alloc _⟩
theorem Tryd.info_err01 : (Tryd.prog.info? 32).map (fun i => (i.zero, i.size, i.bytes)) = some (some .nilIface, 1, 16) := by kernel_rfl
theorem own_made1 (w : World) (n : Nat) : (w.alloc (.cells #[.nilIface, .nilIface] 32)).ownsRow w.heap.size 32 1 (.slice (some ⟨w.heap.size, 0, none⟩) 0 2) 0 [] :=
  ⟨rfl, .inr ⟨_, _, _, rfl, Nat.le_refl _, Has.new w 32 #[.nilIface, .nilIface], by decide, by decide, rfl, rfl⟩⟩
theorem own_two {w : World} {base : Nat} {v : Value} {u1 u2 : Value} (h : w.ownsRow base 32 1 v 2 [u1, u2]) : ∃ g m, v = .slice (some ⟨g, 0, none⟩) 2 m ∧ Two w g u1 u2 ∧ base ≤ g := by
  rcases h.2 with ⟨rfl, h0⟩ | ⟨g, cap, cur, rfl, hb, hh, h1, h2, h3, h4⟩
  · cases h0
  · refine ⟨g, cap, rfl, ⟨cur, hh, ?_, ?_⟩, hb⟩
    · have := congrArg (·[0]?) h4
      simpa [List.getElem?_take] using this
    · have := congrArg (·[1]?) h4
      simpa [List.getElem?_take] using this
set_option maxRecDepth 100000 in
set_option maxHeartbeats 2000000 in
theorem join_two (w : World) (n : Nat) (T1 T2 : TypeId) (x1 x2 : Value) (hg : Has w n 32 #[.iface T1 x1, .iface T2 x2]) :
    Calls Tryd.prog 35 #[.slice (some ⟨n, 0, none⟩) 2 2] w fun e w' => (∃ b g m, e = .returned (pj b) ∧ Has w' b 93 #[.slice (some ⟨g, 0, none⟩) 2 m] ∧ Two w' g (.iface T1 x1) (.iface T2 x2) ∧ w.heap.size ≤ g) ∧ Only (fun _ => False) w w' := by
  obtain ⟨i0, hi, hz0, hz1, hz2⟩ := info_parts Tryd.info_err01
  have hmk : ∀ w, (Instr.makeSlice 25 (.int .i64 0) (.int .i64 2)).run Tryd.prog w = .ok (.slice (some ⟨w.heap.size, 0, none⟩) 0 2) (w.alloc (.cells #[.nilIface, .nilIface] 32)) := fun _ => by kernel_rfl
  have c0 : w.cell? ⟨n, 0, none⟩ = some (.iface T1 x1) := hg.cell 0
  have c1 : w.cell? ⟨n, 1, none⟩ = some (.iface T2 x2) := hg.cell 1
  have HG := Lib.hid hg
  have hnl := hg.lt
  clear hg
  go_enter Tryd.func35, Tryd.ntmps35
  go_wp2_with fail
  refine wp_loop_rounds 3 ?_
  rw [rounds_succ]
  go_wp2_with fail
  rw [rounds_succ]
  go_wp2_with fail
  rw [rounds_succ]
  go_wp2_with fail
  have O0 := Lib.hid (((Only.refl (fun _ => False) w).alloc (.cells #[.nilIface, .nilIface] 32)).alloc (.cells #[.slice (some ⟨w.heap.size, 0, none⟩) 0 2] 93))
  have W0 := Lib.hid ((own_made1 w 0).alloc (.cells #[.slice (some ⟨w.heap.size, 0, none⟩) 0 2] 93))
  have hB0 : Has ((w.alloc (.cells #[.nilIface, .nilIface] 32)).alloc (.cells #[.slice (some ⟨w.heap.size, 0, none⟩) 0 2] 93)) (w.heap.size + 1) 93 #[.slice (some ⟨w.heap.size, 0, none⟩) 0 2] := by
    have := Has.new (w.alloc (.cells #[.nilIface, .nilIface] 32)) 93 #[.slice (some ⟨w.heap.size, 0, none⟩) 0 2]
    rwa [show (w.alloc (.cells #[.nilIface, .nilIface] 32)).heap.size = w.heap.size + 1 by simp] at this
  have LO := Lib.hid (show w.heap.size ≤ ((w.alloc (.cells #[.nilIface, .nilIface] 32)).alloc (.cells #[.slice (some ⟨w.heap.size, 0, none⟩) 0 2] 93)).heap.size by simp; omega)
  have G0 := O0.out.has HG.out (fun f => f)
  generalize (w.alloc (.cells #[.nilIface, .nilIface] 32)).alloc (.cells #[.slice (some ⟨w.heap.size, 0, none⟩) 0 2] 93) = W at *
  have d0 : W.cell? ⟨n, 0, none⟩ = some (.iface T1 x1) := G0.cell 0
  have b0 := hB0.cell 0
  have bf := hB0.free 0
  have BB := Lib.hid hB0
  have GG := Lib.hid G0
  clear hB0 G0 c0 c1
  refine wp_loop_rounds 3 ?_
  rw [rounds_succ]
  go_wp2_with (at_builtin; go_must (refine wpList_append_own_at _ rfl _ _ 25 rfl w.heap.size 32 i0 .nilIface 1 16 Tryd.underlying25 hi hz0 hz1 hz2 rfl (by decide) _ 0 [] ?hs (W0.out.alloc _) ⟨W.heap.size, 0, none⟩ 1 1 [.iface T1 x1] ?hx rfl (cell_one_new _ _ _) ?c2 ?c3 ?c4 ?c5 ?_); (case hs => rfl); (case hx => rfl); (case c2 => intro y hy; obtain rfl := List.mem_singleton.1 hy; rfl); (case c3 => decide); (case c4 => decide); (case c5 => have := LO.out; simp; omega); intro v1 w1 ho1 hg1 _ hat1; obtain ⟨A1, d1, hv1⟩ := own_shape ho1; subst hv1; have hB1 := Has.grown (BB.out.alloc _) hg1 (fun e => own_apart W0.out BB.out (by decide) e.symm); have b10 := hB1.cell 0; have b1f := hB1.free 0)
  have O1 := Lib.hid (Only.setCell (Only.grown (O0.out.alloc _) hg1 (fun q e hq => by have := own_low W0.out e; omega)) ⟨w.heap.size + 1, 0, none⟩ (.slice A1 (0 + 1) d1) (fun hh => by have hh : w.heap.size + 1 < w.heap.size := hh; omega))
  have W1 := Lib.hid (ownsRow_setCell_other ho1 (a := ⟨w.heap.size + 1, 0, none⟩) (own_apart ho1 hB1 (by decide)) (.slice A1 (0 + 1) d1))
  have B1 := Lib.hid (hB1.put 0 (.slice A1 (0 + 1) d1) rfl)
  have LO1 := Lib.hid (show w.heap.size ≤ (w1.setCell ⟨w.heap.size + 1, 0, none⟩ (.slice A1 (0 + 1) d1)).heap.size by have := hg1.size; have := LO.out; simp [World.setCell] at *; omega)
  simp only [Nat.zero_add] at *
  generalize w1.setCell ⟨w.heap.size + 1, 0, none⟩ (.slice A1 1 d1) = W2 at *
  have e1 : W2.cell? ⟨n, 1, none⟩ = some (.iface T2 x2) := (O1.out.has HG.out (fun f => f)).cell 1
  have b2 := B1.out.cell 0
  have bf2 := B1.out.free 0
  clear b10 b1f hB1 ho1 hg1 hat1 b0 bf d0 BB W0 O0
  rw [rounds_succ]
  go_wp2_with (at_builtin; go_must (refine wpList_append_own_at _ rfl _ _ 25 rfl w.heap.size 32 i0 .nilIface 1 16 Tryd.underlying25 hi hz0 hz1 hz2 rfl (by decide) _ 1 [.iface T1 x1] ?hs (W1.out.alloc _) ⟨W2.heap.size, 0, none⟩ 1 1 [.iface T2 x2] ?hx rfl (cell_one_new _ _ _) ?c2 ?c3 ?c4 ?c5 ?_); (case hs => rfl); (case hx => rfl); (case c2 => intro y hy; obtain rfl := List.mem_singleton.1 hy; rfl); (case c3 => decide); (case c4 => decide); (case c5 => have := LO1.out; simp; omega); intro v3 w3 ho3 hg3 _ hat3; obtain ⟨A3, d3, hv3⟩ := own_shape ho3; subst hv3; have hB3 := Has.grown (B1.out.alloc _) hg3 (fun e => own_apart W1.out B1.out (by decide) e.symm); have b30 := hB3.cell 0; have b3f := hB3.free 0)
  have O3 := Lib.hid (Only.setCell (Only.grown (O1.out.alloc _) hg3 (fun q e hq => by have := own_low W1.out e; omega)) ⟨w.heap.size + 1, 0, none⟩ (.slice A3 (1 + 1) d3) (fun hh => by have hh : w.heap.size + 1 < w.heap.size := hh; omega))
  have W3 := Lib.hid (ownsRow_setCell_other ho3 (a := ⟨w.heap.size + 1, 0, none⟩) (own_apart ho3 hB3 (by decide)) (.slice A3 (1 + 1) d3))
  have B3 := Lib.hid (hB3.put 0 (.slice A3 (1 + 1) d3) rfl)
  clear b30 b3f hB3 ho3 hg3 hat3 e1 b2 bf2
  generalize w3.setCell ⟨w.heap.size + 1, 0, none⟩ (.slice A3 (1 + 1) d3) = W4 at *
  rw [rounds_succ]
  go_wp2_with fail
  go_ret
  obtain ⟨g, m, e, ht, hle⟩ := own_two W3.out
  have hb4 := B3.out
  rw [e] at hb4
  exact ⟨⟨_, g, m, rfl, hb4, ht, hle⟩, O3.out⟩
theorem both_tr (x y : Tr) (w : World) (av : Option Nat) (u v : Value) (hx : TrAt w av x u) (hy : TrAt w av y v) (hav : ∀ k, av = some k → k < w.heap.size) :
    Calls Tryd.prog 25 #[u, v] w fun e w' => ∃ z, e = .returned z ∧ TrAt w' av (if x.some = true then (if y.some = true then .both x y else x) else y) z ∧ Only (fun _ => False) w w' := by
  by_cases h1 : x.some = true
  · rw [if_pos h1]
    by_cases h2 : y.some = true
    · rw [if_pos h2]
      have H1 := Lib.hid h1
      have H2 := Lib.hid h2
      obtain ⟨T1, x1, rfl⟩ := hx.iface h1
      obtain ⟨T2, x2, rfl⟩ := hy.iface h2
      have HX := Lib.hid hx
      have HY := Lib.hid hy
      have HA := Lib.hid hav
      have HJ := Lib.hid (join_two (w.alloc (.cells #[.iface T1 x1, .iface T2 x2] 32)) w.heap.size T1 T2 x1 x2 (Has.new _ _ _))
      clear h1 h2 hx hy hav
      go_enter Tryd.func25, Tryd.ntmps25
      go_wp2_with fail
      refine (HJ.out).mono ?_
      rintro e w2 ⟨⟨b, g, m, rfl, hb, ht, hg⟩, o2⟩
      have o3 : Only (fun _ => False) w w2 := ((Only.refl _ _).alloc _).trans o2
      have R := Lib.hid (show TrAt w2 av (.both x y) (pj b) from ⟨b, g, m, _, _, rfl, hb, ht, fun e => by have := HA.out g e.symm; simp at hg; omega, H1.out, H2.out, HX.out.keep o3, HY.out.keep o3⟩)
      have O3 := Lib.hid o3
      clear hb ht hg o2 o3
      unfold pj at R ⊢
      go_wp2_with fail
      go_ret
      exact ⟨_, rfl, R.out, O3.out⟩
    · rw [if_neg h2]
      obtain ⟨T1, x1, rfl⟩ := hx.iface h1
      obtain rfl : v = .nilIface := by
        rcases y with _ | _ | _ | _ | _
        · exact hy
        all_goals exact absurd rfl h2
      have HX := Lib.hid hx
      clear hx hy h1 h2
      go_enter Tryd.func25, Tryd.ntmps25
      go_wp2_with fail
      go_ret
      exact ⟨_, rfl, HX.out, Only.refl _ _⟩
  · rw [if_neg h1]
    obtain rfl : u = .nilIface := by
      rcases x with _ | _ | _ | _ | _
      · exact hx
      all_goals exact absurd rfl h1
    have HY := Lib.hid hy
    clear hx hy h1
    go_enter Tryd.func25, Tryd.ntmps25
    go_wp2_with fail
    go_ret
    exact ⟨_, rfl, HY.out, Only.refl _ _⟩
end Go.Proofs.YthagbbeppklpmaaDoor
