/- Chapter 1: the law's made. Printed by gen_mk.py. -/
import Derived.Test.YthagbbeppklpmaaDoorEm
import Derived.Deep.DeepCutAuto
import Derived.Deep.CutBlock
set_option linter.unusedSimpArgs false
set_option linter.unusedVariables false
namespace Go.Proofs.YthagbbeppklpmaaDoor
open Go.RowKit

set_option maxRecDepth 100000 in
set_option maxHeartbeats 8000000 in
theorem made_any (w : World) (v : Value) (l : List Nd) (hv : SlN w v l) (hn : l.length ≤ 1000000) :
    Calls Tryd.prog 8 #[v] w fun e w' => ∃ u vs, e = .returned u ∧ w'.ownsRow w.heap.size 32 1 u l.length vs ∧ AllT w' u.ownBlock (madeT l) vs ∧ Only (fun _ => False) w w' := by
  obtain ⟨A, c, rfl, hA⟩ := hv
  obtain ⟨i0, hi, hz0, hz1, hz2⟩ := info_parts Tryd.info_err01
  have HA := Lib.hid hA
  clear hA
  go_enter Tryd.func8, Tryd.ntmps8
  go_wp2_with fail
  go_loopg [3, 4] l.length (fun g s i W => ∃ (k : Nat) (u : Value) (vs : List Value), g = l.length - k ∧ k ≤ l.length ∧ i = .int .i64 k ∧ s = u ∧ W.ownsRow w.heap.size 32 1 u k vs ∧ AllT W u.ownBlock (madeT (l.take k)) vs ∧ Only (fun _ => False) w W)
  case atStart => exact ⟨0, _, [], rfl, by omega, rfl, rfl, World.ownsRow_nil _ _ _ _, ⟨rfl, fun j t v h _ => by cases h⟩, Only.refl _ _⟩
  case round =>
    obtain ⟨k, u, vs, hgk, hk, rfl, rfl, hown, hall, ho⟩ := hrel
    have hlow := ho.size
    obtain ⟨A0, d0, he0⟩ := own_shape hown
    subst he0
    have HGK := Lib.hid hgk
    clear hgk
    by_cases hlt : k < l.length
    · obtain ⟨ad, rfl, x0, x1, x2, x3, x4⟩ := HA.out k hlt
      have c0 := ho.cell x0 (fun f => f)
      have c1 := row_cell (by decide) (ho.cell x1 (fun f => f))
      have c2 := row_cell (by decide) (ho.cell x2 (fun f => f))
      have c3 := row_cell (by decide) (ho.cell x3 (fun f => f))
      have c4 := row_cell (by decide) (ho.cell x4 (fun f => f))
      have hk0 : (0 : Int) ≤ (k : Int) := by omega
      have hk1 : (k : Int) < (l.length : Int) := by omega
      have HT := Lib.hid (madeT_take l k hlt)
      clear x0 x1 x2 x3 x4
      generalize l[k] = s at *
      obtain ⟨va, hva, ra⟩ := hall.at_ hown s.a
      obtain ⟨vb, hvb, rb⟩ := hall.at_ hown s.b
      generalize hts : madeT (l.take k) = ts at *
      clear hts
      rcases s with ⟨kd, cd, wh, xa, xb⟩
      simp only at c0 c1 c2 c3 c4 ra rb hva hvb
      have oB : Only (fun _ => False) wr (wr.alloc (.cells #[.int .i64 kd, .int .i64 cd, .string wh, .int .i64 xa, .int .i64 xb] 55)) := (Only.refl _ _).alloc _
      have HO := Lib.hid (ho.trans oB)
      have HOWN := Lib.hid (oB.own hown (fun _ _ f => f))
      have HALL := Lib.hid (hall.keep oB)
      have HVA := Lib.hid (hva.keep oB)
      have HVB := Lib.hid (hvb.keep oB)
      have RA := Lib.hid (inr_of ra oB)
      have RB := Lib.hid (inr_of rb oB)
      have BX := Lib.hid (Has.new wr 55 #[.int .i64 kd, .int .i64 cd, .string wh, .int .i64 xa, .int .i64 xb])
      have LO := Lib.hid (Nat.le_trans hlow oB.size)
      obtain ⟨bA, hbA⟩ := RA.out
      obtain ⟨bB, hbB⟩ := RB.out
      have HBA := Lib.hid hbA
      have HBB := Lib.hid hbB
      clear ho hown hall hva hvb ra rb oB RA RB hlow hbA hbB
      have hkind : kd = 0 ∨ kd = 1 ∨ kd = 2 ∨ kd = 3 ∨ ((kd == 0) = false ∧ (kd == 1) = false ∧ (kd == 2) = false ∧ (kd == 3) = false) := by
        by_cases h0 : kd = 0
        · exact .inl h0
        by_cases h1 : kd = 1
        · exact .inr (.inl h1)
        by_cases h2 : kd = 2
        · exact .inr (.inr (.inl h2))
        by_cases h3 : kd = 3
        · exact .inr (.inr (.inr (.inl h3)))
        · exact .inr (.inr (.inr (.inr (by simp [h0, h1, h2, h3]))))
      have HKIND := Lib.hid hkind
      clear hkind
      go_upto_region 7 with fail
      clear c0 c1 c2 c3 c4
      generalize (wr.alloc (.cells #[.int .i64 kd, .int .i64 cd, .string wh, .int .i64 xa, .int .i64 xb] 55)) = WB at *
      generalize hbn : wr.heap.size = bn at *
      have HBN := Lib.hid hbn
      clear hbn
      have p0 : WB.cell? ⟨bn, 0, none⟩ = some (.int .i64 kd) := BX.out.cell 0
      have p1 : WB.cell? ⟨bn, 1, none⟩ = some (.int .i64 cd) := BX.out.cell 1
      have p2 : WB.cell? ⟨bn, 2, none⟩ = some (.string wh) := BX.out.cell 2
      have p3 : WB.cell? ⟨bn, 3, none⟩ = some (.int .i64 xa) := BX.out.cell 3
      have p4 : WB.cell? ⟨bn, 4, none⟩ = some (.int .i64 xb) := BX.out.cell 4
      go_cut [28] (fun s W => WB = W ∧ s = .bool bA)
      case first =>
        cases bA
        · obtain ⟨-, h0 | ⟨h0, h1⟩⟩ := HBA.out.2 rfl
          all_goals
            go_wp2_with fail
            go_meet
            exact ⟨rfl, rfl⟩
        · obtain ⟨g, j, -, h0, h1, -, -⟩ := HBA.out.1 rfl
          have h2 : (0 : Int) ≤ xa := by omega
          have h3 : xa < (k : Int) := by omega
          clear h0 h1
          go_wp2_with fail
          go_meet
          exact ⟨rfl, rfl⟩
      case rest =>
      obtain ⟨hW, rfl⟩ := hcut
      subst hW
      go_upto_if 28 with fail
      go_cut [6] (fun s W => WB = W ∧ s = va)
      case first =>
        cases bA
        · obtain ⟨e, -⟩ := HBA.out.2 rfl
          have E := Lib.hid e
          clear e
          go_wp2_with fail
          go_meet
          exact ⟨rfl, E.out.symm⟩
        · obtain ⟨g, j, hA0, h0, h1, h2, -⟩ := HBA.out.1 rfl
          subst hA0
          subst h0
          have h3 : (0 : Int) ≤ (j : Int) := by omega
          go_wp2_with fail
          go_meet
          exact ⟨rfl, rfl⟩
      case rest =>
      obtain ⟨hW, rfl⟩ := hcut
      subst hW
      go_upto_region 9 with fail
      go_cut [43] (fun s W => WB = W ∧ s = .bool bB)
      case first =>
        cases bB
        · obtain ⟨-, h0 | ⟨h0, h1⟩⟩ := HBB.out.2 rfl
          all_goals
            go_wp2_with fail
            go_meet
            exact ⟨rfl, rfl⟩
        · obtain ⟨g, j, -, h0, h1, -, -⟩ := HBB.out.1 rfl
          have h2 : (0 : Int) ≤ xb := by omega
          have h3 : xb < (k : Int) := by omega
          clear h0 h1
          go_wp2_with fail
          go_meet
          exact ⟨rfl, rfl⟩
      case rest =>
      obtain ⟨hW, rfl⟩ := hcut
      subst hW
      go_upto_if 43 with fail
      go_cut [7] (fun s W => WB = W ∧ s = vb)
      case first =>
        cases bB
        · obtain ⟨e, -⟩ := HBB.out.2 rfl
          have E := Lib.hid e
          clear e
          go_wp2_with fail
          go_meet
          exact ⟨rfl, E.out.symm⟩
        · obtain ⟨g, j, hA0, h0, h1, h2, -⟩ := HBB.out.1 rfl
          subst hA0
          subst h0
          have h3 : (0 : Int) ≤ (j : Int) := by omega
          go_wp2_with fail
          go_meet
          exact ⟨rfl, rfl⟩
      case rest =>
      obtain ⟨hW, rfl⟩ := hcut
      subst hW
      clear p3 p4
      rcases HKIND.out with rfl | rfl | rfl | rfl | ⟨q0, q1, q2, q3⟩
      · skip
        go_wp2_with fail
        refine (new_tr _ (Value.ownBlock (.slice A0 k d0)) cd wh).mono ?_
        rintro e w2 ⟨z, rfl, hz, oz⟩
        have HZF := hz.form
        have oo : Only (fun _ => False) WB w2 := oz
        have OO := Lib.hid (HO.out.trans oo)
        have OW := Lib.hid (oo.own HOWN.out (fun _ _ f => f))
        have AL := Lib.hid (HALL.out.keep oo)
        have LO2 := Lib.hid (Nat.le_trans LO.out oo.size)
        have TE := Lib.hid (show TrAt w2 (Value.ownBlock (.slice A0 k d0)) (stepT ts ⟨0, cd, wh, xa, xb⟩) z from by unfold stepT; exact hz)
        clear oo
        clear hz oz
        rcases HZF with rfl | ⟨TZ, xz, rfl⟩
        · skip
          go_wp2_with (at_builtin; go_must (refine wpList_append_own_at _ rfl _ _ 25 rfl w.heap.size 32 i0 .nilIface 1 16 Tryd.underlying25 hi hz0 hz1 hz2 rfl (by decide) _ k vs ?hs (OW.out.alloc _) ⟨w2.heap.size, 0, none⟩ 1 1 [.nilIface] ?hx rfl (cell_one_new _ _ _) ?c2 ?c3 ?c4 ?c5 ?_); (case hs => rfl); (case hx => rfl); (case c2 => intro y hy; obtain rfl := List.mem_singleton.1 hy; rfl); (case c3 => unfold maxLen; omega); (case c4 => omega); (case c5 => have := LO2.out; simp; omega); intro v1 w1 ho1 hg1 _ hat1; obtain ⟨A1, d1, hv1⟩ := own_shape ho1; subst hv1)
          go_roundg (l.length - (k + 1))
          case rel => exact ⟨k + 1, _, _, rfl, by omega, by go_num, rfl, ho1, by rw [HT.out]; exact AllT.app AL.out TE.out OW.out hg1 hat1, Only.grown (OO.out.alloc _) hg1 (fun q e hq => by have := own_low OW.out e; omega)⟩
          case measure => have := HGK.out; omega
        · skip
          go_wp2_with (at_builtin; go_must (refine wpList_append_own_at _ rfl _ _ 25 rfl w.heap.size 32 i0 .nilIface 1 16 Tryd.underlying25 hi hz0 hz1 hz2 rfl (by decide) _ k vs ?hs (OW.out.alloc _) ⟨w2.heap.size, 0, none⟩ 1 1 [.iface TZ xz] ?hx rfl (cell_one_new _ _ _) ?c2 ?c3 ?c4 ?c5 ?_); (case hs => rfl); (case hx => rfl); (case c2 => intro y hy; obtain rfl := List.mem_singleton.1 hy; rfl); (case c3 => unfold maxLen; omega); (case c4 => omega); (case c5 => have := LO2.out; simp; omega); intro v1 w1 ho1 hg1 _ hat1; obtain ⟨A1, d1, hv1⟩ := own_shape ho1; subst hv1)
          go_roundg (l.length - (k + 1))
          case rel => exact ⟨k + 1, _, _, rfl, by omega, by go_num, rfl, ho1, by rw [HT.out]; exact AllT.app AL.out TE.out OW.out hg1 hat1, Only.grown (OO.out.alloc _) hg1 (fun q e hq => by have := own_low OW.out e; omega)⟩
          case measure => have := HGK.out; omega
      · by_cases hcd : cd = 0
        · subst hcd
          have oo : Only (fun _ => False) WB WB := Only.refl _ _
          have OO := Lib.hid (HO.out.trans oo)
          have OW := Lib.hid (oo.own HOWN.out (fun _ _ f => f))
          have AL := Lib.hid (HALL.out.keep oo)
          have LO2 := Lib.hid (Nat.le_trans LO.out oo.size)
          have TE := Lib.hid (show TrAt WB (Value.ownBlock (.slice A0 k d0)) (stepT ts ⟨1, 0, wh, xa, xb⟩) .nilIface from rfl)
          clear oo
          go_wp2_with (at_builtin; go_must (refine wpList_append_own_at _ rfl _ _ 25 rfl w.heap.size 32 i0 .nilIface 1 16 Tryd.underlying25 hi hz0 hz1 hz2 rfl (by decide) _ k vs ?hs (OW.out.alloc _) ⟨WB.heap.size, 0, none⟩ 1 1 [.nilIface] ?hx rfl (cell_one_new _ _ _) ?c2 ?c3 ?c4 ?c5 ?_); (case hs => rfl); (case hx => rfl); (case c2 => intro y hy; obtain rfl := List.mem_singleton.1 hy; rfl); (case c3 => unfold maxLen; omega); (case c4 => omega); (case c5 => have := LO2.out; simp; omega); intro v1 w1 ho1 hg1 _ hat1; obtain ⟨A1, d1, hv1⟩ := own_shape ho1; subst hv1)
          go_roundg (l.length - (k + 1))
          case rel => exact ⟨k + 1, _, _, rfl, by omega, by go_num, rfl, ho1, by rw [HT.out]; exact AllT.app AL.out TE.out OW.out hg1 hat1, Only.grown (OO.out.alloc _) hg1 (fun q e hq => by have := own_low OW.out e; omega)⟩
          case measure => have := HGK.out; omega
        · have hcd2 : (cd == 0) = false := by simpa using hcd
          have oo : Only (fun _ => False) WB WB := Only.refl _ _
          have OO := Lib.hid (HO.out.trans oo)
          have OW := Lib.hid (oo.own HOWN.out (fun _ _ f => f))
          have AL := Lib.hid (HALL.out.keep oo)
          have LO2 := Lib.hid (Nat.le_trans LO.out oo.size)
          have TE := Lib.hid (show TrAt WB (Value.ownBlock (.slice A0 k d0)) (stepT ts ⟨1, cd, wh, xa, xb⟩) (pn cd) from by unfold stepT; rw [if_neg (show ¬ (1 : Int) = 0 by decide), if_pos rfl, if_neg hcd]; exact rfl)
          clear oo
          clear hcd
          go_wp2_with (at_builtin; go_must (refine wpList_append_own_at _ rfl _ _ 25 rfl w.heap.size 32 i0 .nilIface 1 16 Tryd.underlying25 hi hz0 hz1 hz2 rfl (by decide) _ k vs ?hs (OW.out.alloc _) ⟨WB.heap.size, 0, none⟩ 1 1 [.iface 46 (.int .i64 cd)] ?hx rfl (cell_one_new _ _ _) ?c2 ?c3 ?c4 ?c5 ?_); (case hs => rfl); (case hx => rfl); (case c2 => intro y hy; obtain rfl := List.mem_singleton.1 hy; rfl); (case c3 => unfold maxLen; omega); (case c4 => omega); (case c5 => have := LO2.out; simp; omega); intro v1 w1 ho1 hg1 _ hat1; obtain ⟨A1, d1, hv1⟩ := own_shape ho1; subst hv1)
          go_roundg (l.length - (k + 1))
          case rel => exact ⟨k + 1, _, _, rfl, by omega, by go_num, rfl, ho1, by rw [HT.out]; exact AllT.app AL.out TE.out OW.out hg1 hat1, Only.grown (OO.out.alloc _) hg1 (fun q e hq => by have := own_low OW.out e; omega)⟩
          case measure => have := HGK.out; omega
      · skip
        go_wp2_with fail
        refine (wrap_tr _ _ _ _ wh HVA.out).mono ?_
        rintro e w2 ⟨z, rfl, hz, oz⟩
        have HZF := hz.form
        have oo : Only (fun _ => False) WB w2 := oz
        have OO := Lib.hid (HO.out.trans oo)
        have OW := Lib.hid (oo.own HOWN.out (fun _ _ f => f))
        have AL := Lib.hid (HALL.out.keep oo)
        have LO2 := Lib.hid (Nat.le_trans LO.out oo.size)
        have TE := Lib.hid (show TrAt w2 (Value.ownBlock (.slice A0 k d0)) (stepT ts ⟨2, cd, wh, xa, xb⟩) z from by unfold stepT; exact hz)
        clear oo
        clear hz oz
        rcases HZF with rfl | ⟨TZ, xz, rfl⟩
        · skip
          go_wp2_with (at_builtin; go_must (refine wpList_append_own_at _ rfl _ _ 25 rfl w.heap.size 32 i0 .nilIface 1 16 Tryd.underlying25 hi hz0 hz1 hz2 rfl (by decide) _ k vs ?hs (OW.out.alloc _) ⟨w2.heap.size, 0, none⟩ 1 1 [.nilIface] ?hx rfl (cell_one_new _ _ _) ?c2 ?c3 ?c4 ?c5 ?_); (case hs => rfl); (case hx => rfl); (case c2 => intro y hy; obtain rfl := List.mem_singleton.1 hy; rfl); (case c3 => unfold maxLen; omega); (case c4 => omega); (case c5 => have := LO2.out; simp; omega); intro v1 w1 ho1 hg1 _ hat1; obtain ⟨A1, d1, hv1⟩ := own_shape ho1; subst hv1)
          go_roundg (l.length - (k + 1))
          case rel => exact ⟨k + 1, _, _, rfl, by omega, by go_num, rfl, ho1, by rw [HT.out]; exact AllT.app AL.out TE.out OW.out hg1 hat1, Only.grown (OO.out.alloc _) hg1 (fun q e hq => by have := own_low OW.out e; omega)⟩
          case measure => have := HGK.out; omega
        · skip
          go_wp2_with (at_builtin; go_must (refine wpList_append_own_at _ rfl _ _ 25 rfl w.heap.size 32 i0 .nilIface 1 16 Tryd.underlying25 hi hz0 hz1 hz2 rfl (by decide) _ k vs ?hs (OW.out.alloc _) ⟨w2.heap.size, 0, none⟩ 1 1 [.iface TZ xz] ?hx rfl (cell_one_new _ _ _) ?c2 ?c3 ?c4 ?c5 ?_); (case hs => rfl); (case hx => rfl); (case c2 => intro y hy; obtain rfl := List.mem_singleton.1 hy; rfl); (case c3 => unfold maxLen; omega); (case c4 => omega); (case c5 => have := LO2.out; simp; omega); intro v1 w1 ho1 hg1 _ hat1; obtain ⟨A1, d1, hv1⟩ := own_shape ho1; subst hv1)
          go_roundg (l.length - (k + 1))
          case rel => exact ⟨k + 1, _, _, rfl, by omega, by go_num, rfl, ho1, by rw [HT.out]; exact AllT.app AL.out TE.out OW.out hg1 hat1, Only.grown (OO.out.alloc _) hg1 (fun q e hq => by have := own_low OW.out e; omega)⟩
          case measure => have := HGK.out; omega
      · skip
        go_wp2_with fail
        refine (both_tr _ _ _ _ _ _ HVA.out HVB.out (fun q e => (HOWN.out.lt q e).2)).mono ?_
        rintro e w2 ⟨z, rfl, hz, oz⟩
        have HZF := hz.form
        have oo : Only (fun _ => False) WB w2 := oz
        have OO := Lib.hid (HO.out.trans oo)
        have OW := Lib.hid (oo.own HOWN.out (fun _ _ f => f))
        have AL := Lib.hid (HALL.out.keep oo)
        have LO2 := Lib.hid (Nat.le_trans LO.out oo.size)
        have TE := Lib.hid (show TrAt w2 (Value.ownBlock (.slice A0 k d0)) (stepT ts ⟨3, cd, wh, xa, xb⟩) z from by unfold stepT; exact hz)
        clear oo
        clear hz oz
        rcases HZF with rfl | ⟨TZ, xz, rfl⟩
        · skip
          go_wp2_with (at_builtin; go_must (refine wpList_append_own_at _ rfl _ _ 25 rfl w.heap.size 32 i0 .nilIface 1 16 Tryd.underlying25 hi hz0 hz1 hz2 rfl (by decide) _ k vs ?hs (OW.out.alloc _) ⟨w2.heap.size, 0, none⟩ 1 1 [.nilIface] ?hx rfl (cell_one_new _ _ _) ?c2 ?c3 ?c4 ?c5 ?_); (case hs => rfl); (case hx => rfl); (case c2 => intro y hy; obtain rfl := List.mem_singleton.1 hy; rfl); (case c3 => unfold maxLen; omega); (case c4 => omega); (case c5 => have := LO2.out; simp; omega); intro v1 w1 ho1 hg1 _ hat1; obtain ⟨A1, d1, hv1⟩ := own_shape ho1; subst hv1)
          go_roundg (l.length - (k + 1))
          case rel => exact ⟨k + 1, _, _, rfl, by omega, by go_num, rfl, ho1, by rw [HT.out]; exact AllT.app AL.out TE.out OW.out hg1 hat1, Only.grown (OO.out.alloc _) hg1 (fun q e hq => by have := own_low OW.out e; omega)⟩
          case measure => have := HGK.out; omega
        · skip
          go_wp2_with (at_builtin; go_must (refine wpList_append_own_at _ rfl _ _ 25 rfl w.heap.size 32 i0 .nilIface 1 16 Tryd.underlying25 hi hz0 hz1 hz2 rfl (by decide) _ k vs ?hs (OW.out.alloc _) ⟨w2.heap.size, 0, none⟩ 1 1 [.iface TZ xz] ?hx rfl (cell_one_new _ _ _) ?c2 ?c3 ?c4 ?c5 ?_); (case hs => rfl); (case hx => rfl); (case c2 => intro y hy; obtain rfl := List.mem_singleton.1 hy; rfl); (case c3 => unfold maxLen; omega); (case c4 => omega); (case c5 => have := LO2.out; simp; omega); intro v1 w1 ho1 hg1 _ hat1; obtain ⟨A1, d1, hv1⟩ := own_shape ho1; subst hv1)
          go_roundg (l.length - (k + 1))
          case rel => exact ⟨k + 1, _, _, rfl, by omega, by go_num, rfl, ho1, by rw [HT.out]; exact AllT.app AL.out TE.out OW.out hg1 hat1, Only.grown (OO.out.alloc _) hg1 (fun q e hq => by have := own_low OW.out e; omega)⟩
          case measure => have := HGK.out; omega
      · have n0 : ¬ kd = 0 := by simpa using q0
        have n1 : ¬ kd = 1 := by simpa using q1
        have n2 : ¬ kd = 2 := by simpa using q2
        have n3 : ¬ kd = 3 := by simpa using q3
        have oo : Only (fun _ => False) WB WB := Only.refl _ _
        have OO := Lib.hid (HO.out.trans oo)
        have OW := Lib.hid (oo.own HOWN.out (fun _ _ f => f))
        have AL := Lib.hid (HALL.out.keep oo)
        have LO2 := Lib.hid (Nat.le_trans LO.out oo.size)
        have TE := Lib.hid (show TrAt WB (Value.ownBlock (.slice A0 k d0)) (stepT ts ⟨kd, cd, wh, xa, xb⟩) .nilIface from by unfold stepT; rw [if_neg n0, if_neg n1, if_neg n2, if_neg n3]; exact rfl)
        clear oo
        clear n0 n1 n2 n3
        go_wp2_with (at_builtin; go_must (refine wpList_append_own_at _ rfl _ _ 25 rfl w.heap.size 32 i0 .nilIface 1 16 Tryd.underlying25 hi hz0 hz1 hz2 rfl (by decide) _ k vs ?hs (OW.out.alloc _) ⟨WB.heap.size, 0, none⟩ 1 1 [.nilIface] ?hx rfl (cell_one_new _ _ _) ?c2 ?c3 ?c4 ?c5 ?_); (case hs => rfl); (case hx => rfl); (case c2 => intro y hy; obtain rfl := List.mem_singleton.1 hy; rfl); (case c3 => unfold maxLen; omega); (case c4 => omega); (case c5 => have := LO2.out; simp; omega); intro v1 w1 ho1 hg1 _ hat1; obtain ⟨A1, d1, hv1⟩ := own_shape ho1; subst hv1)
        go_roundg (l.length - (k + 1))
        case rel => exact ⟨k + 1, _, _, rfl, by omega, by go_num, rfl, ho1, by rw [HT.out]; exact AllT.app AL.out TE.out OW.out hg1 hat1, Only.grown (OO.out.alloc _) hg1 (fun q e hq => by have := own_low OW.out e; omega)⟩
        case measure => have := HGK.out; omega
    · obtain rfl : k = l.length := by omega
      rw [List.take_length] at hall
      have HO := Lib.hid ho
      have HOWN := Lib.hid hown
      have HALL := Lib.hid hall
      clear ho hown hall
      go_wp2_with fail
      go_ret
      exact ⟨_, _, rfl, HOWN.out, HALL.out, HO.out⟩
end Go.Proofs.YthagbbeppklpmaaDoor
