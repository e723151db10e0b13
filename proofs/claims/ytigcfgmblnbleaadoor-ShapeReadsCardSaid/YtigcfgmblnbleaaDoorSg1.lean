/- The reference's Get where the class may be. -/
import Derived.Test.YtigcfgmblnbleaaDoorSgg
set_option linter.unusedSimpArgs false
set_option linter.unusedVariables false
namespace Go.Proofs.YtigcfgmblnbleaaDoor
open Go.RowKit

set_option maxRecDepth 100000 in
set_option maxHeartbeats 1500000 in
theorem qget_ok (w : World) (s : ByteArray) (hs : s.size ≤ 140737488351232) (h5 : ¬ s.size < 5) (hck : (rawC s).check = 0) : Calls Tryd.prog 30 #[.agg #[.string s, .int .i64 0, .int .i64 0]] w fun x w' =>
    ∃ a, x = .returned (.tuple #[.agg #[.string s, .int .i64 a, .int .i64 (getE s)], .agg (getC s).1.cells]) ∧ Only (fun _ => False) w w' := by
  obtain ⟨i0, hi, hz0, hz1, hz2⟩ := info_parts Tryd.info_int
  have HN := Lib.hid (fun k W => qnumber_any W s k hs)
  have HX := fun W => srcheck_any W (rawC s)
  have HXF := fun W a c => qfailed_any W s a 0 c
  have hq0 : qA s 0 = 0 ∧ qE s 0 = 0 := by unfold qA qE; rw [if_pos (Nat.zero_le _), if_pos (Nat.zero_le _)]; exact ⟨rfl, rfl⟩
  have HQ := Lib.hid hq0
  clear hq0
  have B1 : QAt (((w.alloc (.cells #[.string s, .int .i64 0, .int .i64 0] 51)).alloc (.cells #[.string ⟨#[]⟩, .int .i64 0, .int .i64 0] 51)).alloc (.cells #[.int .i64 0, .int .i64 0, .int .i64 0, .int .i64 0, .int .i64 0] 23)) w.heap.size s 0 0 := ((Has.new w _ _).alloc _).alloc _
  have B2 : QAt (((w.alloc (.cells #[.string s, .int .i64 0, .int .i64 0] 51)).alloc (.cells #[.string ⟨#[]⟩, .int .i64 0, .int .i64 0] 51)).alloc (.cells #[.int .i64 0, .int .i64 0, .int .i64 0, .int .i64 0, .int .i64 0] 23)) (w.heap.size + 1) ⟨#[]⟩ 0 0 := (has_new2 w _ _ _).alloc _
  have B3 : CAt (((w.alloc (.cells #[.string s, .int .i64 0, .int .i64 0] 51)).alloc (.cells #[.string ⟨#[]⟩, .int .i64 0, .int .i64 0] 51)).alloc (.cells #[.int .i64 0, .int .i64 0, .int .i64 0, .int .i64 0, .int .i64 0] 23)) (w.heap.size + 2) 0 0 0 0 0 := by
    have h := has_new2 (w.alloc (.cells #[.string s, .int .i64 0, .int .i64 0] 51)) (.cells #[.string ⟨#[]⟩, .int .i64 0, .int .i64 0] 51) 23 #[.int .i64 0, .int .i64 0, .int .i64 0, .int .i64 0, .int .i64 0]
    rwa [show (w.alloc (.cells #[.string s, .int .i64 0, .int .i64 0] 51)).heap.size + 1 = w.heap.size + 2 by simp] at h
  have O3 : Only (fun _ => False) w (((w.alloc (.cells #[.string s, .int .i64 0, .int .i64 0] 51)).alloc (.cells #[.string ⟨#[]⟩, .int .i64 0, .int .i64 0] 51)).alloc (.cells #[.int .i64 0, .int .i64 0, .int .i64 0, .int .i64 0, .int .i64 0] 23)) := (((Only.refl _ _).alloc _).alloc _).alloc _
  have L3 := Lib.hid (show (((w.alloc (.cells #[.string s, .int .i64 0, .int .i64 0] 51)).alloc (.cells #[.string ⟨#[]⟩, .int .i64 0, .int .i64 0] 51)).alloc (.cells #[.int .i64 0, .int .i64 0, .int .i64 0, .int .i64 0, .int .i64 0] 23)).heap.size = w.heap.size + 3 by simp)
  go_enter Tryd.func30, Tryd.ntmps30
  go_wp2_with fail
  go_loopw [4, 5, 6, 7] (fun u i x y W => ∃ (k : Nat) (u0 : Value), k ≤ 5 ∧ i = .int .i64 k ∧ u0 = u ∧ W.ownsRow (w.heap.size + 3) 3 1 u0 k (niV s k) ∧ w.heap.size + 3 ≤ W.heap.size ∧ QAt W w.heap.size s (qA s k) (qE s k) ∧ QAt W (w.heap.size + 1) ⟨#[]⟩ 0 0 ∧ CAt W (w.heap.size + 2) 0 0 0 0 0 ∧ Only (fun _ => False) w W) (fun _ i _ _ _ => 5 - (intOf i).toNat)
  case atStart => exact ⟨0, _, by omega, rfl, rfl, World.ownsRow_nil _ _ _ _, by rw [L3.out]; exact Nat.le_refl _, by rw [HQ.out.1, HQ.out.2]; exact B1, B2, B3, O3⟩
  case round =>
    obtain ⟨k, u, hk, rfl, rfl, hown, hlow, Q1, Q2, C3, ho⟩ := hrel
    have hk' : k < 5 ∨ k = 5 := by omega
    rcases hk' with hk5 | rfl
    · have hk1 : (k : Int) < 5 := by omega
      obtain ⟨c0, c1, c2⟩ := q_facts Q1
      obtain ⟨n0, n1⟩ := nv_range s k
      have hwn : IntKind.i64.wrap (nv s k) = nv s k := by rw [IntKind.wrap_i64]; omega
      have HS := Lib.hid (niV_succ s k)
      have HNK := Lib.hid (HN.out k)
      generalize qA s k = a at *
      generalize qE s k = e at *
      generalize nv s k = n at *
      go_wp2_with fail
      refine (HNK.out _).mono ?_; rintro x w2 ⟨rfl, o2⟩
      have own2 := o2.own hown (fun _ _ f => f)
      have P1 := o2.has Q1 (fun f => f)
      have P2 := o2.has Q2 (fun f => f)
      have P3 := o2.has C3 (fun f => f)
      have OO := ho.trans o2
      have hlow2 := Nat.le_trans hlow o2.size
      clear c0 c1 c2 Q1 Q2 C3 ho hown
      have P6 : QAt (w2.alloc (.cells #[.string s, .int .i64 (qA s (k + 1)), .int .i64 (qE s (k + 1))] 51)) w2.heap.size s (qA s (k + 1)) (qE s (k + 1)) := Has.new _ _ _
      generalize hA1 : qA s (k + 1) = a1 at *
      generalize hE1 : qE s (k + 1) = e1 at *
      have HA1 := Lib.hid hA1
      have HE1 := Lib.hid hE1
      clear hA1 hE1
      have HOWN := Lib.hid own2
      go_wp2_with (at_builtin; go_must (refine wpList_append_own_at _ rfl _ _ 26 rfl (w.heap.size + 3) 3 i0 (.int .i64 0) 1 8 Tryd.underlying26 hi hz0 hz1 hz2 rfl (by decide) u k (niV s k) ?hs0 ((own2.alloc _).alloc _) ⟨w2.heap.size + 1, 0, none⟩ 1 1 [_] ?hx0 rfl (cell_two_new _ _ _ _) ?c20 ?c30 ?c40 ?c50 ?_); (case hs0 => rfl); (case hx0 => rfl); (case c20 => intro y hy; obtain rfl := List.mem_singleton.1 hy; rfl); (case c30 => unfold maxLen; omega); (case c40 => omega); (case c50 => simp; omega); intro v1 w1 ho1 hg1 _ hat1; (have hO : ∀ j, u.ownBlock = some j → w.heap.size + 3 ≤ j := fun j e => own_ge HOWN.out e); (have T1 : QAt w1 w.heap.size s a e := Has.grown ((P1.alloc _).alloc _) hg1 (fun q => by have := hO _ q.symm; omega)); (have T2 : QAt w1 (w.heap.size + 1) ⟨#[]⟩ 0 0 := Has.grown ((P2.alloc _).alloc _) hg1 (fun q => by have := hO _ q.symm; omega)); (have T3 : CAt w1 (w.heap.size + 2) 0 0 0 0 0 := Has.grown ((P3.alloc _).alloc _) hg1 (fun q => by have := hO _ q.symm; omega)); (have T6 : QAt w1 w2.heap.size s a1 e1 := Has.grown (P6.alloc _) hg1 (fun q => own_apart (HOWN.out.alloc _) P6 (by decide) q.symm)); (have TO := Only.grown ((OO.alloc _).alloc _) hg1 (fun j q hj => by have := hO _ q; omega)); (obtain ⟨y0, y1, y2, yf⟩ := Has.facts3 T1); (obtain ⟨x0, x1, x2, xf⟩ := Has.facts3 T6))
      have hO1 : ∀ j, v1.ownBlock = some j → w.heap.size + 3 ≤ j := fun j e => own_ge ho1 e
      have ho2 := ownsRow_setCell_other (ownsRow_setCell_other (ownsRow_setCell_other ho1 (a := ⟨w.heap.size, 0, none⟩) (fun q => by have : w.heap.size + 3 ≤ w.heap.size := hO1 _ q; omega) (.string s)) (a := ⟨w.heap.size, 1, none⟩) (fun q => by have : w.heap.size + 3 ≤ w.heap.size := hO1 _ q; omega) (.int .i64 a1)) (a := ⟨w.heap.size, 2, none⟩) (fun q => by have : w.heap.size + 3 ≤ w.heap.size := hO1 _ q; omega) (.int .i64 e1)
      have U1 : QAt (((w1.setCell ⟨w.heap.size, 0, none⟩ (.string s)).setCell ⟨w.heap.size, 1, none⟩ (.int .i64 a1)).setCell ⟨w.heap.size, 2, none⟩ (.int .i64 e1)) w.heap.size s a1 e1 := Has.put3 T1 rfl _ _ _
      have U2 : QAt (((w1.setCell ⟨w.heap.size, 0, none⟩ (.string s)).setCell ⟨w.heap.size, 1, none⟩ (.int .i64 a1)).setCell ⟨w.heap.size, 2, none⟩ (.int .i64 e1)) (w.heap.size + 1) ⟨#[]⟩ 0 0 := Has.off3 T2 (by omega) _ _ _
      have U3 : CAt (((w1.setCell ⟨w.heap.size, 0, none⟩ (.string s)).setCell ⟨w.heap.size, 1, none⟩ (.int .i64 a1)).setCell ⟨w.heap.size, 2, none⟩ (.int .i64 e1)) (w.heap.size + 2) 0 0 0 0 0 := Has.off3 T3 (by omega) _ _ _
      have UO := TO.then_ (Only.put3 w1 w.heap.size (.string s) (.int .i64 a1) (.int .i64 e1)) (fun i hi e => absurd hi (by have : i = w.heap.size := e; omega))
      have HU := Lib.hid (And.intro ho2 (And.intro U1 (And.intro U2 (And.intro U3 UO))))
      have HSZ := Lib.hid (show w.heap.size + 3 ≤ (((w1.setCell ⟨w.heap.size, 0, none⟩ (.string s)).setCell ⟨w.heap.size, 1, none⟩ (.int .i64 a1)).setCell ⟨w.heap.size, 2, none⟩ (.int .i64 e1)).heap.size by have := hg1.size; simp [World.setCell] at this ⊢; omega)
      clear y0 y1 y2 x0 x1 x2
      clear ho2 U1 U2 U3 UO T1 T2 T3 T6 TO hO hO1 P1 P2 P3 P6 OO own2 hat1
      go_wp2_with fail
      go_roundw
      case rel => exact ⟨k + 1, _, by omega, by go_num, rfl, by rw [HS.out]; exact HU.out.1, HSZ.out, by rw [HA1.out, HE1.out]; exact HU.out.2.1, HU.out.2.2.1, HU.out.2.2.2.1, HU.out.2.2.2.2⟩
      case measure => simp only [intOf]; omega
    · obtain ⟨z0, z1, z2, zf⟩ := Has.facts3 Q2
      obtain ⟨d0, d1, d2, d3, d4, df⟩ := Has.facts5 C3
      have Q1' := Q1
      obtain ⟨q0, q1, q2, qf⟩ := Has.facts3 Q1
      · obtain ⟨x, hxe⟩ : ∃ x, (rawC s).check = x := ⟨_, rfl⟩
        have HE := Lib.hid (show getE s = x by unfold getE; rw [if_neg h5, hxe])
        have HG0 := Lib.hid (show x = 0 → (getC s).1 = rawC s from fun h => by unfold getC; rw [if_neg h5, if_pos (hxe.trans h)])
        have HG1 := Lib.hid (show x ≠ 0 → (getC s).1 = zc from fun h => by unfold getC; rw [if_neg h5, if_neg (fun e => h (hxe.symm.trans e))])
        simp only [hxe] at HX
        rw [hxe] at hck
        have hx := hck
        clear hxe hck
        have e5 : qE s 5 = 0 := by unfold qE; rw [if_pos (by omega)]
        rw [e5] at q2 Q1'
        clear h5 e5 Q1
        generalize qA s 5 = a at *
        rcases hown.2 with ⟨_, h0⟩ | ⟨g, cap, cur, rfl, hg, hh, hnc, hcm, hcs, htk⟩
        · cases h0
        have y0 : wr.cell? ⟨g, 0, none⟩ = some (.int .i64 (nv s 0)) := hown.cells (g := g) rfl 0 (.int .i64 (nv s 0)) rfl
        have y1 : wr.cell? ⟨g, 1, none⟩ = some (.int .i64 (nv s 1)) := hown.cells (g := g) rfl 1 (.int .i64 (nv s 1)) rfl
        have y2 : wr.cell? ⟨g, 2, none⟩ = some (.int .i64 (nv s 2)) := hown.cells (g := g) rfl 2 (.int .i64 (nv s 2)) rfl
        have y3 : wr.cell? ⟨g, 3, none⟩ = some (.int .i64 (nv s 3)) := hown.cells (g := g) rfl 3 (.int .i64 (nv s 3)) rfl
        have y4 : wr.cell? ⟨g, 4, none⟩ = some (.int .i64 (nv s 4)) := hown.cells (g := g) rfl 4 (.int .i64 (nv s 4)) rfl
        have hgl := lt_of_block hh
        simp only [rawC, Cl.cells] at HX
        clear hown htk hcs hcm hnc hh
        have HXX := Lib.hid HX
        have HFF := Lib.hid (HXF · a x)
        clear HX HXF
        go_wp2_with fail
        go_region
        have Q8 : QAt (wr.alloc (.cells #[.int .i64 (nv s 0), .int .i64 (nv s 1), .int .i64 (nv s 2), .int .i64 (nv s 3), .int .i64 (nv s 4)] 23)).drew w.heap.size s a 0 := (Q1'.alloc _).drew
        have R8 : QAt (wr.alloc (.cells #[.int .i64 (nv s 0), .int .i64 (nv s 1), .int .i64 (nv s 2), .int .i64 (nv s 3), .int .i64 (nv s 4)] 23)).drew (w.heap.size + 1) ⟨#[]⟩ 0 0 := (Q2.alloc _).drew
        have D8 : CAt (wr.alloc (.cells #[.int .i64 (nv s 0), .int .i64 (nv s 1), .int .i64 (nv s 2), .int .i64 (nv s 3), .int .i64 (nv s 4)] 23)).drew (w.heap.size + 2) 0 0 0 0 0 := (C3.alloc _).drew
        have C8 : CAt (wr.alloc (.cells #[.int .i64 (nv s 0), .int .i64 (nv s 1), .int .i64 (nv s 2), .int .i64 (nv s 3), .int .i64 (nv s 4)] 23)).drew wr.heap.size (nv s 0) (nv s 1) (nv s 2) (nv s 3) (nv s 4) := (Has.new _ _ _).drew
        have O8 := (ho.alloc (.cells #[.int .i64 (nv s 0), .int .i64 (nv s 1), .int .i64 (nv s 2), .int .i64 (nv s 3), .int .i64 (nv s 4)] 23)).drew
        generalize wr.heap.size = b8 at *
        generalize (wr.alloc (.cells #[.int .i64 (nv s 0), .int .i64 (nv s 1), .int .i64 (nv s 2), .int .i64 (nv s 3), .int .i64 (nv s 4)] 23)).drew = w8 at *
        clear z0 z1 z2 zf d0 d1 d2 d3 d4 df q0 q1 q2 qf y0 y1 y2 y3 y4 Q1' Q2 C3 ho
        obtain ⟨c0, c1, c2, c3, c4⟩ := cl_facts C8
        go_wp2_with fail
        refine (HXX.out _).mono ?_; rintro e w9 ⟨rfl, o9⟩
        have Q9 := o9.has Q8 (fun f => f)
        have R9 := o9.has R8 (fun f => f)
        have D9 := o9.has D8 (fun f => f)
        have C9 := o9.has C8 (fun f => f)
        have O9 := O8.trans o9
        clear c0 c1 c2 c3 c4 Q8 R8 D8 C8 O8
        · subst hx
          obtain ⟨c0, c1, c2, c3, c4⟩ := cl_facts C9
          obtain ⟨q0, q1, q2, qf⟩ := Has.facts3 Q9
          obtain ⟨z0, z1, z2, zf⟩ := Has.facts3 R9
          obtain ⟨d0, d1, d2, d3, d4, df⟩ := Has.facts5 D9
          go_wp2_with fail
          go_region
          all_goals
            go_wp2_with fail
            refine bodyPost_ret (v := .tuple #[.agg #[.string s, .int .i64 a, .int .i64 0], .agg #[.int .i64 (nv s 0), .int .i64 (nv s 1), .int .i64 (nv s 2), .int .i64 (nv s 3), .int .i64 (nv s 4)]]) ?hr rfl ?hp
            case hr => exact res_gg (b := w.heap.size + 1) (g := w.heap.size + 2) (Has.off5 (Has.put3 R9 rfl _ _ _) (by omega) _ _ _ _ _).drew (Has.put5 (Has.off3 D9 (by omega) _ _ _) rfl _ _ _ _ _).drew rfl rfl
            case hp =>
              rw [HE.out, HG0.out (by simp)]
              refine ⟨a, rfl, ?_⟩
              exact ((O9.then_ (Only.put3 _ (w.heap.size + 1) _ _ _) (fun i hi e => absurd hi (by have : i = w.heap.size + 1 := e; omega))).then_ (Only.put5 _ (w.heap.size + 2) _ _ _ _ _) (fun i hi e => absurd hi (by have : i = w.heap.size + 2 := e; omega))).drew
end Go.Proofs.YtigcfgmblnbleaaDoor
