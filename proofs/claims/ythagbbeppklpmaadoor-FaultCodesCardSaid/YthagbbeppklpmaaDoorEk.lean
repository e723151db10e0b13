/- Chapter 1: the reference's Text, Path. -/
import Derived.Test.YthagbbeppklpmaaDoorEj
set_option linter.unusedSimpArgs false
set_option linter.unusedVariables false
namespace Go.Proofs.YthagbbeppklpmaaDoor
open Go.RowKit

set_option maxRecDepth 100000 in
set_option maxHeartbeats 4000000 in
theorem rtext_tr : ∀ (t : Tr) (w : World) (v : Value) (l : List Nd) (i : Nat), SlN w v l → NodeT l t i → l.length ≤ 1000000 → t.txt.size ≤ 4611686018427387904 →
    Calls Tryd.prog 13 #[v, .int .i64 i] w fun e w' => e = .returned (.string t.txt) ∧ Only (fun _ => False) w w' := by
  intro t
  induction t with
  | none =>
    rintro w v l i hv ⟨x, hx, h⟩ hl hz
    have HK := Lib.hid (kind_any w v l i hv hl)
    rw [kindN_at hx, show x.kind = 0 from h] at HK
    clear hx h hv hz
    go_enter Tryd.func13, Tryd.ntmps13
    go_wp2_with fail
    refine (HK.out).mono ?_
    rintro e w1 ⟨rfl, rfl⟩
    go_wp2_with fail
    go_ret
    exact ⟨rfl, Only.refl _ _⟩
  | num c =>
    rintro w v l i hv ⟨x, hx, h⟩ hl hz
    have HK := Lib.hid (kind_any w v l i hv hl)
    rw [kindN_at hx, h.1] at HK
    obtain ⟨A, cc, rfl, -⟩ := id hv
    obtain ⟨-, hi, ad, rfl, x0, x1, x2, x3, x4⟩ := hv.at_ hx
    rw [h.2] at x1
    have c1 := row_cell (by decide) x1
    have hi0 : (0 : Int) ≤ (i : Int) := by omega
    have hi1 : (i : Int) < (l.length : Int) := by omega
    clear hx h hv x0 x1 x2 x3 x4 hz
    go_enter Tryd.func13, Tryd.ntmps13
    go_wp2_with fail
    refine (HK.out).mono ?_
    rintro e w1 ⟨rfl, rfl⟩
    go_wp2_with fail
    refine (errno_any _ c).mono ?_
    rintro e w1 ⟨rfl, rfl⟩
    go_wp2_with fail
    go_ret
    exact ⟨rfl, Only.refl _ _⟩
  | root c s =>
    rintro w v l i hv ⟨x, hx, h⟩ hl hz
    have HK := Lib.hid (kind_any w v l i hv hl)
    rw [kindN_at hx, h.1] at HK
    obtain ⟨A, cc, rfl, -⟩ := id hv
    obtain ⟨-, hi, ad, rfl, x0, x1, x2, x3, x4⟩ := hv.at_ hx
    rw [h.2.1] at x1
    rw [h.2.2] at x2
    have c1 := row_cell (by decide) x1
    have c2 := row_cell (by decide) x2
    have hi0 : (0 : Int) ≤ (i : Int) := by omega
    have hi1 : (i : Int) < (l.length : Int) := by omega
    have hz1 : s.size + 2 + (word c).size ≤ 4611686018427387904 := by
      have h : (Tr.root c s).txt.size = s.size + 2 + (word c).size := by
        show (s ++ colon ++ word c).size = _
        rw [ByteArray.size_append, ByteArray.size_append]; rfl
      rw [h] at hz
      exact hz
    have hc1 := fun W => run_string_add_sum (P := Tryd.prog) (w := W) s ⟨#[58, 32]⟩ (by rw [show (⟨#[58, 32]⟩ : ByteArray).size = 2 from rfl]; omega)
    have hc2 := fun W => run_string_add_sum (P := Tryd.prog) (w := W) (s ++ ⟨#[58, 32]⟩) (word c) (by rw [ByteArray.size_append, show (⟨#[58, 32]⟩ : ByteArray).size = 2 from rfl]; omega)
    have ht' : (Tr.root c s).txt = s ++ ⟨#[58, 32]⟩ ++ word c := rfl
    rw [ht']
    generalize hX : (⟨(ad.add (i * 5)).block, (ad.add (i * 5)).off + 1, none⟩ : Addr) = P1 at c1
    generalize hY : (⟨(ad.add (i * 5)).block, (ad.add (i * 5)).off + 2, none⟩ : Addr) = P2 at c2
    have k1 : w.drew.cell? P1 = some (.int .i64 c) := c1
    have k2 : w.drew.cell? P2 = some (.string s) := c2
    have k3 : Only (fun _ => False) w w.drew := (Only.refl _ _).drew
    subst hX
    subst hY
    clear hx h hv x0 x1 x2 x3 x4 hz hz1 ht'
    go_enter Tryd.func13, Tryd.ntmps13
    go_wp2_with fail
    refine (HK.out).mono ?_
    rintro e w1 ⟨rfl, rfl⟩
    go_wp2_with fail
    go_region_held3 (fun W => (W.cell? ⟨(ad.add (i * 5)).block, (ad.add (i * 5)).off + 1, none⟩ = some (.int .i64 c) ∧ W.cell? ⟨(ad.add (i * 5)).block, (ad.add (i * 5)).off + 2, none⟩ = some (.string s)) ∧ Only (fun _ => False) w W) (exact ⟨⟨k1, k2⟩, by assumption⟩) (first | (go_at_call 31; refine (errno_any _ c).mono ?_; rintro e w6 ⟨rfl, rfl⟩))
    rename_i hS
    have O := hS.2
    clear hS
    go_wp2_with fail
    go_ret
    exact ⟨rfl, O⟩
  | wrap s t ih =>
    rintro w v l i hv ⟨x, hx, hk, hw, hs, j, y, e1, hy, ht⟩ hl hz
    have HK := Lib.hid (kind_any w v l i hv hl)
    rw [kindN_at hx, hk] at HK
    have hz1 : s.size + 2 + t.txt.size ≤ 4611686018427387904 := by
      have h : (Tr.wrap s t).txt.size = s.size + 2 + t.txt.size := by
        show (s ++ colon ++ t.txt).size = _
        rw [ByteArray.size_append, ByteArray.size_append]; rfl
      rw [h] at hz
      exact hz
    have I1 := Lib.hid (fun W (o : Only (fun _ => False) w W) => ih W v l j (hv.only o) ⟨y, hy, ht⟩ hl (by omega))
    obtain ⟨A, cc, rfl, -⟩ := id hv
    obtain ⟨-, hi, ad, rfl, x0, x1, x2, x3, x4⟩ := hv.at_ hx
    rw [e1] at x3
    rw [hw] at x2
    have c3 := row_cell (by decide) x3
    have c2 := row_cell (by decide) x2
    have hi0 : (0 : Int) ≤ (i : Int) := by omega
    have hi1 : (i : Int) < (l.length : Int) := by omega
    have hc1 := fun W => run_string_add_sum (P := Tryd.prog) (w := W) s ⟨#[58, 32]⟩ (by rw [show (⟨#[58, 32]⟩ : ByteArray).size = 2 from rfl]; omega)
    have hc2 := fun W => run_string_add_sum (P := Tryd.prog) (w := W) (s ++ ⟨#[58, 32]⟩) t.txt (by rw [ByteArray.size_append, show (⟨#[58, 32]⟩ : ByteArray).size = 2 from rfl]; omega)
    have ht' : (Tr.wrap s t).txt = s ++ ⟨#[58, 32]⟩ ++ t.txt := rfl
    rw [ht']
    generalize t.txt = T at *
    have k1 : w.drew.cell? ⟨(ad.add (i * 5)).block, (ad.add (i * 5)).off + 3, none⟩ = some (.int .i64 j) := c3
    have k2 : w.drew.cell? ⟨(ad.add (i * 5)).block, (ad.add (i * 5)).off + 2, none⟩ = some (.string s) := c2
    have k3 : Only (fun _ => False) w w.drew := (Only.refl _ _).drew
    clear hx hk hw hs e1 hy ht hv x0 x1 x2 x3 x4 hz hz1 ht' ih
    go_enter Tryd.func13, Tryd.ntmps13
    go_wp2_with fail
    refine (HK.out).mono ?_
    rintro e w1 ⟨rfl, rfl⟩
    go_wp2_with fail
    go_region_held3 (fun W => (W.cell? ⟨(ad.add (i * 5)).block, (ad.add (i * 5)).off + 3, none⟩ = some (.int .i64 j) ∧ W.cell? ⟨(ad.add (i * 5)).block, (ad.add (i * 5)).off + 2, none⟩ = some (.string s)) ∧ Only (fun _ => False) w W) (first | exact ⟨⟨k1, k2⟩, by assumption⟩ | exact ⟨⟨Only.cell (by assumption) k1 (fun f => f), Only.cell (by assumption) k2 (fun f => f)⟩, Only.trans k3 (by assumption)⟩) (first | (go_at_call 13; refine (I1.out _ k3).mono ?_; rintro e w6 ⟨rfl, o6⟩))
    rename_i hS
    have O := hS.2
    clear hS
    go_wp2_with fail
    go_ret
    exact ⟨rfl, O⟩
  | both t u iht ihu =>
    rintro w v l i hv ⟨x, hx, hk, h1, h2, j, k, y, z, e1, e2, hy, hz, ht, hu⟩ hl hzz
    have HK := Lib.hid (kind_any w v l i hv hl)
    rw [kindN_at hx, hk] at HK
    have hz1 : t.txt.size + 2 + u.txt.size ≤ 4611686018427387904 := by
      have h : (Tr.both t u).txt.size = t.txt.size + 2 + u.txt.size := by
        show (t.txt ++ semi ++ u.txt).size = _
        rw [ByteArray.size_append, ByteArray.size_append]; rfl
      rw [h] at hzz
      exact hzz
    have I1 := Lib.hid (fun W (o : Only (fun _ => False) w W) => iht W v l j (hv.only o) ⟨y, hy, ht⟩ hl (by omega))
    have I2 := Lib.hid (fun W (o : Only (fun _ => False) w W) => ihu W v l k (hv.only o) ⟨z, hz, hu⟩ hl (by omega))
    obtain ⟨A, cc, rfl, -⟩ := id hv
    obtain ⟨-, hi, ad, rfl, x0, x1, x2, x3, x4⟩ := hv.at_ hx
    rw [e1] at x3
    rw [e2] at x4
    have c3 := row_cell (by decide) x3
    have c4 := row_cell (by decide) x4
    have hi0 : (0 : Int) ≤ (i : Int) := by omega
    have hi1 : (i : Int) < (l.length : Int) := by omega
    have hc2 := fun W => run_string_add_sum (P := Tryd.prog) (w := W) t.txt ⟨#[59, 32]⟩ (by rw [show (⟨#[59, 32]⟩ : ByteArray).size = 2 from rfl]; omega)
    have hc3 := fun W => run_string_add_sum (P := Tryd.prog) (w := W) (t.txt ++ ⟨#[59, 32]⟩) u.txt (by rw [ByteArray.size_append, show (⟨#[59, 32]⟩ : ByteArray).size = 2 from rfl]; omega)
    have ht' : (Tr.both t u).txt = t.txt ++ ⟨#[59, 32]⟩ ++ u.txt := rfl
    rw [ht']
    generalize t.txt = T at *
    generalize u.txt = U at *
    have k1 : w.drew.cell? ⟨(ad.add (i * 5)).block, (ad.add (i * 5)).off + 3, none⟩ = some (.int .i64 j) := c3
    have k2 : w.drew.cell? ⟨(ad.add (i * 5)).block, (ad.add (i * 5)).off + 4, none⟩ = some (.int .i64 k) := c4
    have k3 : Only (fun _ => False) w w.drew := (Only.refl _ _).drew
    have hne : Hid True := Lib.hid trivial
    clear hx hk h1 h2 e1 e2 hy hz ht hu hv x0 x1 x2 x3 x4 hzz hz1 ht' iht ihu
    go_enter Tryd.func13, Tryd.ntmps13
    go_wp2_with fail
    refine (HK.out).mono ?_
    rintro e w1 ⟨rfl, rfl⟩
    go_wp2_with fail
    go_region_held3 (fun W => (W.cell? ⟨(ad.add (i * 5)).block, (ad.add (i * 5)).off + 3, none⟩ = some (.int .i64 j) ∧ W.cell? ⟨(ad.add (i * 5)).block, (ad.add (i * 5)).off + 4, none⟩ = some (.int .i64 k)) ∧ Only (fun _ => False) w W) (first | with_reducible exact ⟨⟨k1, k2⟩, k3⟩ | with_reducible exact ⟨⟨Only.cell O6 k1 (fun f => f), Only.cell O6 k2 (fun f => f)⟩, Only.trans k3 O6⟩ | with_reducible exact ⟨⟨Only.cell O7 k1 (fun f => f), Only.cell O7 k2 (fun f => f)⟩, Only.trans k3 O7⟩) (first | (go_at_call 13; (with_reducible refine (I1.out _ k3).mono ?_); rintro e w6 ⟨rfl, o6⟩; have O6 : Only (fun _ => False) w.drew w6 := o6) | (go_at_call 13; (with_reducible refine (I2.out _ (Only.trans k3 O6)).mono ?_); rintro e w7 ⟨rfl, o7⟩; have O7 : Only (fun _ => False) w.drew w7 := Only.trans O6 o7))
    rename_i hS
    have O := hS.2
    clear hS
    go_wp2_with fail
    go_ret
    exact ⟨rfl, O⟩

set_option maxRecDepth 100000 in
set_option maxHeartbeats 2000000 in
theorem rpath_tr (t : Tr) (w : World) (v : Value) (l : List Nd) (i : Nat) (hv : SlN w v l) (h : NodeT l t i) (hl : l.length ≤ 1000000) (hn : t.path.length ≤ 1000000) :
    Calls Tryd.prog 16 #[v, .int .i64 i] w fun e w' => ∃ u, e = .returned u ∧ w'.ownsRow w.heap.size 9 1 u t.path.length (strs t.path) ∧ Only (fun _ => False) w w' := by
  obtain ⟨i0, hi, hz0, hz1, hz2⟩ := info_parts Tryd.info_str
  have HV := Lib.hid hv
  have HT := Lib.hid h
  obtain ⟨A, cc, rfl, -⟩ := id hv
  clear h hv
  obtain ⟨R, hR⟩ : ∃ R, R = t.path := ⟨_, rfl⟩
  rw [← hR] at hn ⊢
  have HR := Lib.hid hR
  clear hR
  go_enter Tryd.func16, Tryd.ntmps16
  go_wp2_with fail
  go_loopg [1, 5] t.size (fun k e u W => ∃ (t' : Tr) (i' : Nat) (m : List ByteArray), e = .int .i64 i' ∧ NodeT l t' i' ∧ W.ownsRow w.heap.size 9 1 u m.length (strs m) ∧ m ++ t'.path = R ∧ t'.size ≤ k ∧ Only (fun _ => False) w W)
  case atStart => exact ⟨t, i, [], rfl, HT.out, World.ownsRow_nil _ _ _ _, HR.out.symm, Nat.le_refl _, Only.refl _ _⟩
  case round =>
    obtain ⟨t', i', m, rfl, ⟨x, hx, ht⟩, hown, hm, hsz, ho⟩ := hrel
    have hlow := ho.size
    have hlen : m.length ≤ R.length := by rw [← hm, List.length_append]; omega
    obtain ⟨A0, d0, he0⟩ := own_shape hown
    subst he0
    have HM := Lib.hid hm
    have HO := Lib.hid ho
    have HOWN := Lib.hid hown
    have HK := Lib.hid (fun W (o : Only (fun _ => False) w W) => kind_any W _ l i' (HV.out.only o) hl)
    rw [kindN_at hx] at HK
    obtain ⟨-, hi', ad, hAd, x0, x1, x2, x3, x4⟩ := HV.out.at_ hx
    have hi0 : (0 : Int) ≤ (i' : Int) := by omega
    have hi1 : (i' : Int) < (l.length : Int) := by omega
    clear hm ho hown hx
    rcases t' with _ | ⟨c, s⟩ | c | ⟨s, t2⟩ | ⟨t2, t3⟩
    · rw [show x.kind = 0 from ht] at HK
      clear x0 x1 x2 x3 x4 ht hAd
      go_wp2_with fail
      refine (HK.out _ HO.out).mono ?_
      rintro e w1 ⟨rfl, rfl⟩
      go_wp2_with fail
      refine (HK.out _ HO.out).mono ?_
      rintro e w1 ⟨rfl, rfl⟩
      go_wp2_with fail
      go_ret
      have e := HM.out
      rw [show Tr.none.path = [] from rfl, List.append_nil] at e
      rw [← e]
      exact ⟨_, rfl, HOWN.out, HO.out⟩
    · rw [ht.1] at HK
      rw [ht.2.2] at x2
      subst hAd
      have c2 := row_cell (by decide) (HO.out.cell x2 (fun f => f))
      have hlr : m.length + 1 ≤ R.length := by rw [← HM.out]; simp [Tr.path]
      clear x0 x1 x2 x3 x4 ht
      go_wp2_with fail
      refine (HK.out _ HO.out).mono ?_
      rintro e w1 ⟨rfl, rfl⟩
      go_wp2_with (at_builtin; go_must (refine wpList_append_own_at _ rfl _ _ 37 rfl w.heap.size 9 i0 (.string ⟨#[]⟩) 1 16 Tryd.underlying37 hi hz0 hz1 hz2 rfl (by decide) _ m.length (strs m) ?hs (HOWN.out.alloc _) ⟨wr.heap.size, 0, none⟩ 1 1 [.string s] ?hx rfl (cell_one_new _ _ _) ?c2 ?c3 ?c4 ?c5 ?_); (case hs => rfl); (case hx => rfl); (case c2 => intro y hy; obtain rfl := List.mem_singleton.1 hy; rfl); (case c3 => unfold maxLen; omega); (case c4 => omega); (case c5 => simp; omega); intro v1 w1 ho1 hg1 _ hat1; obtain ⟨A1, d1, hv1⟩ := own_shape ho1; subst hv1; have O1 := Lib.hid (HO.out.then_ (Only.grown ((Only.refl (fun j => some j = Value.ownBlock (.slice A0 m.length d0)) _).alloc _) hg1 (fun j e hj => e.symm)) (fun i hi e => absurd hi (by have := own_low HOWN.out e.symm; omega))))
      refine (HK.out _ O1.out).mono ?_
      rintro e w1 ⟨rfl, rfl⟩
      go_wp2_with fail
      go_ret
      have e := HM.out
      rw [← e]
      refine ⟨_, rfl, ?_, O1.out⟩
      rw [show (m ++ (Tr.root c s).path) = m ++ [s] from rfl, strs_snoc, List.length_append]
      exact ho1
    · rw [ht.1] at HK
      clear x0 x1 x2 x3 x4 ht hAd
      go_wp2_with fail
      refine (HK.out _ HO.out).mono ?_
      rintro e w1 ⟨rfl, rfl⟩
      go_wp2_with fail
      refine (HK.out _ HO.out).mono ?_
      rintro e w1 ⟨rfl, rfl⟩
      go_wp2_with fail
      go_ret
      have e := HM.out
      rw [show (Tr.num c).path = [] from rfl, List.append_nil] at e
      rw [← e]
      exact ⟨_, rfl, HOWN.out, HO.out⟩
    · obtain ⟨hk, hw, hs, j, y, e1, hy, ht2⟩ := ht
      rw [hk] at HK
      rw [hw] at x2
      rw [e1] at x3
      subst hAd
      have c2 := row_cell (by decide) (HO.out.cell x2 (fun f => f))
      have hlr : m.length + 1 ≤ R.length := by rw [← HM.out]; simp [Tr.path]
      have C3 := Lib.hid (row_cell (by decide) x3)
      have HT2 := Lib.hid (show NodeT l t2 j from ⟨y, hy, ht2⟩)
      have HSZ := Lib.hid (show gk - 1 < gk ∧ t2.size ≤ gk - 1 by have : t2.size + 1 ≤ gk := hsz; omega)
      clear x0 x1 x2 x3 x4 hk hw hs e1 hy ht2 hsz
      go_wp2_with fail
      refine (HK.out _ HO.out).mono ?_
      rintro e w1 ⟨rfl, rfl⟩
      go_wp2_with fail
      refine (HK.out _ HO.out).mono ?_
      rintro e w1 ⟨rfl, rfl⟩
      go_wp2_with (at_builtin; go_must (refine wpList_append_own_at _ rfl _ _ 37 rfl w.heap.size 9 i0 (.string ⟨#[]⟩) 1 16 Tryd.underlying37 hi hz0 hz1 hz2 rfl (by decide) _ m.length (strs m) ?hs (HOWN.out.alloc _) ⟨wr.heap.size, 0, none⟩ 1 1 [.string s] ?hx rfl (cell_one_new _ _ _) ?c2 ?c3 ?c4 ?c5 ?_); (case hs => rfl); (case hx => rfl); (case c2 => intro y hy; obtain rfl := List.mem_singleton.1 hy; rfl); (case c3 => unfold maxLen; omega); (case c4 => omega); (case c5 => simp; omega); intro v1 w1 ho1 hg1 _ hat1; obtain ⟨A1, d1, hv1⟩ := own_shape ho1; subst hv1; have O1 := Lib.hid (HO.out.then_ (Only.grown ((Only.refl (fun j => some j = Value.ownBlock (.slice A0 m.length d0)) _).alloc _) hg1 (fun j e hj => e.symm)) (fun i hi e => absurd hi (by have := own_low HOWN.out e.symm; omega))))
      refine (HK.out _ O1.out).mono ?_
      rintro e w1 ⟨rfl, rfl⟩
      have c3 := O1.out.cell C3.out (fun f => f)
      clear c2
      go_wp2_with fail
      go_roundg (gk - 1)
      case rel => exact ⟨t2, j, m ++ [s], rfl, HT2.out, by rw [strs_snoc, List.length_append]; exact ho1, by rw [← HM.out, List.append_assoc]; rfl, HSZ.out.2, O1.out⟩
      case measure => exact HSZ.out.1
    · rw [ht.1] at HK
      clear x0 x1 x2 x3 x4 ht hAd
      go_wp2_with fail
      refine (HK.out _ HO.out).mono ?_
      rintro e w1 ⟨rfl, rfl⟩
      go_wp2_with fail
      refine (HK.out _ HO.out).mono ?_
      rintro e w1 ⟨rfl, rfl⟩
      go_wp2_with fail
      go_ret
      have e := HM.out
      rw [show (Tr.both t2 t3).path = [] from rfl, List.append_nil] at e
      rw [← e]
      exact ⟨_, rfl, HOWN.out, HO.out⟩
end Go.Proofs.YthagbbeppklpmaaDoor
