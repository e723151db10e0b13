/- Chapter 1: fault.Text at any error. -/
import Derived.Test.YthagbbeppklpmaaDoorEt
set_option linter.unusedSimpArgs false
set_option linter.unusedVariables false
namespace Go.Proofs.YthagbbeppklpmaaDoor
open Go.RowKit

theorem empty_append (s : ByteArray) : (⟨#[]⟩ : ByteArray) ++ s = s := by
  apply ByteArray.ext
  simp [ByteArray.data_append]
set_option maxRecDepth 100000 in
set_option maxHeartbeats 4000000 in
theorem text_tr : ∀ (t : Tr) (w : World) (av : Option Nat) (v : Value), TrAt w av t v → t.txt.size ≤ 4611686018427387904 →
    Calls Tryd.prog 12 #[v] w fun e w' => e = .returned (.string t.txt) ∧ Only (fun _ => False) w w'
  | .none, w, av, v, h, _ => by
    obtain rfl : v = .nilIface := h
    exact text_nil w
  | .root c s, w, av, v, ⟨b, e, hb⟩, hz => by
    subst e
    exact text_of (error_chain [s] w b c ⟨b, rfl, hb⟩ hz)
  | .num c, w, av, v, h, hz => by
    obtain rfl : v = pn c := h
    have h1 := miss_pn_pf
    have h2 := hit_pn_pn
    unfold pn
    go_enter Tryd.func12, Tryd.ntmps12
    go_wp2_with fail
    refine (errno_any _ c).mono ?_
    rintro e w' ⟨rfl, rfl⟩
    go_wp2_with fail
    go_ret
    exact ⟨rfl, Only.refl _ _⟩
  | .wrap s t, w, av, v, ⟨b, u, e, hb, hs, ht⟩, hz => by
    subst e
    refine text_of ?_
    have hz1 : s.size + 2 + t.txt.size ≤ 4611686018427387904 := by
      have h : (Tr.wrap s t).txt.size = s.size + 2 + t.txt.size := by
        show (s ++ colon ++ t.txt).size = _
        rw [ByteArray.size_append, ByteArray.size_append]; rfl
      rw [h] at hz
      exact hz
    have IH := Lib.hid (fun W (h : TrAt W av t u) => text_tr t W av u h (by omega))
    have H2 := Lib.hid (ht.keep ((Only.refl (fun _ => False) w).drew))
    obtain ⟨T, x, rfl⟩ := ht.iface hs
    have hc1 := fun W => run_string_add_sum (P := Tryd.prog) (w := W) s ⟨#[58, 32]⟩ (by rw [show (⟨#[58, 32]⟩ : ByteArray).size = 2 from rfl]; omega)
    have hc2 := fun W => run_string_add_sum (P := Tryd.prog) (w := W) (s ++ ⟨#[58, 32]⟩) t.txt (by rw [ByteArray.size_append, show (⟨#[58, 32]⟩ : ByteArray).size = 2 from rfl]; omega)
    have c1 : w.cell? ⟨b, 1, none⟩ = some (.string s) := hb.cell 1
    have c2 : w.cell? ⟨b, 2, none⟩ = some (.iface T x) := hb.cell 2
    have k1 := hb.drew
    have k3 : Only (fun _ => False) w w.drew := (Only.refl _ _).drew
    have ht' : (Tr.wrap s t).txt = s ++ ⟨#[58, 32]⟩ ++ t.txt := rfl
    rw [ht']
    generalize t.txt = U at *
    clear hz hz1 ht' ht hs
    go_enter Tryd.func30, Tryd.ntmps30
    go_wp2_with fail
    go_region_held3 (fun W => (W.cell? ⟨b, 1, none⟩ = some (.string s) ∧ W.cell? ⟨b, 2, none⟩ = some (.iface T x)) ∧ Only (fun _ => False) w W) (first | exact ⟨⟨k1.cell 1, k1.cell 2⟩, by assumption⟩ | exact ⟨⟨(Only.has (by assumption) k1 (fun f => f)).cell 1, (Only.has (by assumption) k1 (fun f => f)).cell 2⟩, Only.trans k3 (by assumption)⟩) (first | (go_at_call 12; refine (IH.out _ H2.out).mono ?_; rintro e w6 ⟨rfl, o6⟩))
    rename_i hS
    have O := hS.2
    clear hS
    go_wp2_with fail
    go_ret
    exact ⟨rfl, O⟩
  | .both x y, w, av, v, ⟨b, g, n, u1, u2, e, hb, hg, hne, hx, hy, tx, ty⟩, hz => by
    subst e
    have hz1 : x.txt.size + 2 + y.txt.size ≤ 4611686018427387904 := by
      have h : (Tr.both x y).txt.size = x.txt.size + 2 + y.txt.size := by
        show (x.txt ++ semi ++ y.txt).size = _
        rw [ByteArray.size_append, ByteArray.size_append]; rfl
      rw [h] at hz
      exact hz
    have I1 := Lib.hid (fun W (h : TrAt W av x u1) => text_tr x W av u1 h (by omega))
    have I2 := Lib.hid (fun W (h : TrAt W av y u2) => text_tr y W av u2 h (by omega))
    have h1 := miss_pj_pf
    have h2 := miss_pj_pn
    have h3 := list_pj
    have h4 := method_list
    have HL := Lib.hid (list_any w b _ hb)
    have g0 : w.cell? ⟨g, 0, none⟩ = some u1 := hg.c0
    have HG := Lib.hid hg
    have TX := Lib.hid tx
    have TY := Lib.hid ty
    have hc2 := fun W => run_string_add_sum (P := Tryd.prog) (w := W) x.txt ⟨#[59, 32]⟩ (by rw [show (⟨#[59, 32]⟩ : ByteArray).size = 2 from rfl]; omega)
    have hc3 := fun W => run_string_add_sum (P := Tryd.prog) (w := W) (x.txt ++ ⟨#[59, 32]⟩) y.txt (by rw [ByteArray.size_append, show (⟨#[59, 32]⟩ : ByteArray).size = 2 from rfl]; omega)
    have ht' : (Tr.both x y).txt = x.txt ++ ⟨#[59, 32]⟩ ++ y.txt := rfl
    have hc1 := fun W => run_string_add_sum (P := Tryd.prog) (w := W) (⟨#[]⟩ : ByteArray) x.txt (by rw [show (⟨#[]⟩ : ByteArray).size = 0 from rfl]; omega)
    have he := empty_append x.txt
    rw [he] at hc1
    rw [ht']
    generalize x.txt = U at *
    generalize y.txt = V at *
    clear hz hz1 ht' tx ty hb hx hy hg he
    unfold pj
    go_enter Tryd.func12, Tryd.ntmps12
    go_wp2_with fail
    refine (HL.out).mono ?_
    rintro e w' ⟨rfl, rfl⟩
    go_wp2_with fail
    refine wp_loop_rounds 3 ?_
    rw [rounds_succ]
    go_wp2_with fail
    refine (I1.out _ TX.out).mono ?_
    rintro e w1 ⟨rfl, o1⟩
    have g1 : w1.cell? ⟨g, 1, none⟩ = some u2 := (HG.out.only o1 (fun _ _ f => f)).c1
    go_wp2_with fail
    rw [rounds_succ]
    go_wp2_with fail
    refine (I2.out _ (TY.out.keep o1)).mono ?_
    rintro e w2 ⟨rfl, o2⟩
    go_wp2_with fail
    rw [rounds_succ]
    go_wp2_with fail
    go_ret
    exact ⟨rfl, o1.trans o2⟩
end Go.Proofs.YthagbbeppklpmaaDoor
