/- fault.Text and Error: at an error that came by any places. -/
import Derived.Test.YthagbbeppklpmaaDoorErr
import Derived.WalkKit
import Derived.WalkSpells
import Derived.RegionTactic
import Derived.Deep.RegionHeld3
import Derived.Deep.RegionWith
import Derived.WalkLawsBesides
import Derived.Laws.Concat
import Derived.Outline
import Derived.Lib.Hide
import Derived.LoopTactic
set_option linter.unusedSimpArgs false
set_option linter.unusedVariables false
namespace Go.Proofs.YthagbbeppklpmaaDoor
open Go.RowKit

/-- A number's word. -/
def word (c : Int) : ByteArray :=
  if c = 0 then ⟨#[111, 107]⟩
  else if c = 10 then ⟨#[116, 97, 112, 101, 32, 101, 120, 104, 97, 117, 115, 116, 101, 100]⟩
  else if c = 11 then ⟨#[98, 97, 100, 32, 115, 104, 97, 112, 101]⟩
  else if c = 20 then ⟨#[110, 111, 32, 101, 112, 111, 99, 104]⟩
  else if c = 33 then ⟨#[97, 98, 111, 114, 116, 101, 100]⟩
  else if c = 40 then ⟨#[99, 108, 97, 115, 115, 32, 109, 105, 115, 109, 97, 116, 99, 104]⟩
  else if c = 41 then ⟨#[116, 105, 99, 107, 101, 116, 32, 116, 119, 105, 99, 101]⟩
  else ⟨#[101, 114, 114, 111, 114]⟩
theorem word_size (c : Int) : (word c).size ≤ 20 := by
  unfold word
  repeat' split
  all_goals decide

set_option maxHeartbeats 1000000 in
theorem errno_any (w : World) (c : Int) : Calls Tryd.prog 31 #[.int .i64 c] w fun e w' => e = .returned (.string (word c)) ∧ w = w' := by
  by_cases hk : c = 0 ∨ c = 10 ∨ c = 11 ∨ c = 20 ∨ c = 33 ∨ c = 40 ∨ c = 41
  · rcases hk with rfl | rfl | rfl | rfl | rfl | rfl | rfl
    all_goals
      go_enter Tryd.func31, Tryd.ntmps31
      go_wp2
      go_ret
      exact ⟨rfl, rfl⟩
  · have hw : word c = ⟨#[101, 114, 114, 111, 114]⟩ := by
      unfold word
      rw [if_neg (by omega), if_neg (by omega), if_neg (by omega), if_neg (by omega), if_neg (by omega), if_neg (by omega), if_neg (by omega)]
    rw [hw]
    have h0 : (c == 0) = false := by simp; omega
    have h1 : (c == 10) = false := by simp; omega
    have h2 : (c == 11) = false := by simp; omega
    have h3 : (c == 20) = false := by simp; omega
    have h4 : (c == 33) = false := by simp; omega
    have h5 : (c == 40) = false := by simp; omega
    have h6 : (c == 41) = false := by simp; omega
    clear hw hk
    go_enter Tryd.func31, Tryd.ntmps31
    go_wp2
    go_ret
    exact ⟨rfl, rfl⟩

/-- An error's text. -/
def txt : List ByteArray → Int → ByteArray
  | [], c => word c
  | s :: l, c => s ++ ⟨#[58, 32]⟩ ++ txt l c
theorem txt_size (s : ByteArray) (l : List ByteArray) (c : Int) : (txt (s :: l) c).size = s.size + 2 + (txt l c).size := by
  rw [txt, ByteArray.size_append, ByteArray.size_append]
  rfl

set_option maxRecDepth 100000 in
theorem text_of {w : World} {b : Nat} {S : ByteArray} (h : Calls Tryd.prog 30 #[.pointer (some ⟨b, 0, none⟩)] w fun e w' => e = .returned (.string S) ∧ Only (fun _ => False) w w') :
    Calls Tryd.prog 12 #[.iface 59 (.pointer (some ⟨b, 0, none⟩))] w fun e w' => e = .returned (.string S) ∧ Only (fun _ => False) w w' := by
  have H := Lib.hid h
  have hit := assert_hit
  clear h
  go_enter Tryd.func12, Tryd.ntmps12
  go_wp2_with fail
  refine (H.out).mono ?_
  rintro e w1 ⟨rfl, o1⟩
  go_wp2_with fail
  go_ret
  exact ⟨rfl, o1⟩
set_option maxRecDepth 100000 in
theorem text_nil (w : World) : Calls Tryd.prog 12 #[.nilIface] w fun e w' => e = .returned (.string ⟨#[]⟩) ∧ Only (fun _ => False) w w' := by
  go_enter Tryd.func12, Tryd.ntmps12
  go_wp2_with fail
  go_ret
  exact ⟨rfl, Only.refl _ _⟩

set_option maxRecDepth 100000 in
set_option maxHeartbeats 2000000 in
theorem error_chain : ∀ (l : List ByteArray) (w : World) (b : Nat) (c : Int), ErrAt w (some b) l c → (txt l c).size ≤ 4611686018427387904 →
    Calls Tryd.prog 30 #[.pointer (some ⟨b, 0, none⟩)] w fun e w' => e = .returned (.string (txt l c)) ∧ Only (fun _ => False) w w'
  | [], w, b, c, he, _ => False.elim he
  | [s], w, b, c, he, hz => by
    obtain ⟨b', e, hb⟩ := he
    obtain rfl := Option.some.inj e
    rw [txt_size] at hz
    have hws := word_size c
    have hc1 := fun W => run_string_add_sum (P := Tryd.prog) (w := W) s ⟨#[58, 32]⟩ (by rw [show (⟨#[58, 32]⟩ : ByteArray).size = 2 from rfl]; omega)
    have hc2 := fun W => run_string_add_sum (P := Tryd.prog) (w := W) (s ++ ⟨#[58, 32]⟩) (word c) (by rw [ByteArray.size_append, show (⟨#[58, 32]⟩ : ByteArray).size = 2 from rfl]; omega)
    have c0 : w.cell? ⟨b, 0, none⟩ = some (.int .i64 c) := hb.cell 0
    have c1 : w.cell? ⟨b, 1, none⟩ = some (.string s) := hb.cell 1
    have c2 : w.cell? ⟨b, 2, none⟩ = some .nilIface := hb.cell 2
    have k1 := hb.drew
    have k3 : Only (fun _ => False) w w.drew := (Only.refl _ _).drew
    clear hz hws
    go_enter Tryd.func30, Tryd.ntmps30
    go_wp2_with fail
    go_region_held3 (fun W => (W.cell? ⟨b, 0, none⟩ = some (.int .i64 c) ∧ W.cell? ⟨b, 1, none⟩ = some (.string s)) ∧ Only (fun _ => False) w W) (exact ⟨⟨k1.cell 0, k1.cell 1⟩, by assumption⟩) (first | (go_at_call 31; refine (errno_any _ c).mono ?_; rintro e w6 ⟨rfl, rfl⟩))
    rename_i hS
    have O := hS.2
    clear hS
    go_wp2_with fail
    go_ret
    exact ⟨rfl, O⟩
  | s :: r :: l, w, b, c, he, hz => by
    obtain ⟨b', b2, e, hb, h2⟩ := he
    obtain rfl := Option.some.inj e
    rw [txt_size] at hz
    have IH := Lib.hid (fun W h => text_of (error_chain (r :: l) W b2 c h (by omega)))
    have H2 := Lib.hid (h2.only ((Only.refl (fun _ => False) w).drew) (fun _ _ _ f => f))
    have hc1 := fun W => run_string_add_sum (P := Tryd.prog) (w := W) s ⟨#[58, 32]⟩ (by rw [show (⟨#[58, 32]⟩ : ByteArray).size = 2 from rfl]; omega)
    have hc2 := fun W => run_string_add_sum (P := Tryd.prog) (w := W) (s ++ ⟨#[58, 32]⟩) (txt (r :: l) c) (by rw [ByteArray.size_append, show (⟨#[58, 32]⟩ : ByteArray).size = 2 from rfl]; omega)
    have c1 : w.cell? ⟨b, 1, none⟩ = some (.string s) := hb.cell 1
    have c2 : w.cell? ⟨b, 2, none⟩ = some (ev (some b2)) := hb.cell 2
    simp only [ev] at c2 IH
    have k1 := hb.drew
    have k3 : Only (fun _ => False) w w.drew := (Only.refl _ _).drew
    have ht : txt (s :: r :: l) c = s ++ ⟨#[58, 32]⟩ ++ txt (r :: l) c := rfl
    rw [ht]
    generalize txt (r :: l) c = T at *
    clear hz ht h2
    go_enter Tryd.func30, Tryd.ntmps30
    go_wp2_with fail
    go_region_held3 (fun W => (W.cell? ⟨b, 1, none⟩ = some (.string s) ∧ W.cell? ⟨b, 2, none⟩ = some (.iface 59 (.pointer (some ⟨b2, 0, none⟩)))) ∧ Only (fun _ => False) w W) (first | exact ⟨⟨k1.cell 1, k1.cell 2⟩, by assumption⟩ | exact ⟨⟨(Only.has (by assumption) k1 (fun f => f)).cell 1, (Only.has (by assumption) k1 (fun f => f)).cell 2⟩, Only.trans k3 (by assumption)⟩) (first | (go_at_call 12; refine (IH.out _ H2.out).mono ?_; rintro e w6 ⟨rfl, o6⟩))
    rename_i hS
    have O := hS.2
    clear hS
    go_wp2_with fail
    go_ret
    exact ⟨rfl, O⟩
end Go.Proofs.YthagbbeppklpmaaDoor
