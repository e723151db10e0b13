/- Chapter 1: the example, and FaultNone walked. -/
import Derived.Test.YthagbbeppklpmaaDoorTx
import Derived.Test.YthagbbeppklpmaaDoorPth
import Derived.Test.YthagbbeppklpmaaDoorTs
import Derived.Test.YthagbbeppklpmaaDoorCc
set_option linter.unusedSimpArgs false
set_option linter.unusedVariables false
namespace Go.Proofs.YthagbbeppklpmaaDoor
open Go.RowKit

theorem fwrap_nil (w : World) (s : ByteArray) : Calls Tryd.prog 24 #[.string s, .nilIface] w fun e w' => e = .returned .nilIface ∧ w = w' := by
  go_enter Tryd.func24, Tryd.ntmps24
  go_wp2
  go_ret
  exact ⟨rfl, rfl⟩
theorem both_nil (w : World) : Calls Tryd.prog 25 #[.nilIface, .nilIface] w fun e w' => e = .returned .nilIface ∧ w = w' := by
  go_enter Tryd.func25, Tryd.ntmps25
  go_wp2
  go_ret
  exact ⟨rfl, rfl⟩
theorem path_nil (w : World) : Calls Tryd.prog 15 #[.nilIface] w fun e w' => e = .returned (.slice none 0 0) ∧ w = w' := by
  go_enter Tryd.func15, Tryd.ntmps15
  go_wp2
  refine wp_loop_rounds 1 ?_
  rw [rounds_succ]
  go_wp2_with fail
  go_ret
  exact ⟨rfl, rfl⟩
set_option maxRecDepth 100000 in
theorem collect_nil (w : World) (v : Value) : Calls Tryd.prog 33 #[.nilIface, v] w fun e w' => e = .returned (.tuple #[]) ∧ Only (fun _ => False) w w' := by
  go_enter Tryd.func33, Tryd.ntmps33
  go_wp2_with fail
  go_end0
  exact ⟨rfl, ((Only.refl _ _).alloc _).alloc _⟩
theorem codes_nil (w : World) : Calls Tryd.prog 20 #[.nilIface] w fun e w' => e = .returned (.slice none 0 0) ∧ Only (fun _ => False) w w' := by
  have hn : Has (w.alloc (.cells #[.slice none 0 0] 44)) w.heap.size 44 #[.slice none 0 0] := Has.new _ _ _
  go_enter Tryd.func20, Tryd.ntmps20
  go_wp2_with fail
  refine (collect_nil _ _).mono ?_
  rintro e w2 ⟨rfl, o2⟩
  have c0 : w2.cell? ⟨w.heap.size, 0, none⟩ = some (.slice none 0 0) := (o2.has hn (fun f => f)).cell 0
  go_wp2_with fail
  go_ret
  exact ⟨rfl, ((Only.refl (fun _ => False) w).alloc _).trans o2⟩
theorem as_nil (w : World) (v : Value) : Calls Tryd.prog 29 #[.nilIface, v] w fun e w' => e = .returned (.bool false) ∧ w = w' := by
  go_enter Tryd.func29, Tryd.ntmps29
  go_wp2_with fail
  go_ret
  exact ⟨rfl, rfl⟩
theorem at_nil (w : World) : Calls Tryd.prog 10 #[.nilIface] w fun e w' => e = .returned (.tuple #[.string ⟨#[]⟩, .bool false]) ∧ Only (fun _ => False) w w' := by
  go_enter Tryd.func10, Tryd.ntmps10
  go_wp2_with fail
  refine (as_nil _ _).mono ?_
  rintro e w2 ⟨rfl, rfl⟩
  go_wp2_with fail
  go_ret2
  exact ⟨rfl, (Only.refl _ _).alloc _⟩
theorem has_nil_ok (w : World) : Calls Tryd.prog 22 #[.nilIface, .int .i64 0] w fun e w' => e = .returned (.bool true) ∧ w = w' := by
  go_enter Tryd.func22, Tryd.ntmps22
  go_wp2_with fail
  go_ret
  exact ⟨rfl, rfl⟩
def linkTape : List ByteArray := [⟨#[108, 105, 110, 107]⟩, ⟨#[116, 97, 112, 101]⟩]
theorem txt_ex : txt linkTape 10 = ⟨#[108, 105, 110, 107, 58, 32, 116, 97, 112, 101, 58, 32, 116, 97, 112, 101, 32, 101, 120, 104, 97, 117, 115, 116, 101, 100]⟩ := by decide +kernel

set_option maxRecDepth 100000 in
set_option maxHeartbeats 2000000 in
theorem awake01_any (w : World) (hE : Et w) : Calls Tryd.prog 7 #[] w fun e w' => e = .returned (.bool true) ∧ Only (fun _ => False) w w' := by
  have HT := Lib.hid (fun W b h => text_of (error_chain linkTape W b 10 h (by rw [txt_ex]; decide)))
  rw [txt_ex] at HT
  have HC := Lib.hid (fun W b h hE => code_chain W b linkTape 10 h hE)
  have HP := Lib.hid (fun W b h => path_chain W b linkTape 10 h (by decide))
  have HX := Lib.hid (fun W a b ha hb => texts_any W a b linkTape linkTape ha hb (by decide) (by decide))
  rw [show decide (linkTape = linkTape) = true from decide_eq_true rfl] at HX
  go_enter Tryd.func7, Tryd.ntmps7
  go_wp2_with fail
  refine (fnew_any _ _ _ (by decide)).mono ?_
  rintro e w1 ⟨rfl, rfl⟩
  go_wp2_with fail
  refine (fwrap_any _ _ _ _).mono ?_
  rintro e w2 ⟨rfl, rfl⟩
  have n1 := (Has.new w 63 #[.int .i64 10, .string ⟨#[116, 97, 112, 101]⟩, .nilIface]).alloc (.cells #[.int .i64 0, .string ⟨#[108, 105, 110, 107]⟩, ev (some w.heap.size)] 63)
  have n2 := Has.new (w.alloc (.cells #[.int .i64 10, .string ⟨#[116, 97, 112, 101]⟩, .nilIface] 63)) 63 #[.int .i64 0, .string ⟨#[108, 105, 110, 107]⟩, ev (some w.heap.size)]
  have o2 : Only (fun _ => False) w ((w.alloc (.cells #[.int .i64 10, .string ⟨#[116, 97, 112, 101]⟩, .nilIface] 63)).alloc (.cells #[.int .i64 0, .string ⟨#[108, 105, 110, 107]⟩, ev (some w.heap.size)] 63)) := ((Only.refl _ _).alloc _).alloc _
  have hA : ErrAt ((w.alloc (.cells #[.int .i64 10, .string ⟨#[116, 97, 112, 101]⟩, .nilIface] 63)).alloc (.cells #[.int .i64 0, .string ⟨#[108, 105, 110, 107]⟩, ev (some w.heap.size)] 63)) (some (w.alloc (.cells #[.int .i64 10, .string ⟨#[116, 97, 112, 101]⟩, .nilIface] 63)).heap.size) linkTape 10 := ⟨_, w.heap.size, rfl, n2, _, rfl, n1⟩
  go_wp2_with fail
  have hz : (w.alloc (.cells #[.int .i64 10, .string ⟨#[116, 97, 112, 101]⟩, .nilIface] 63)).heap.size = w.heap.size + 1 := by simp
  rw [hz] at hA
  clear hz n1 n2
  have HA := Lib.hid hA
  clear hA
  have O2 := Lib.hid o2
  clear o2
  refine (HT.out _ _ HA.out).mono ?_
  rintro e w3 ⟨rfl, o3⟩
  go_wp2_with fail
  have A3 := Lib.hid (HA.out.only o3 (fun _ _ _ f => f))
  have O3 := Lib.hid (O2.out.trans o3)
  refine (HC.out _ _ A3.out (hE.only O3.out (fun f => f))).mono ?_
  rintro e w4 ⟨rfl, o4⟩
  go_wp2_with fail
  have A4 := Lib.hid (A3.out.only o4 (fun _ _ _ f => f))
  have O4 := Lib.hid (O3.out.trans o4)
  refine (HP.out _ _ A4.out).mono ?_
  rintro e w5 ⟨v, rfl, hown, o5⟩
  have O5 := Lib.hid (O4.out.trans o5)
  have S5 := Lib.hid (slS_own hown)
  clear hown
  go_wp2_with fail
  have S6 := Lib.hid (S5.out.only ((Only.refl (fun _ => False) w5).alloc (.cells #[.string ⟨#[108, 105, 110, 107]⟩, .string ⟨#[116, 97, 112, 101]⟩] 9)))
  have S7 := slS_two w5 ⟨#[108, 105, 110, 107]⟩ ⟨#[116, 97, 112, 101]⟩
  have S7 : SlS (w5.alloc (.cells #[.string ⟨#[108, 105, 110, 107]⟩, .string ⟨#[116, 97, 112, 101]⟩] 9)) (.slice (some ⟨w5.heap.size, 0, none⟩) 2 2) linkTape := S7
  refine (HX.out _ _ _ S6.out S7).mono ?_
  rintro e w6 ⟨rfl, o6⟩
  go_wp2_with fail
  go_ret
  exact ⟨rfl, (O5.out.alloc _).trans o6⟩

end Go.Proofs.YthagbbeppklpmaaDoor
