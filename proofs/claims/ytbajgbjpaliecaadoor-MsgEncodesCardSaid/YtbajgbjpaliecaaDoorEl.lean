/- The law MsgEncodes walked. -/
import Derived.Test.YtbajgbjpaliecaaDoorMb
import Derived.Test.YtbajgbjpaliecaaDoorEb6
import Derived.Test.YtbajgbjpaliecaaDoorMl
import Derived.Test.YtbajgbjpaliecaaDoorCc
set_option linter.unusedSimpArgs false
set_option linter.unusedVariables false
namespace Go.Proofs.YtbajgbjpaliecaaDoor
open Go.RowKit

set_option maxRecDepth 100000 in
set_option maxHeartbeats 4000000 in
theorem encodes_law (w : World) (m : Mg) (vw vs : Value) (h : MgAt w m vw vs) (hE : Et w) : Calls Tryd.prog 3 #[.agg (m.cells vw vs).toArray] w fun e w' => e = .returned (.bool true) ∧ Only (fun _ => False) w w' := by
  have hs := short_of h.shares
  have hsz : (m.cells vw vs).toArray.size = 82 := by simpa using Mg.cells_length h.ok vw vs
  have B0 := Has.new w 32 (m.cells vw vs).toArray
  have O0 := (Only.refl (fun _ => False) w).alloc (.cells (m.cells vw vs).toArray 32)
  have HSM := Lib.hid (fun W (o : Only (fun _ => False) w W) => small_some W m vw vs (h.only o))
  have HOF := Lib.hid (fun W (o : Only (fun _ => False) w W) => of_any W m vw vs (h.only o))
  have hrs : (Tryd.prog.info? 32).map (·.size) = some (m.cells vw vs).toArray.size := by rw [rmsg_info, hsz]
  have HE := Lib.hid hE
  have HRS := Lib.hid hrs
  clear hE hrs
  by_cases hc : m.check = 0
  · have HEN := Lib.hid (fun W (o : Only (fun _ => False) w W) => encode_ok W m vw vs (h.only o) hs hc)
    have HRE := Lib.hid (fun W (o : Only (fun _ => False) w W) => rencode_any W m vw vs (h.only o) hs hc)
    clear h hs hc
    generalize strOfNums (m.kind :: m.body) = z at *
    generalize (m.cells vw vs).toArray = cs at *
    go_enter Tryd.func3, Tryd.ntmps3
    go_wp2_with fail
    refine wp_load_box rfl rfl B0 Tryd.underlying32 HRS.out ?_
    go_wp2_with fail
    refine (HSM.out _ O0).mono ?_; rintro e w1 ⟨⟨b, rfl⟩, o1⟩
    have B1 := o1.has B0 (fun f => f)
    have O1 := O0.trans o1
    cases b
    · go_wp2_with fail
      refine (awake10_any _).mono ?_; rintro e w2 ⟨rfl, o2⟩
      go_wp2_with fail
      go_ret
      exact ⟨rfl, O1.trans o2⟩
    · go_wp2_with fail
      refine wp_load_box rfl rfl B1 Tryd.underlying32 HRS.out ?_
      go_wp2_with fail
      refine (HOF.out _ O1).mono ?_; rintro e w2 ⟨rfl, o2⟩
      have B2 := o2.has B1 (fun f => f)
      have O2 := O1.trans o2
      go_wp2_with fail
      refine (HEN.out _ O2).mono ?_; rintro e w3 ⟨rfl, o3⟩
      have B3 := o3.has B2 (fun f => f)
      have O3 := O2.trans o3
      go_wp2_with fail
      refine wp_load_box rfl rfl B3 Tryd.underlying32 HRS.out ?_
      go_wp2_with fail
      refine (HRE.out _ O3).mono ?_; rintro e w4 ⟨rfl, o4⟩
      have O4 := O3.trans o4
      go_wp2_with fail
      refine (code_nil _).mono ?_; rintro e w5 ⟨rfl, o5⟩
      have O5 := O4.trans o5
      go_wp2_with fail
      refine (awake10_any _).mono ?_; rintro e w6 ⟨rfl, o6⟩
      go_wp2_with fail
      go_ret
      exact ⟨rfl, O5.trans o6⟩
  · have HEN := Lib.hid (fun W (o : Only (fun _ => False) w W) => encode_bad10 W m vw vs (h.only o) hs hc)
    have HRE := Lib.hid (fun W (o : Only (fun _ => False) w W) => rencode_bad10 W m vw vs (h.only o) hs hc)
    clear h hs hc
    generalize m.check = x at *
    generalize (m.cells vw vs).toArray = cs at *
    go_enter Tryd.func3, Tryd.ntmps3
    go_wp2_with fail
    refine wp_load_box rfl rfl B0 Tryd.underlying32 HRS.out ?_
    go_wp2_with fail
    refine (HSM.out _ O0).mono ?_; rintro e w1 ⟨⟨b, rfl⟩, o1⟩
    have B1 := o1.has B0 (fun f => f)
    have O1 := O0.trans o1
    cases b
    · go_wp2_with fail
      refine (awake10_any _).mono ?_; rintro e w2 ⟨rfl, o2⟩
      go_wp2_with fail
      go_ret
      exact ⟨rfl, O1.trans o2⟩
    · go_wp2_with fail
      refine wp_load_box rfl rfl B1 Tryd.underlying32 HRS.out ?_
      go_wp2_with fail
      refine (HOF.out _ O1).mono ?_; rintro e w2 ⟨rfl, o2⟩
      have B2 := o2.has B1 (fun f => f)
      have O2 := O1.trans o2
      go_wp2_with fail
      refine (HEN.out _ O2).mono ?_; rintro e w3 ⟨⟨b1, b2, rfl, hb1, hb2⟩, o3⟩
      have B3 := o3.has B2 (fun f => f)
      have O3 := O2.trans o3
      have HEA := Lib.hid (show ErrAt w3 (some b1) [nMsg, nEncode] x from ⟨b1, b2, rfl, hb1, b2, rfl, hb2⟩)
      clear hb1 hb2
      go_wp2_with fail
      refine wp_load_box rfl rfl B3 Tryd.underlying32 HRS.out ?_
      go_wp2_with fail
      refine (HRE.out _ O3).mono ?_; rintro e w4 ⟨rfl, o4⟩
      have O4 := O3.trans o4
      have HEA4 := Lib.hid (HEA.out.only o4 (fun _ _ _ f => f))
      go_wp2_with fail
      refine (code_chain _ b1 _ x HEA4.out (HE.out.only O4 (fun f => f))).mono ?_; rintro e w5 ⟨rfl, o5⟩
      have O5 := O4.trans o5
      go_wp2_with fail
      refine (awake10_any _).mono ?_; rintro e w6 ⟨rfl, o6⟩
      go_wp2_with fail
      go_ret
      exact ⟨rfl, O5.trans o6⟩
end Go.Proofs.YtbajgbjpaliecaaDoor
