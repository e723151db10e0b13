/- The reference of layers 8 and 10: U32, Words; u8, u32. -/
import Derived.Test.YtbajgbjpaliecaaDoorFx
import Derived.Test.YtbajgbjpaliecaaDoorSpr
import Derived.Test.YtbajgbjpaliecaaDoorMp
set_option linter.unusedSimpArgs false
set_option linter.unusedVariables false
namespace Go.Proofs.YtbajgbjpaliecaaDoor
open Go.RowKit Go.Lib

theorem rmsg_info : (Tryd.prog.info? 32).map (·.size) = some 82 := by kernel_rfl
theorem nums_ofStr (s : ByteArray) : strOfNums (ofStr s) = s := by
  apply ByteArray.ext
  apply Array.ext'
  rw [strOfNums_data, ofStr, List.map_map]
  have : ((fun n : Int => UInt8.ofNat n.toNat) ∘ fun b : UInt8 => (b.toNat : Int)) = id := by
    funext b
    simp
  rw [this, List.map_id]
theorem u32r_any (w : World) (x : Int) (h0 : 0 ≤ x) (h1 : x ≤ 4294967295) : Calls Tryd.prog 19 #[.int .u32 x] w fun e w' => e = .returned (.string (strOfNums (beB x 4))) ∧ Only (fun _ => False) w w' := by
  have HF := Lib.hid (fun W => fixed4B W x h0 h1)
  have hw : IntKind.u64.wrap x = x := by rw [IntKind.wrap_u64]; omega
  go_enter Tryd.func19, Tryd.ntmps19
  go_wp2_with fail
  refine (HF.out _).mono ?_; rintro e w1 ⟨rfl, o1⟩
  go_wp2_with fail
  go_ret
  exact ⟨rfl, o1⟩
theorem U32r_any (w : World) (x : Int) (h0 : 0 ≤ x) (h1 : x ≤ 4294967295) : Calls Tryd.prog 42 #[.int .i64 x] w fun e w' => e = .returned (.string (strOfNums (beB x 4))) ∧ Only (fun _ => False) w w' := by
  have HF := Lib.hid (fun W => fixed4B W x h0 h1)
  have hw : IntKind.u64.wrap x = x := by rw [IntKind.wrap_u64]; omega
  go_enter Tryd.func42, Tryd.ntmps42
  go_wp2_with fail
  refine (HF.out _).mono ?_; rintro e w1 ⟨rfl, o1⟩
  go_wp2_with fail
  go_ret
  exact ⟨rfl, o1⟩
theorem u8r_any (w : World) (x : Int) : Calls Tryd.prog 18 #[.int .u8 x] w fun e w' => e = .returned (.string (strOfNums [x])) ∧ Only (fun _ => False) w w' := by
  have hc := conv_one (w.alloc (.cells #[.int .u8 x] 5)) w.heap.size x (by exact (Has.new w 5 #[.int .u8 x]).cell 0)
  go_enter Tryd.func18, Tryd.ntmps18
  go_wp2_with fail
  go_ret
  exact ⟨rfl, (Only.refl _ _).alloc _⟩
set_option maxRecDepth 100000 in
set_option maxHeartbeats 2000000 in
theorem rwords_any (w : World) (width : Int) (vl : Value) (l : List Int) (hv : SlU w vl l) (hx : ∀ x ∈ l, 0 ≤ x ∧ x ≤ 18446744073709551615) (hw0 : 1 ≤ width) (hw1 : width ≤ 64) (hl : l.length ≤ 1000000) :
    Calls Tryd.prog 22 #[.int .i64 width, vl] w fun e w' => e = .returned (.string (strOfNums (wB width l))) ∧ Only (fun _ => False) w w' := by
  obtain ⟨A, cap, rfl, hA⟩ := hv
  obtain ⟨size, hs⟩ := Int.eq_ofNat_of_zero_le (show 0 ≤ (width + 7) / 8 by omega)
  have hsz : size ≤ 8 := by omega
  have HU := Lib.hid (U32r_any w (l.length : Int) (by omega) (by omega))
  have HF := Lib.hid (fun W x (hx : 0 ≤ x ∧ x ≤ 18446744073709551615) => fixedB W x size hx.1 hx.2 hsz)
  have HR := Lib.hid (show wB width l = beB l.length 4 ++ wordsB l size by unfold wB; rw [hs]; rfl)
  rw [HR.out]
  have HA := Lib.hid hA
  have HX := Lib.hid hx
  have HS := Lib.hid hs
  clear hA hs hx
  go_enter Tryd.func22, Tryd.ntmps22
  go_wp2_with fail
  refine (HU.out).mono ?_; rintro e w1 ⟨rfl, o1⟩
  go_wp2_with fail
  go_loopw [5, 6] (fun s i W => ∃ (k : Nat) (z : ByteArray), k ≤ l.length ∧ i = .int .i64 k ∧ s = .string z ∧ z = strOfNums (beB l.length 4 ++ wordsB (l.take k) size) ∧ Only (fun _ => False) w W) (fun _ i _ => l.length - (intOf i).toNat)
  case atStart => exact ⟨0, _, by omega, rfl, rfl, by simp [wordsB], o1⟩
  case round =>
    clear o1
    obtain ⟨k, z, hk, rfl, rfl, hz, ho⟩ := hrel
    have HZ := Lib.hid hz
    have HO := Lib.hid ho
    clear ho hz
    have hlt' : k < l.length ∨ k = l.length := by omega
    rcases hlt' with hlt | rfl
    · obtain ⟨ad, rfl, c0⟩ := HA.out k hlt
      have c0 := HO.out.cell c0 (fun f => f)
      have hr := HX.out l[k] (List.getElem_mem hlt)
      have hk0 : (0 : Int) ≤ (k : Int) := by omega
      have hk1 : (k : Int) < (l.length : Int) := by omega
      have HSN := Lib.hid (wordsB_snoc l k size hlt)
      have hzs : z.size ≤ 8000100 := by
        rw [HZ.out, nums_size, List.length_append, beB_length, wordsB_length, List.length_take]
        have : min k l.length * size ≤ 1000000 * 8 := Nat.mul_le_mul (by omega) hsz
        omega
      generalize l[k] = x at *
      have hq : (width + 7) / 8 = (size : Int) := HS.out
      have HF2 := Lib.hid (fun W => HF.out W x hr)
      have hadd := fun W => run_string_add_sum (P := Tryd.prog) (w := W) z (strOfNums (beB x size)) (by rw [nums_size, beB_length]; omega)
      go_wp2_with fail
      refine (HF2.out _).mono ?_; rintro e wb ⟨rfl, ob⟩
      have HO2 := Lib.hid (HO.out.trans ob)
      go_wp2_with fail
      go_roundw
      case rel =>
        refine ⟨k + 1, _, by omega, by go_num, rfl, ?_, HO2.out⟩
        rw [HSN.out, ← List.append_assoc, nums_app, ← HZ.out]
      case measure => simp only [intOf]; omega
    · go_wp2_with fail
      go_ret
      refine ⟨?_, HO.out⟩
      rw [HZ.out, List.take_length]
      rfl
end Go.Proofs.YtbajgbjpaliecaaDoor
