/- ShapeReads: what is read is what is written. -/
import Derived.Test.YtigcfgmblnbleaaDoorSpr
import Derived.Test.YtigcfgmblnbleaaDoorSg0
import Derived.Test.YtigcfgmblnbleaaDoorSg1
import Derived.Test.YtigcfgmblnbleaaDoorSg2
set_option linter.unusedSimpArgs false
set_option linter.unusedVariables false
namespace Go.Proofs.YtigcfgmblnbleaaDoor
open Go.RowKit

theorem qget_all (w : World) (s : ByteArray) (hs : s.size ≤ 140737488351232) : Calls Tryd.prog 30 #[.agg #[.string s, .int .i64 0, .int .i64 0]] w fun x w' =>
    ∃ a, x = .returned (.tuple #[.agg #[.string s, .int .i64 a, .int .i64 (getE s)], .agg (getC s).1.cells]) ∧ Only (fun _ => False) w w' := by
  by_cases h5 : s.size < 5
  · exact qget_short w s hs h5
  · by_cases hc : (rawC s).check = 0
    · exact qget_ok w s hs h5 hc
    · exact qget_bad w s hs h5 hc
/-- The fault and its number. -/
theorem get_err (s : ByteArray) : ((getC s).2.err = none ∧ getE s = 0 ∧ 5 ≤ s.size ∧ (getC s).1 = rawC s) ∨ (getE s ≠ 0 ∧ ∃ l, (getC s).2.err = some (l, getE s)) := by
  unfold getC getE
  by_cases h5 : s.size < 5
  · right
    rw [if_pos h5, if_pos h5]
    exact ⟨by decide, _, rfl⟩
  · rw [if_neg h5, if_neg h5]
    by_cases hc : (rawC s).check = 0
    · left
      rw [if_pos hc]
      exact ⟨rfl, hc, by omega, rfl⟩
    · right
      rw [if_neg hc]
      exact ⟨hc, _, rfl⟩
theorem nums_raw (s : ByteArray) : ∀ x ∈ (rawC s).nums, 0 ≤ x ∧ x ≤ 255 := by
  intro x hx
  simp only [rawC, Cl.nums, List.mem_cons, List.not_mem_nil, or_false] at hx
  rcases hx with rfl | rfl | rfl | rfl | rfl <;> exact nv_range s _
theorem nv_byte (s : ByteArray) (i : Nat) (h : i < s.size) : nv s i = (s[i].toNat : Int) := by
  unfold nv num
  rw [if_pos h]
  have h1 : (s.extract i (i + 1)).data.toList = [s[i]] := by
    have h2 : (s.extract i (i + 1)).data.toList = (s.data.toList.drop i).take 1 := by
      simp [ByteArray.data_extract, Array.toList_extract, List.extract_eq_take_drop]
    rw [h2, List.drop_eq_getElem_cons (by simpa using h)]
    rfl
  unfold ofStr
  rw [h1]
  simp [beV]
theorem raw_bytes (s : ByteArray) (h : 5 ≤ s.size) : strOfNums (rawC s).nums = s.extract 0 5 := by
  have e : ∀ i, i < 5 → s.data.toList[i]? = some (UInt8.ofNat (nv s i).toNat) := by
    intro i hi
    have hi2 : i < s.size := by omega
    rw [nv_byte s i hi2, Int.toNat_natCast, UInt8.ofNat_toNat, List.getElem?_eq_getElem (by simpa using hi2)]
    rfl
  apply ByteArray.ext
  apply Array.ext'
  have h1 : (s.extract 0 5).data.toList = s.data.toList.take 5 := by
    simp [ByteArray.data_extract, Array.toList_extract, List.extract_eq_take_drop]
  rw [h1]
  apply List.ext_getElem?
  intro i
  by_cases hi : i < 5
  · rw [List.getElem?_take_of_lt hi, e i hi]
    have hi : i = 0 ∨ i = 1 ∨ i = 2 ∨ i = 3 ∨ i = 4 := by omega
    rcases hi with rfl | rfl | rfl | rfl | rfl <;> rfl
  · rw [List.getElem?_eq_none (by simp [strOfNums, rawC, Cl.nums]; omega), List.getElem?_eq_none (by rw [List.length_take]; omega)]
end Go.Proofs.YtigcfgmblnbleaaDoor
