/- Slices of strings; the reference's Texts. -/
import Derived.Test.YthagbbeppklpmaaDoorMem
import Derived.Test.YthagbbeppklpmaaDoorProg
import Derived.WalkKit
import Derived.WalkSpells
import Derived.RegionTactic
import Derived.Deep.RegionHeld3
import Derived.BigQuiet
import Derived.Deep.QuietTactic
import Derived.OwnWalk
import Derived.Outline
import Derived.Lib.Hide
import Derived.LoopTactic
set_option linter.unusedSimpArgs false
set_option linter.unusedVariables false
namespace Go.Proofs.YthagbbeppklpmaaDoor
open Go.RowKit

theorem bytes_eq (a b : ByteArray) : (a.toList == b.toList) = decide (a = b) := by
  rw [ByteArray.toList_eq, ByteArray.toList_eq]
  by_cases h : a = b
  · subst h; simp
  · have : ¬ a.data = b.data := fun e => h (ByteArray.ext e)
    simp [h, this]

/-- The value is a slice of these strings. -/
def SlS (W : World) (v : Value) (l : List ByteArray) : Prop := ∃ A c, v = .slice A l.length c ∧ ∀ i, (h : i < l.length) → ∃ ad, A = some ad ∧ W.cell? (ad.add i) = some (.string l[i])
theorem slS_own {W : World} {base : Nat} {v : Value} {l : List ByteArray} (h : W.ownsRow base 9 1 v l.length (l.map fun s => .string s)) : SlS W v l := by
  rcases h.2 with ⟨rfl, h0⟩ | ⟨g, cap, cur, rfl, _⟩
  · exact ⟨none, 0, by rw [h0], fun i hi => by omega⟩
  · refine ⟨some ⟨g, 0, none⟩, cap, rfl, fun i hi => ⟨_, rfl, ?_⟩⟩
    exact h.cells (g := g) rfl i (.string l[i]) (by simp [hi])
theorem slS_two (w : World) (s t : ByteArray) : SlS (w.alloc (.cells #[.string s, .string t] 9)) (.slice (some ⟨w.heap.size, 0, none⟩) 2 2) [s, t] := by
  have hn := Has.new w 9 #[.string s, .string t]
  refine ⟨some ⟨w.heap.size, 0, none⟩, 2, rfl, fun i hi => ⟨_, rfl, ?_⟩⟩
  have hi2 : i < 2 := hi
  have hi' : i = 0 ∨ i = 1 := by omega
  rcases hi' with rfl | rfl
  · exact hn.cell 0
  · exact hn.cell 1
theorem SlS.only {W W' : World} {v : Value} {l : List ByteArray} (h : SlS W v l) (o : Only (fun _ => False) W W') : SlS W' v l := by
  obtain ⟨A, c, e, hc⟩ := h
  exact ⟨A, c, e, fun i hi => by obtain ⟨ad, ha, hx⟩ := hc i hi; exact ⟨ad, ha, o.cell hx (fun f => f)⟩⟩

set_option maxRecDepth 100000 in
set_option maxHeartbeats 2000000 in
theorem texts_any (w : World) (a b : Value) (l m : List ByteArray) (ha : SlS w a l) (hb : SlS w b m) (hl : l.length ≤ 1000000) (hm : m.length ≤ 1000000) :
    Calls Tryd.prog 14 #[a, b] w fun e w' => e = .returned (.bool (decide (l = m))) ∧ Only (fun _ => False) w w' := by
  obtain ⟨A, ca, rfl, hA⟩ := ha
  obtain ⟨B, cb, rfl, hB⟩ := hb
  by_cases hn : l.length = m.length
  · have hd : (l = m) ↔ ∀ i, i < l.length → l[i]? = m[i]? := by
      constructor
      · rintro rfl i hi; rfl
      · intro h
        refine List.ext_getElem? fun i => ?_
        by_cases hi : i < l.length
        · exact h i hi
        · rw [List.getElem?_eq_none (by omega), List.getElem?_eq_none (by omega)]
    have HD := Lib.hid hd
    clear hd
    have HN := Lib.hid hn
    rw [← hn]
    have HM := Lib.hid hm
    clear hm
    clear hn
    go_enter Tryd.func14, Tryd.ntmps14
    go_wp2_with fail
    go_loopw [5] (fun i W => ∃ k : Nat, k ≤ l.length ∧ i = .int .i64 k ∧ (∀ i, i < k → l[i]? = m[i]?) ∧ Only (fun _ => False) w W) (fun i _ => l.length - (intOf i).toNat)
    case atStart => exact ⟨0, by omega, rfl, fun i h => by omega, Only.refl _ _⟩
    case round =>
      obtain ⟨k, hk, rfl, hall, ho⟩ := hrel
      have hlt' : k < l.length ∨ k = l.length := by omega
      have HALL := Lib.hid hall
      clear hall
      rcases hlt' with hlt | rfl
      · obtain ⟨ad, rfl, c0⟩ := hA k hlt
        obtain ⟨bd, rfl, c1⟩ := hB k (by have := HN.out; omega)
        have c0 := ho.cell c0 (fun f => f)
        have c1 := ho.cell c1 (fun f => f)
        have hmk : k < m.length := by have := HN.out; omega
        have hk1 : (k : Int) < (l.length : Int) := by omega
        have hk0 : (0 : Int) ≤ (k : Int) := by omega
        by_cases he : l[k] = m[k]
        · have HE := Lib.hid he
          rw [← he] at c1
          generalize l[k] = s at c0 c1
          clear he hA hB
          go_wp2_with fail
          go_quiet (fail)
          go_wp2_with fail
          go_roundw
          case rel =>
            refine ⟨k + 1, by omega, by go_num, fun i hi => ?_, ho.drewN _⟩
            by_cases e : i = k
            · subst e; rw [List.getElem?_eq_getElem hlt, List.getElem?_eq_getElem hmk, HE.out]
            · exact HALL.out i (by omega)
          case measure => simp only [intOf]; omega
        · have hf : decide (l = m) = false := by
            refine decide_eq_false fun e => he ?_
            have := HD.out.1 e k hlt
            rw [List.getElem?_eq_getElem hlt, List.getElem?_eq_getElem hmk] at this
            exact Option.some.inj this
          have HF := Lib.hid hf
          have hq := bytes_eq l[k] m[k]
          rw [decide_eq_false he] at hq
          generalize l[k] = s at c0 hq
          generalize m[k] = t at c1 hq
          clear hf he hA hB
          go_wp2_with fail
          go_quiet (fail)
          go_wp2_with fail
          go_ret
          refine ⟨?_, ho.drewN _⟩
          rw [HF.out]
          rfl
      · have ht : decide (l = m) = true := by
          exact decide_eq_true (HD.out.2 HALL.out)
        have HF := Lib.hid ht
        clear ht
        go_wp2_with fail
        go_ret
        refine ⟨?_, ho⟩
        rw [HF.out]
        rfl
  · have hd : decide (l = m) = false := decide_eq_false (fun e => hn (by rw [e]))
    rw [hd]
    have hn' : ((l.length : Int) == (m.length : Int)) = false := by simp; omega
    clear hd hn hA hB
    go_enter Tryd.func14, Tryd.ntmps14
    go_wp2_with fail
    go_ret
    exact ⟨rfl, Only.refl _ _⟩
end Go.Proofs.YthagbbeppklpmaaDoor
