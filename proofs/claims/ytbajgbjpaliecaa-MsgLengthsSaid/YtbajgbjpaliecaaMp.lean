/- msg.put: what it writes. -/
import Derived.Test.YtbajgbjpaliecaaMd
import Derived.Test.YtbajgbjpaliecaaMo
import Derived.Test.YtbajgbjpaliecaaWr
import Derived.Test.YtbajgbjpaliecaaSp
import Derived.Test.YtbajgbjpaliecaaMw
set_option linter.unusedSimpArgs false
set_option linter.unusedVariables false
namespace Go.Proofs.Ytbajgbjpaliecaa
open Go.RowKit

def wB (width : Int) (l : List Int) : List Int := beB l.length 4 ++ wordsB l ((width + 7) / 8).toNat
def shB (c : Cl) (s : Sh) : List Int := wB c.widths.1 s.a ++ wB c.widths.2.1 s.b ++ wB c.widths.2.2 s.c
/-- What a message has, in bytes. -/
def Mg.body (m : Mg) : List Int :=
  if m.kind = 1 then beB m.batch 4 ++ m.c.nums ++ beB m.count 4 ++ beB m.opened 4 else
  if m.kind = 2 then beB m.batch 4 ++ beB m.chunk 4 ++ beB m.from_ 8 ++ beB m.count 4 ++ ofStr m.data else
  if m.kind = 3 then beB m.batch 4 ++ beB m.chunk 4 ++ [m.width] ++ (beB m.words.length 4 ++ wordsB m.words ((m.width + 7) / 8).toNat) else
  if m.kind = 4 then beB m.batch 4 ++ m.dig else
  if m.kind = 5 then beB m.batch 4 ++ m.seed else
  if m.kind = 7 then beB m.batch 4 ++ [m.code] else
  if m.kind = 8 then m.c.nums ++ beB m.count 4 else
  if m.kind = 9 then beB m.ticket 4 ++ m.c.nums ++ beB m.count 4 ++ beB m.first 4 else
  if m.kind = 10 then beB m.ticket 4 ++ m.c.nums ++ beB m.count 4 ++ beB m.first 4 else
  if m.kind = 11 then beB m.ticket 4 ++ [m.code] else
  if m.kind = 12 then beB m.ticket 4 else
  if m.kind = 13 then [m.code] else
  beB m.batch 4 ++ (m.c.nums ++ beB m.shares.length 4 ++ m.shares.flatMap (shB m.c))
theorem body1 {m : Mg} (h : m.kind = 1) : m.body = beB m.batch 4 ++ m.c.nums ++ beB m.count 4 ++ beB m.opened 4 := by
  unfold Mg.body
  rw [if_pos h]
theorem body2 {m : Mg} (h : m.kind = 2) : m.body = beB m.batch 4 ++ beB m.chunk 4 ++ beB m.from_ 8 ++ beB m.count 4 ++ ofStr m.data := by
  unfold Mg.body
  rw [if_neg (by omega), if_pos h]
theorem body3 {m : Mg} (h : m.kind = 3) : m.body = beB m.batch 4 ++ beB m.chunk 4 ++ [m.width] ++ (beB m.words.length 4 ++ wordsB m.words ((m.width + 7) / 8).toNat) := by
  unfold Mg.body
  rw [if_neg (by omega), if_neg (by omega), if_pos h]
theorem body4 {m : Mg} (h : m.kind = 4) : m.body = beB m.batch 4 ++ m.dig := by
  unfold Mg.body
  rw [if_neg (by omega), if_neg (by omega), if_neg (by omega), if_pos h]
theorem body5 {m : Mg} (h : m.kind = 5) : m.body = beB m.batch 4 ++ m.seed := by
  unfold Mg.body
  rw [if_neg (by omega), if_neg (by omega), if_neg (by omega), if_neg (by omega), if_pos h]
theorem body7 {m : Mg} (h : m.kind = 7) : m.body = beB m.batch 4 ++ [m.code] := by
  unfold Mg.body
  rw [if_neg (by omega), if_neg (by omega), if_neg (by omega), if_neg (by omega), if_neg (by omega), if_pos h]
theorem body8 {m : Mg} (h : m.kind = 8) : m.body = m.c.nums ++ beB m.count 4 := by
  unfold Mg.body
  rw [if_neg (by omega), if_neg (by omega), if_neg (by omega), if_neg (by omega), if_neg (by omega), if_neg (by omega), if_pos h]
theorem body9 {m : Mg} (h : m.kind = 9) : m.body = beB m.ticket 4 ++ m.c.nums ++ beB m.count 4 ++ beB m.first 4 := by
  unfold Mg.body
  rw [if_neg (by omega), if_neg (by omega), if_neg (by omega), if_neg (by omega), if_neg (by omega), if_neg (by omega), if_neg (by omega), if_pos h]
theorem body10 {m : Mg} (h : m.kind = 10) : m.body = beB m.ticket 4 ++ m.c.nums ++ beB m.count 4 ++ beB m.first 4 := by
  unfold Mg.body
  rw [if_neg (by omega), if_neg (by omega), if_neg (by omega), if_neg (by omega), if_neg (by omega), if_neg (by omega), if_neg (by omega), if_neg (by omega), if_pos h]
theorem body11 {m : Mg} (h : m.kind = 11) : m.body = beB m.ticket 4 ++ [m.code] := by
  unfold Mg.body
  rw [if_neg (by omega), if_neg (by omega), if_neg (by omega), if_neg (by omega), if_neg (by omega), if_neg (by omega), if_neg (by omega), if_neg (by omega), if_neg (by omega), if_pos h]
theorem body12 {m : Mg} (h : m.kind = 12) : m.body = beB m.ticket 4 := by
  unfold Mg.body
  rw [if_neg (by omega), if_neg (by omega), if_neg (by omega), if_neg (by omega), if_neg (by omega), if_neg (by omega), if_neg (by omega), if_neg (by omega), if_neg (by omega), if_neg (by omega), if_pos h]
theorem body13 {m : Mg} (h : m.kind = 13) : m.body = [m.code] := by
  unfold Mg.body
  rw [if_neg (by omega), if_neg (by omega), if_neg (by omega), if_neg (by omega), if_neg (by omega), if_neg (by omega), if_neg (by omega), if_neg (by omega), if_neg (by omega), if_neg (by omega), if_neg (by omega), if_pos h]
theorem body6 {m : Mg} (h : m.kind = 6) : m.body = beB m.batch 4 ++ (m.c.nums ++ beB m.shares.length 4 ++ m.shares.flatMap (shB m.c)) := by
  unfold Mg.body
  rw [if_neg (by omega), if_neg (by omega), if_neg (by omega), if_neg (by omega), if_neg (by omega), if_neg (by omega), if_neg (by omega), if_neg (by omega), if_neg (by omega), if_neg (by omega), if_neg (by omega), if_neg (by omega)]
theorem good_class {m : Mg} (hk : m.kind = 1 ∨ m.kind = 6 ∨ m.kind = 8 ∨ m.kind = 9 ∨ m.kind = 10) (hc : m.check = 0) : m.c.check = 0 := by
  rcases hk with hk | hk | hk | hk | hk
  · rw [Mg.check1 hk] at hc; unfold batchC at hc; split at hc <;> omega
  · rw [Mg.check6 hk] at hc; unfold sharesC at hc; split at hc <;> omega
  · rw [Mg.check8 hk] at hc; exact hc
  · rw [Mg.check9 (by omega)] at hc; unfold ticketC at hc; split at hc <;> omega
  · rw [Mg.check9 (by omega)] at hc; unfold ticketC at hc; split at hc <;> omega
theorem nums_length (c : Cl) : c.nums.length = 5 := rfl
theorem nums_range {c : Cl} (h : c.check = 0) : ∀ x ∈ c.nums, 0 ≤ x ∧ x ≤ 255 := by
  obtain ⟨kind, bits, m, k, n⟩ := c
  intro x hx
  simp only [Cl.nums, List.mem_cons, List.not_mem_nil, or_false] at hx
  rcases Cl.good h with ⟨rfl, hm, hk2, hn, hb⟩ | ⟨rfl | rfl, rfl, rfl, rfl, hb⟩ | ⟨rfl, rfl, rfl, rfl, rfl⟩
  all_goals (rcases hx with rfl | rfl | rfl | rfl | rfl <;> omega)
theorem good2 {m : Mg} (hk : m.kind = 2) (hc : m.check = 0) : 1 ≤ m.count ∧ m.count ≤ 512 ∧ m.data.size ≤ 8192 := by
  rw [Mg.check2 hk] at hc
  split at hc
  · omega
  · split at hc
    · omega
    · rename_i h1 h2
      have h2 : (m.data.size : Int) = colSize m.count := by simpa using h2
      unfold colSize at h2
      omega
theorem good3 {m : Mg} (hk : m.kind = 3) (hc : m.check = 0) : 1 ≤ m.width ∧ m.width ≤ 64 ∧ m.words.length ≤ 3072 := by
  rw [Mg.check3 hk] at hc
  unfold wordsC at hc
  split at hc
  · omega
  · split at hc <;> omega
theorem good_kind {m : Mg} (hc : m.check = 0) : 1 ≤ m.kind ∧ m.kind ≤ 13 := by
  have : ¬ (m.kind < 1 ∨ 13 < m.kind) := fun h => by rw [Mg.check0 h] at hc; omega
  omega
theorem conv_32 {W : World} {b : Nat} {t : TypeId} {cs : Array Value} (h : Has W b t cs) (o : Nat) (l : List Int) (hl : l.length = 32) (hc : ∀ i, i < 32 → cs[o + i]? = some (.int .u8 (l.getD i 0))) : (convert 66 9 (.slice (some ⟨b, o, none⟩) 32 32)).run Try.prog W = .ok (.string (strOfNums l)) W :=
  run_convert_bytes_arg W 66 5 Try.underlying66 Try.underlying5 b o 32 32 l hl (fun i hi => by rw [h.cell]; exact hc i hi) 9 Try.underlying9
theorem of_str_nums (l : List Int) (h : ∀ x ∈ l, 0 ≤ x ∧ x ≤ 255) : ofStr (strOfNums l) = l := by
  simp only [ofStr, strOfNums_data, List.map_map]
  have : ∀ x ∈ l, ((fun b : UInt8 => (b.toNat : Int)) ∘ fun n : Int => UInt8.ofNat n.toNat) x = x := by
    intro x hx
    have := h x hx
    simp only [Function.comp, UInt8.toNat_ofNat']
    omega
  rw [List.map_congr_left this, List.map_id']
end Go.Proofs.Ytbajgbjpaliecaa
