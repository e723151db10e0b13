/- bits.Read. -/
import Derived.Test.YtkafnkkipflbbaaDoorBw
import Derived.Test.YtkafnkkipflbbaaDoorMq
import Derived.BigRegion
set_option linter.unusedSimpArgs false
set_option linter.unusedVariables false
namespace Go.Proofs.YtkafnkkipflbbaaDoor
open Go.RowKit

theorem byteBit_far {s : ByteArray} {i : Nat} (h : 8 * s.size ≤ i) : byteBit s i = false := by
  unfold byteBit
  rw [List.getD_eq_getElem?_getD, List.getElem?_eq_none (by rw [Array.length_toList]; show s.size ≤ i / 8; omega)]
  simp
theorem byteBit_at {s : ByteArray} {i : Nat} (h : i / 8 < s.size) : byteBit s i = s[i / 8].toNat.testBit (i % 8) := by
  unfold byteBit
  rw [List.getD_eq_getElem?_getD, List.getElem?_eq_getElem (by rw [Array.length_toList]; exact h)]
  rfl
theorem upTo_all (s : ByteArray) (i : Nat) : upTo (byteBit s) (8 * s.size) i = byteBit s i := by
  unfold upTo
  by_cases h : i < 8 * s.size
  · simp [h]
  · simp [h, byteBit_far (s := s) (i := i) (by omega)]
/-- Whole bytes. -/
theorem bitsOf_whole {n : Nat} {s : ByteArray} (h : s.size = (n + 7) / 8) (h0 : n % 8 = 0) : bitsOf n s = some ((List.range n).map (byteBit s)) := by
  unfold bitsOf
  rw [if_pos]
  simp only [List.all_eq_true, List.mem_range]
  intro i hi
  have : i < n := by omega
  simp [this]
theorem bitsOf_last {n : Nat} {s : ByteArray} (h : s.size = (n + 7) / 8) (h0 : n % 8 ≠ 0) (hl : s.size - 1 < s.size) :
    bitsOf n s = if s[s.size - 1].toNat / 2 ^ (n % 8) = 0 then some ((List.range n).map (byteBit s)) else none := by
  have hb := s[s.size - 1].toNat_lt
  unfold bitsOf
  by_cases hz : s[s.size - 1].toNat / 2 ^ (n % 8) = 0
  · rw [if_pos hz, if_pos]
    simp only [List.all_eq_true, List.mem_range]
    intro i hi
    by_cases hin : i < n
    · simp [hin]
    · have hd : i / 8 = s.size - 1 := by omega
      rw [byteBit_at (by omega)]
      have he : s[i / 8]'(by omega) = s[s.size - 1] := by congr 1
      rw [he]
      have hlt : s[s.size - 1].toNat < 2 ^ (i % 8) := by
        have h1 : s[s.size - 1].toNat < 2 ^ (n % 8) := by
          rcases Nat.div_eq_zero_iff.1 hz with h2 | h2
          · have := Nat.two_pow_pos (n % 8); omega
          · exact h2
        exact Nat.lt_of_lt_of_le h1 (Nat.pow_le_pow_right (by decide) (by omega))
      simp [Nat.testBit_lt_two_pow hlt]
  · rw [if_neg hz, if_neg]
    intro hall
    simp only [List.all_eq_true, List.mem_range] at hall
    apply hz
    apply Nat.eq_of_testBit_eq
    intro j
    rw [Nat.testBit_div_two_pow, Nat.zero_testBit]
    by_cases hj : j + n % 8 < 8
    · have hi : 8 * (s.size - 1) + (j + n % 8) < 8 * s.size := by omega
      have h2 := hall _ hi
      have h3 : ¬ 8 * (s.size - 1) + (j + n % 8) < n := by omega
      rw [byteBit_at (by omega)] at h2
      have he : s[(8 * (s.size - 1) + (j + n % 8)) / 8]'(by omega) = s[s.size - 1] := by congr 1; omega
      rw [he, show (8 * (s.size - 1) + (j + n % 8)) % 8 = j + n % 8 by omega] at h2
      simpa [h3] using h2
    · exact Nat.testBit_lt_two_pow (Nat.lt_of_lt_of_le hb (Nat.pow_le_pow_right (n := 2) (by decide) (by omega)))

theorem res_read {W : World} {b : Nat} {x0 x1 v : Value} {tm : Array Value} (h : Has W b 77 #[x0, x1]) (h8 : tm.getD 4 undef = .pointer (some ⟨b, 0, none⟩)) (h9 : tm.getD 5 undef = v) :
    (results Tryd.f53 tm).run Tryd.prog W = .ok (.tuple #[.agg #[x0, x1], v]) W := by
  obtain ⟨c0, c1, _⟩ := h.facts2
  simp only [Array.getD_eq_getD_getElem?] at h8 h9
  simp [results, Tryd.results53, go_sem, h8, h9, c0, c1]
theorem byte_word (s : ByteArray) (i : Nat) (hi : i < s.size) : bits .or .u64 (wd (upTo (byteBit s) (8 * i)) (i / 8) : Int) ((s[i].toNat : Int) * 2 ^ (8 * (i % 8))) = (wd (upTo (byteBit s) (8 * (i + 1))) (i / 8) : Int) := by
  have hb := s[i].toNat_lt
  have h1 : 2 ^ (8 * (i % 8)) ≤ 2 ^ 56 := Nat.pow_le_pow_right (by decide) (by omega)
  have h2 : s[i].toNat * 2 ^ (8 * (i % 8)) ≤ 255 * 2 ^ 56 := Nat.mul_le_mul (by omega) h1
  rw [← wd_byte s i hi, ← u64_or _ _ (wd_lt _ _) (by omega)]
  simp
theorem byte_wrap (b m : Nat) (hb : b < 256) (hm : m < 8) : IntKind.u64.wrap (IntKind.u64.wrap (b : Int) * 2 ^ (8 * m)) = (b : Int) * 2 ^ (8 * m) := by
  have h1 : 2 ^ (8 * m) ≤ 2 ^ 56 := Nat.pow_le_pow_right (by decide) (by omega)
  have h2 : b * 2 ^ (8 * m) ≤ 255 * 2 ^ 56 := Nat.mul_le_mul (by omega) h1
  have h3 : ((b * 2 ^ (8 * m) : Nat) : Int) = (b : Int) * 2 ^ (8 * m) := by simp
  rw [show IntKind.u64.wrap (b : Int) = b by rw [IntKind.wrap_u64]; omega, ← h3]
  exact wraps_u64 _ (by omega) (by omega)
def ReadPost (n : Nat) (s : ByteArray) (B : Nat) (e : Ending) (W : World) : Prop := match bitsOf n s with
  | some _ => ∃ v, e = .returned (.tuple #[v, .int .i64 0]) ∧ VecIs W B v n (byteBit s)
  | none => e = .returned (.tuple #[.agg #[.int .i64 0, .slice none 0 0], .int .i64 13])
set_option maxRecDepth 100000 in
set_option maxHeartbeats 4000000 in
theorem bread_any (w : World) (n : Nat) (s : ByteArray) (hn : n ≤ 4194304) (hs : s.size = (n + 7) / 8) : Calls Tryd.prog 53 #[.int .i64 n, .string s] w fun x w' => ReadPost n s w.heap.size x w' ∧ Only (fun _ => False) w w' := by
  have HN := Lib.hid (fun W => bnew_any W n hn)
  have hz : ((n : Int) + 7) / 8 = (s.size : Int) := by omega
  have HS := Lib.hid hs
  have hs0 : s.size ≤ 1000000 := by omega
  have HNW := Lib.hid (show ∀ i, i < s.size → i / 8 < nw n by intro i hi; unfold nw; omega)
  clear hs
  go_enter Tryd.func53, Tryd.ntmps53
  go_wp2_with fail
  refine (HN.out _).mono ?_; rintro e w1 ⟨⟨g, rfl, hg, hrow⟩, o1⟩
  have B1 : Has w1 w.heap.size 77 #[.int .i64 0, .slice none 0 0] := o1.has (Has.new _ _ _) (fun f => f)
  have hg : w.heap.size + 1 ≤ g := by simpa using hg
  have O1 : Only (fun _ => False) w w1 := ((Only.refl _ _).alloc _).trans o1
  have hgl := hrow.lt
  have hsz1 := O1.size
  have R2 := hrow.alloc (.cells #[.int .i64 n, .slice (some ⟨g, 0, none⟩) (nw n) (nw n)] 77)
  have B2 := B1.alloc (.cells #[.int .i64 n, .slice (some ⟨g, 0, none⟩) (nw n) (nw n)] 77)
  have C2 := Has.new w1 77 #[.int .i64 n, .slice (some ⟨g, 0, none⟩) (nw n) (nw n)]
  have O2 := O1.alloc (.cells #[.int .i64 n, .slice (some ⟨g, 0, none⟩) (nw n) (nw n)] 77)
  have hne : w1.heap.size ≠ g := by omega
  clear hrow o1 B1 O1
  go_wp2_with fail
  go_loopw [8, 28] (fun _ j W => ∃ i : Nat, i ≤ s.size ∧ j = .int .i64 i ∧ W.rowIs g 25 (nw n) (wcell (upTo (byteBit s) (8 * i))) ∧ Has W w.heap.size 77 #[.int .i64 0, .slice none 0 0] ∧ Has W w1.heap.size 77 #[.int .i64 n, .slice (some ⟨g, 0, none⟩) (nw n) (nw n)] ∧ Only (fun _ => False) w W) (fun _ j _ => s.size - (intOf j).toNat)
  case atStart => exact ⟨0, by omega, rfl, R2.congr (fun k hk => by unfold wcell; rw [wd_zero (fun j hj => by simp [upTo])]; rfl), B2, C2, O2⟩
  case round =>
    obtain ⟨i, hi, rfl, hrow, hB, hC, hO⟩ := hrel
    have hi' : i < s.size ∨ i = s.size := by omega
    rcases hi' with hlt | rfl
    · have hlt' : (i : Int) < (s.size : Int) := by omega
      have hk := HNW.out i hlt
      have c1 : wr.cell? ⟨w1.heap.size, 1, none⟩ = some (.slice (some ⟨g, 0, none⟩) (nw n) (nw n)) := hC.cell 1
      have cg := hrow.cell hk
      have fg := hrow.frozen (i / 8)
      have hor := byte_word s i hlt
      simp only [wcell] at cg
      have hd : (i : Int) / 8 = ((i / 8 : Nat) : Int) := by omega
      have hm : (i : Int) % 8 = ((i % 8 : Nat) : Int) := by omega
      have hm8 : i % 8 < 8 := Nat.mod_lt _ (by decide)
      generalize hkg : i / 8 = k at *
      generalize hmg : i % 8 = m at *
      generalize hbg : s[i].toNat = b at *
      generalize hX : wd (upTo (byteBit s) (8 * i)) k = X at *
      generalize hY : wd (upTo (byteBit s) (8 * (i + 1))) k = Y at *
      have hk' : (k : Int) < (nw n : Int) := by omega
      have hb256 : b < 256 := by rw [← hbg]; exact s[i].toNat_lt
      rw [← byte_wrap b m hb256 hm8] at hor
      have HY := Lib.hid hY
      have HX := Lib.hid hX
      have HKG := Lib.hid hkg
      have HR := Lib.hid hrow
      clear hY hX hmg hkg hb256 hrow
      go_wp2_with fail
      go_region
      go_wp2_with fail
      go_roundw
      case rel =>
        refine ⟨i + 1, by omega, by go_num, ?_, ?_, ?_, ?_⟩
        · refine World.rowIs.congr (World.rowIs.drew (HR.out.set k (.int .u64 (Y : Int)))) (fun j hj => ?_)
          by_cases hjk : j = k
          · subst hjk
            simp only [if_pos, wcell]
            rw [HY.out]
          · rw [if_neg hjk]
            unfold wcell
            rw [wd_byte_off s i j (by rw [HKG.out]; exact hjk)]
        · exact (hB.far (p := ⟨g, k, none⟩) (by show w.heap.size ≠ g; omega) _).drew
        · exact (hC.far (p := ⟨g, k, none⟩) hne _).drew
        · exact (hO.setCell ⟨g, k, none⟩ _ (fun q => absurd q (by show ¬ g < w.heap.size; omega))).drew
      case measure => simp only [intOf]; omega
    · have hlt' : ¬ (s.size : Int) < (s.size : Int) := by omega
      have hfin : wr.rowIs g 25 (nw n) (wcell (byteBit s)) := hrow.congr fun k hk => by unfold wcell; rw [wd_congr fun j hj => upTo_all s (64 * k + j)]
      obtain ⟨b0, b1, bf⟩ := hB.facts2
      obtain ⟨c0, c1, cf⟩ := hC.facts2
      clear cf hrow
      by_cases h0 : n % 8 = 0
      · have hbo := Lib.hid (bitsOf_whole HS.out h0)
        have hm0 : (n : Int) % 8 = 0 := by omega
        clear h0
        go_wp2_with fail
        refine bodyPost_ret (v := .tuple #[.agg #[.int .i64 n, .slice (some ⟨g, 0, none⟩) (nw n) (nw n)], .int .i64 0]) ?hr rfl ?hp
        case hr => exact res_read (b := w.heap.size) (Has.put2 hB rfl _ _) rfl rfl
        case hp =>
          refine ⟨?_, hO.then_ (Only.put2 _ w.heap.size (.int .i64 (n : Int)) (.slice (some ⟨g, 0, none⟩) (nw n) (nw n))) (fun i hi e => absurd hi (by have : i = w.heap.size := e; omega))⟩
          unfold ReadPost
          rw [hbo.out]
          exact ⟨_, rfl, .inr ⟨g, by omega, rfl, (hfin.setOther (a := ⟨w.heap.size, 0, none⟩) (by show g ≠ w.heap.size; omega) _).setOther (a := ⟨w.heap.size, 1, none⟩) (by show g ≠ w.heap.size; omega) _⟩⟩
      · have hpos : 0 < s.size := by have := HS.out; omega
        have hbo := bitsOf_last HS.out h0 (by omega)
        obtain ⟨l, hl⟩ : ∃ l, s.size = l + 1 := ⟨s.size - 1, by omega⟩
        have hl1 : (s.size : Int) - 1 = (l : Int) := by omega
        have hll : (l : Int) < (s.size : Int) := by omega
        have hlN : l < s.size := by omega
        have hbo : bitsOf n s = if s[l].toNat / 2 ^ (n % 8) = 0 then some ((List.range n).map (byteBit s)) else none := by
          rw [hbo]
          have : s[s.size - 1]'(by omega) = s[l] := by congr 1; omega
          rw [this]
        have hm0 : (n : Int) % 8 = ((n % 8 : Nat) : Int) := by omega
        have hr8 : n % 8 < 8 := by omega
        generalize n % 8 = r at *
        have hr0 : ((r : Int) != 0) = true := by
          have : (r : Int) ≠ 0 := by omega
          simpa using this
        have hmn : min r 8 = r := by omega
        clear hl h0
        by_cases hz : s[l].toNat / 2 ^ r = 0
        · rw [if_pos hz] at hbo
          have hbo := Lib.hid hbo
          have hz' : ((s[l].toNat : Int) / 2 ^ r != 0) = false := by
            have : (s[l].toNat : Int) / 2 ^ r = ((s[l].toNat / 2 ^ r : Nat) : Int) := by simp
            rw [this, hz]
            rfl
          clear hz
          go_wp2_with fail
          refine bodyPost_ret (v := .tuple #[.agg #[.int .i64 n, .slice (some ⟨g, 0, none⟩) (nw n) (nw n)], .int .i64 0]) ?hr rfl ?hp
          case hr => exact res_read (b := w.heap.size) (Has.put2 hB rfl _ _) rfl rfl
          case hp =>
            refine ⟨?_, hO.then_ (Only.put2 _ w.heap.size (.int .i64 (n : Int)) (.slice (some ⟨g, 0, none⟩) (nw n) (nw n))) (fun i hi e => absurd hi (by have : i = w.heap.size := e; omega))⟩
            unfold ReadPost
            rw [hbo.out]
            exact ⟨_, rfl, .inr ⟨g, by omega, rfl, (hfin.setOther (a := ⟨w.heap.size, 0, none⟩) (by show g ≠ w.heap.size; omega) _).setOther (a := ⟨w.heap.size, 1, none⟩) (by show g ≠ w.heap.size; omega) _⟩⟩
        · rw [if_neg hz] at hbo
          have hbo := Lib.hid hbo
          have hz' : ((s[l].toNat : Int) / 2 ^ r != 0) = true := by
            have h1 : (s[l].toNat : Int) / 2 ^ r = ((s[l].toNat / 2 ^ r : Nat) : Int) := by simp
            have : (s[l].toNat : Int) / 2 ^ r ≠ 0 := by omega
            simpa using this
          clear hz
          go_wp2_with fail
          refine bodyPost_ret (v := .tuple #[.agg #[.int .i64 0, .slice none 0 0], .int .i64 13]) ?hr rfl ?hp
          case hr => exact res_read (b := w.heap.size) (Has.put2 hB rfl _ _) rfl rfl
          case hp =>
            refine ⟨?_, hO.then_ (Only.put2 _ w.heap.size (.int .i64 0) (.slice none 0 0)) (fun i hi e => absurd hi (by have : i = w.heap.size := e; omega))⟩
            unfold ReadPost
            rw [hbo.out]
end Go.Proofs.YtkafnkkipflbbaaDoor
