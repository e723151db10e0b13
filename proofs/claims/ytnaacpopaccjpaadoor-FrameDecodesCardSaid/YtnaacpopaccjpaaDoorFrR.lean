/- The reference of layer 11: Decode. -/
import Derived.Test.YtnaacpopaccjpaaDoorFrN
import Derived.Test.YtnaacpopaccjpaaDoorFrE1
import Derived.Lib.Strings
set_option linter.unusedSimpArgs false
set_option linter.unusedVariables false
namespace Go.Proofs.YtnaacpopaccjpaaDoor
open Go.RowKit Go.Lib

theorem res_rdec {W : World} {b : Nat} {x0 x1 x2 x3 x4 x5 n : Value} {tm : Array Value} (h : Has W b 24 #[x0, x1, x2, x3, x4, x5]) (h8 : tm.getD 2 undef = .pointer (some ⟨b, 0, none⟩)) (h9 : tm.getD 3 undef = n) :
    (results Tryd.f13 tm).run Tryd.prog W = .ok (.tuple #[.agg #[x0, x1, x2, x3, x4, x5], n]) W := by
  obtain ⟨c0, c1, c2, c3, c4, c5, _⟩ := h.facts6
  simp only [Array.getD_eq_getD_getElem?] at h8 h9
  simp [results, Tryd.results13, go_sem, h8, h9, c0, c1, c2, c3, c4, c5]

set_option maxRecDepth 100000 in
theorem rdecode_short (w : World) (s : ByteArray) (hs : s.size ≤ 140737488351232) (hs17 : s.size < 17) : Calls Tryd.prog 13 #[.string s] w fun x w' =>
    x = .returned (.tuple #[.agg zeroFr.cells, .int .i64 12]) ∧ Only (fun _ => False) w w' := by
  have h17 : (s.size : Int) < 17 := by omega
  go_enter Tryd.func13, Tryd.ntmps13
  go_wp2_with fail
  refine bodyPost_ret (v := .tuple #[.agg zeroFr.cells, .int .i64 12]) ?hr rfl ?hp
  case hr => exact res_rdec (b := w.heap.size) (Has.new _ _ _) rfl rfl
  case hp => exact ⟨rfl, (Only.refl _ _).alloc _⟩

/-- The row of numbers, held. -/
abbrev Nh (W : World) (g : Nat) (s : ByteArray) : Prop := W.cell? ⟨g, 0, none⟩ = some (.int .u32 (num s 1 4)) ∧ W.cell? ⟨g, 1, none⟩ = some (.int .u32 (num s 5 4)) ∧ W.cell? ⟨g, 2, none⟩ = some (.int .u32 (num s 9 4)) ∧ W.cell? ⟨g, 3, none⟩ = some (.int .u32 (num s 13 4))
theorem nh_of {W : World} {g : Nat} {s : ByteArray} {cur : Array Value} (h : Has W g 22 cur) (ht : cur.toList.take 4 = nums4 s 4) : Nh W g s := by
  have hx : ∀ i, i < 4 → cur[i]? = (nums4 s 4)[i]? := by
    intro i hi
    rw [← ht, List.getElem?_take_of_lt hi, Array.getElem?_toList]
  refine ⟨?_, ?_, ?_, ?_⟩
  · rw [h.cell 0, hx 0 (by omega)]; rfl
  · rw [h.cell 1, hx 1 (by omega)]; rfl
  · rw [h.cell 2, hx 2 (by omega)]; rfl
  · rw [h.cell 3, hx 3 (by omega)]; rfl

theorem num_first (s : ByteArray) (hs : 17 ≤ s.size) : num s 0 1 = (s[0].toNat : Int) := by
  unfold num
  have h1 : 0 < (ofStr s).length := by rw [ofStr_length]; omega
  have e : ofStr (s.extract 0 (0 + 1)) = [(ofStr s)[0]] := by
    have : ofStr (s.extract 0 (0 + 1)) = ((ofStr s).take (0 + 1)).drop 0 := by
      simp only [ofStr]
      rw [Lib.extract_data]
      simp [List.map_take, List.map_drop, List.drop_take]
    rw [this, List.drop_zero, List.take_succ_eq_append_getElem h1]
    rfl
  rw [e]
  simp [beV, ofStr]
  rfl

set_option maxRecDepth 100000 in
set_option maxHeartbeats 2000000 in
theorem rdecode_any (w : World) (s : ByteArray) (hs : s.size ≤ 140737488351232) (hs17 : 17 ≤ s.size) (c : Int) (hc : (frOf s).check = c) : Calls Tryd.prog 13 #[.string s] w fun x w' =>
    x = .returned (.tuple #[.agg (if c = 0 then (frOf s).cells else zeroFr.cells), .int .i64 c]) ∧ Only (fun _ => False) w w' := by
  have HN := Lib.hid (fun W => numbers_any W s hs hs17)
  have hz : (s.extract 17 s.size).size ≤ 140737488351232 := by simp; omega
  have hk := num_first s hs17
  have HC : ∀ W, Calls Tryd.prog 10 #[.agg #[.int .i64 (s[0].toNat : Int), .int .u32 (num s 1 4), .int .u32 (num s 5 4), .int .u32 (num s 9 4), .int .u32 (num s 13 4), .string (s.extract 17 s.size)]] W fun e w' => e = .returned (.int .i64 c) ∧ Only (fun _ => False) W w' := by
    intro W
    have := rcheck_any W (frOf s) hz
    rw [hc] at this
    simpa only [frOf, Fr.cells, hk] using this
  have HC := Lib.hid HC
  have hfr : (frOf s).cells = #[.int .i64 (s[0].toNat : Int), .int .u32 (num s 1 4), .int .u32 (num s 5 4), .int .u32 (num s 9 4), .int .u32 (num s 13 4), .string (s.extract 17 s.size)] := by simp only [frOf, Fr.cells, hk]
  rw [hfr]
  clear hfr hk hc
  have hb : (s[0].toNat : Int) ≤ 255 := by have := s[0].toNat_lt; omega
  have hw : IntKind.i64.wrap (s[0].toNat : Int) = (s[0].toNat : Int) := by rw [IntKind.wrap_i64]; omega
  have h17 : ¬ (s.size : Int) < 17 := by omega
  have h17' : (17 : Int) ≤ (s.size : Int) := by omega
  have h0' : (0 : Int) < (s.size : Int) := by omega
  have hcase : (c != 0) = false ∨ (c != 0) = true := by cases (c != 0) <;> simp
  rcases hcase with h | h
  · rw [if_pos (by simpa using h)]
    have hc0 : c = 0 := by simpa using h
    subst hc0
    clear h
    go_enter Tryd.func13, Tryd.ntmps13
    go_wp2_with fail
    refine (HN.out _).mono ?_; rintro e w1 ⟨g, cap, cur, rfl, hg, ht, o1⟩
    have q1 := o1.has (Has.new w 24 #[.int .i64 0, .int .u32 0, .int .u32 0, .int .u32 0, .int .u32 0, .string ⟨#[]⟩]) (fun f => f)
    have hgl := hg.lt
    have k1 := hg.drew
    have hne : g ≠ w1.heap.size := by omega
    go_wp2_with fail
    go_region_held3 (fun W => W.cell? ⟨g, 0, none⟩ = some (.int .u32 (num s 1 4)) ∧ W.cell? ⟨g, 1, none⟩ = some (.int .u32 (num s 5 4)) ∧ W.cell? ⟨g, 2, none⟩ = some (.int .u32 (num s 9 4)) ∧ W.cell? ⟨g, 3, none⟩ = some (.int .u32 (num s 13 4))) (first | exact nh_of k1 ht | exact nh_of (k1.alloc _) ht | exact nh_of (Has.off6 (k1.alloc _) hne _ _ _ _ _ _) ht) (fail)
    all_goals
      go_wp2_with fail
      refine (HC.out _).mono ?_; rintro e w3 ⟨rfl, o3⟩
      have G3 := o3.has (Has.new w1 24 #[.int .i64 (s[0].toNat : Int), .int .u32 (num s 1 4), .int .u32 (num s 5 4), .int .u32 (num s 9 4), .int .u32 (num s 13 4), .string (s.extract 17 s.size)]).drew (fun f => f)
      have Q3 := o3.has (q1.alloc (.cells #[.int .i64 (s[0].toNat : Int), .int .u32 (num s 1 4), .int .u32 (num s 5 4), .int .u32 (num s 9 4), .int .u32 (num s 13 4), .string (s.extract 17 s.size)] 24)).drew (fun f => f)
      have O3 := (((((Only.refl (fun _ => False) w).alloc _).trans o1).alloc (.cells #[.int .i64 (s[0].toNat : Int), .int .u32 (num s 1 4), .int .u32 (num s 5 4), .int .u32 (num s 9 4), .int .u32 (num s 13 4), .string (s.extract 17 s.size)] 24)).drew).trans o3
      obtain ⟨f0, f1, f2, f3, f4, f5, ff⟩ := Has.facts6 G3
      obtain ⟨z0, z1, z2, z3, z4, z5, zf⟩ := Has.facts6 Q3
      have ql := q1.lt
      go_wp2_with fail
      refine bodyPost_ret (v := .tuple #[.agg #[.int .i64 (s[0].toNat : Int), .int .u32 (num s 1 4), .int .u32 (num s 5 4), .int .u32 (num s 9 4), .int .u32 (num s 13 4), .string (s.extract 17 s.size)], .int .i64 0]) ?hr rfl ?hp
      case hr => exact res_rdec (b := w.heap.size) (Has.put6 Q3 rfl _ _ _ _ _ _) rfl rfl
      case hp => exact ⟨rfl, O3.then_ (Only.put6 w3 w.heap.size (.int .i64 (s[0].toNat : Int)) (.int .u32 (num s 1 4)) (.int .u32 (num s 5 4)) (.int .u32 (num s 9 4)) (.int .u32 (num s 13 4)) (.string (s.extract 17 s.size))) (fun i hi e => absurd hi (by have : i = w.heap.size := e; omega))⟩
  · rw [if_neg (by simpa using h)]
    go_enter Tryd.func13, Tryd.ntmps13
    go_wp2_with fail
    refine (HN.out _).mono ?_; rintro e w1 ⟨g, cap, cur, rfl, hg, ht, o1⟩
    have q1 := o1.has (Has.new w 24 #[.int .i64 0, .int .u32 0, .int .u32 0, .int .u32 0, .int .u32 0, .string ⟨#[]⟩]) (fun f => f)
    have hgl := hg.lt
    have k1 := hg.drew
    have hne : g ≠ w1.heap.size := by omega
    go_wp2_with fail
    go_region_held3 (fun W => W.cell? ⟨g, 0, none⟩ = some (.int .u32 (num s 1 4)) ∧ W.cell? ⟨g, 1, none⟩ = some (.int .u32 (num s 5 4)) ∧ W.cell? ⟨g, 2, none⟩ = some (.int .u32 (num s 9 4)) ∧ W.cell? ⟨g, 3, none⟩ = some (.int .u32 (num s 13 4))) (first | exact nh_of k1 ht | exact nh_of (k1.alloc _) ht | exact nh_of (Has.off6 (k1.alloc _) hne _ _ _ _ _ _) ht) (fail)
    all_goals
      go_wp2_with fail
      refine (HC.out _).mono ?_; rintro e w3 ⟨rfl, o3⟩
      have G3 := o3.has (Has.new w1 24 #[.int .i64 (s[0].toNat : Int), .int .u32 (num s 1 4), .int .u32 (num s 5 4), .int .u32 (num s 9 4), .int .u32 (num s 13 4), .string (s.extract 17 s.size)]).drew (fun f => f)
      have Q3 := o3.has (q1.alloc (.cells #[.int .i64 (s[0].toNat : Int), .int .u32 (num s 1 4), .int .u32 (num s 5 4), .int .u32 (num s 9 4), .int .u32 (num s 13 4), .string (s.extract 17 s.size)] 24)).drew (fun f => f)
      have O3 := (((((Only.refl (fun _ => False) w).alloc _).trans o1).alloc (.cells #[.int .i64 (s[0].toNat : Int), .int .u32 (num s 1 4), .int .u32 (num s 5 4), .int .u32 (num s 9 4), .int .u32 (num s 13 4), .string (s.extract 17 s.size)] 24)).drew).trans o3
      obtain ⟨f0, f1, f2, f3, f4, f5, ff⟩ := Has.facts6 G3
      obtain ⟨z0, z1, z2, z3, z4, z5, zf⟩ := Has.facts6 Q3
      have ql := q1.lt
      go_wp2_with fail
      refine (HC.out _).mono ?_; rintro e w4 ⟨rfl, o4⟩
      have Q4 := o4.has Q3 (fun f => f)
      have O4 := O3.trans o4
      clear z0 z1 z2 z3 z4 z5 zf
      obtain ⟨z0, z1, z2, z3, z4, z5, zf⟩ := Has.facts6 Q4
      go_wp2_with fail
      refine bodyPost_ret (v := .tuple #[.agg zeroFr.cells, .int .i64 c]) ?hr2 rfl ?hp2
      case hr2 => exact res_rdec (b := w.heap.size) (Has.put6 Q4 rfl _ _ _ _ _ _) rfl rfl
      case hp2 => exact ⟨rfl, O4.then_ (Only.put6 w4 w.heap.size (.int .i64 0) (.int .u32 0) (.int .u32 0) (.int .u32 0) (.int .u32 0) (.string ⟨#[]⟩)) (fun i hi e => absurd hi (by have : i = w.heap.size := e; omega))⟩
end Go.Proofs.YtnaacpopaccjpaaDoor
