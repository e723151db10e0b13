/- The reference's Parse. -/
import Derived.Test.YtigcfgmblnbleaaDoorPg
import Derived.Deep.QuietTactic
import Derived.BigQuiet
import Derived.OwnWalk
set_option linter.unusedSimpArgs false
set_option linter.unusedVariables false
namespace Go.Proofs.YtigcfgmblnbleaaDoor
open Go.RowKit

theorem res_rp {W : World} {b : Nat} {x0 x1 x2 x3 x4 n : Value} {tm : Array Value} (h : Has W b 23 #[x0, x1, x2, x3, x4]) (h8 : tm.getD 2 undef = .pointer (some ⟨b, 0, none⟩)) (h9 : tm.getD 3 undef = n) :
    (results Tryd.f21 tm).run Tryd.prog W = .ok (.tuple #[.agg #[x0, x1, x2, x3, x4], n]) W := by
  obtain ⟨c0, c1, c2, c3, c4, _⟩ := h.facts5
  simp only [Array.getD_eq_getD_getElem?] at h8 h9
  simp [results, Tryd.results21, go_sem, h8, h9, c0, c1, c2, c3, c4]
theorem own_ge {w : World} {base : Nat} {e : TypeId} {size n : Nat} {v : Value} {xs : List Value} (h : w.ownsRow base e size v n xs) {k : Nat} (q : v.ownBlock = some k) : base ≤ k := by
  rcases h.2 with ⟨rfl, _⟩ | ⟨g, cap, cur, rfl, hb, _⟩
  · cases q
  · cases q; exact hb
theorem Tryd.info_int : (Tryd.prog.info? 3).map (fun i => (i.zero, i.size, i.bytes)) = some (some (.int .i64 0), 1, 8) := by kernel_rfl

/-- The scanner. -/
def scanA : List UInt8 → Int → Nat → List Int → List UInt8 → Option (List Int × List UInt8)
  | [], n, d, nums, marks => if d = 0 then none else some (nums ++ [n], marks)
  | b :: l, n, d, nums, marks =>
    if digB b then (if d = 0 ∧ b.toNat = 48 ∨ d = 3 then none else scanA l (10 * n + ((b.toNat : Int) - 48)) (d + 1) nums marks)
    else if d = 0 then none else scanA l 0 0 (nums ++ [n]) (marks ++ [b])
def refG (k : Int) (r : Option (List Int × List UInt8)) : Cl × Int :=
  match r with
  | none => (zeroCl, 13)
  | some (nums, marks) =>
    if k = 2 ∧ marks = [58, 120, 120] then finF ⟨2, nums.getD 0 0, nums.getD 1 0, nums.getD 2 0, nums.getD 3 0⟩
    else if k = 2 ∨ marks ≠ [] then (zeroCl, 13)
    else finF ⟨k, nums.getD 0 0, 0, 0, 0⟩
def intsV (l : List Int) : List Value := l.map fun n => .int .i64 n
theorem drop_byte (s : ByteArray) (k : Nat) (h : k < s.size) : s.data.toList.drop k = s[k] :: s.data.toList.drop (k + 1) := by
  rw [List.drop_eq_getElem_cons (by simpa using h)]; rfl
theorem one_byte (s : ByteArray) (k : Nat) (h : k < s.size) : (s.extract k (k + 1)).data.toList = [s[k]] := by
  have h1 : (s.extract k (k + 1)).data.toList = (s.data.toList.drop k).take 1 := by
    simp [ByteArray.data_extract, Array.toList_extract, List.extract_eq_take_drop]
  rw [h1, drop_byte s k h]
  rfl
/-- The state of the loop. -/
structure Sc (L0 : Option (List Int × List UInt8)) (s : ByteArray) (k : Nat) (n : Int) (d : Nat) (nums : List Int) (M : ByteArray) : Prop where
  k1 : 1 ≤ k
  n0 : 0 ≤ n
  n1 : n < 10 ^ d
  d3 : d ≤ 3
  small : nums.length ≤ k ∧ M.size ≤ k
  st : (k ≤ s.size ∧ L0 = scanA (s.data.toList.drop k) n d nums M.data.toList ∧ nums.length = M.size) ∨ (k = s.size + 1 ∧ L0 = some (nums, M.data.toList) ∧ nums.length = M.size + 1)


set_option maxRecDepth 100000 in
set_option maxHeartbeats 16000000 in
theorem rparse_1 (w : World) (s : ByteArray) (hs : s.size ≤ 1000000) (hb : s ≠ ⟨#[98]⟩) (hpos : 0 < s.size) (hk : s[0].toNat = 115) :
    Calls Tryd.prog 21 #[.string s] w fun e w' => e = .returned (.tuple #[.agg (refG 1 (scanA (s.data.toList.drop 1) 0 0 [] [])).1.cells, .int .i64 (refG 1 (scanA (s.data.toList.drop 1) 0 0 [] [])).2]) ∧ Only (fun _ => False) w w' := by
  obtain ⟨i0, hi, hz0, hz1, hz2⟩ := info_parts Tryd.info_int
  have hb' := ne_b hb
  have hpos' : (0 : Int) < (s.size : Int) := by omega
  have hpos1 : (1 : Int) ≤ (s.size : Int) := by omega
  have h115 : ((s[0].toNat : Int) == 115) = true := by rw [hk]; decide
  have h109 : ((s[0].toNat : Int) == 109) = false := by rw [hk]; decide
  have h100 : ((s[0].toNat : Int) == 100) = false := by rw [hk]; decide
  generalize hL : scanA (s.data.toList.drop 1) 0 0 [] [] = L0
  have HL := Lib.hid hL
  clear hL hb hk
  go_enter Tryd.func21, Tryd.ntmps21
  go_wp2_with fail
  clear h115 h109 h100 hb'
  go_loopw [5, 6, 7, 8, 9] (fun m u x y i W => ∃ (k : Nat) (n : Int) (d : Nat) (nums : List Int) (M : ByteArray) (u0 : Value), i = .int .i64 k ∧ x = .int .i64 n ∧ y = .int .i64 d ∧ m = .string M ∧ u0 = u ∧ Hid (Sc L0 s k n d nums M) ∧ W.ownsRow (w.heap.size + 1) 3 1 u0 nums.length (intsV nums) ∧ w.heap.size + 1 ≤ W.heap.size ∧ Has W w.heap.size 23 #[.int .i64 0, .int .i64 0, .int .i64 0, .int .i64 0, .int .i64 0] ∧ Only (fun _ => False) w W) (fun _ _ _ _ i _ => s.size + 1 - (intOf i).toNat)
  case atStart => exact ⟨1, 0, 0, [], ⟨#[]⟩, _, rfl, rfl, rfl, rfl, rfl, Lib.hid ⟨Nat.le_refl _, by decide, by decide, by decide, by decide, .inl ⟨by omega, HL.out.symm, rfl⟩⟩, World.ownsRow_nil _ _ _ _, by simp, Has.new _ _ _, (Only.refl _ _).alloc _⟩
  case round =>
    obtain ⟨k, n, d, nums, M, u, rfl, rfl, rfl, rfl, rfl, HS, hown, hlow, hR, ho⟩ := hrel
    have hsc := HS.out
    obtain ⟨k1, n0, n1, d3, ⟨sm1, sm2⟩, hst⟩ := hsc
    have hp10 := pow3 d d3
    have HO := Lib.hid ho
    clear ho
    rcases hst with ⟨hks, hL0, hnm⟩ | ⟨hks, hL0, hnm⟩
    · have HL0 := Lib.hid hL0
      have HN1 := Lib.hid n1
      have n999 : n < 1000 := by omega
      clear hL0 n1 hp10
      have hlow2 := hlow
      have hOB : ∀ j, u.ownBlock = some j → j ≠ w.heap.size := fun j e => by have := own_ge hown e; omega
      have HOB := Lib.hid hOB
      clear hOB
      by_cases hlt : k < s.size
      · have hk1 : (k : Int) < (s.size : Int) := by omega
        have hk2 : (k : Int) ≤ (s.size : Int) := by omega
        have hk3 : (k : Int) + 1 ≤ (s.size : Int) := by omega
        have HD := Lib.hid (drop_byte s k hlt)
        have HO1 := Lib.hid (one_byte s k hlt)
        have hb255 : (s[k].toNat : Int) ≤ 255 := by have := s[k].toNat_lt; omega
        have hb0 : 0 ≤ (s[k].toNat : Int) := by omega
        by_cases hd : 48 ≤ s[k].toNat ∧ s[k].toNat ≤ 57
        · have hd1 : (48 : Int) ≤ (s[k].toNat : Int) := by omega
          have hd2 : (s[k].toNat : Int) ≤ 57 := by omega
          have HDB := Lib.hid (show digB s[k] = true from decide_eq_true hd)
          by_cases hz : d = 0 ∧ s[k].toNat = 48
          · have HE := Lib.hid (show L0 = none by rw [HL0.out, HD.out, scanA, if_pos HDB.out, if_pos (.inl hz)])
            obtain ⟨rfl, hz⟩ := hz
            have hz : (s[k].toNat : Int) = 48 := by omega
            clear hd
            obtain ⟨z0, z1, z2, z3, z4, zf⟩ := Has.facts5 hR
            go_wp2_with fail
            refine bodyPost_ret (v := .tuple #[.agg #[.int .i64 0, .int .i64 0, .int .i64 0, .int .i64 0, .int .i64 0], .int .i64 13]) ?hr rfl ?hp
            case hr => exact res_rp (b := w.heap.size) (Has.put5 hR rfl _ _ _ _ _) rfl rfl
            case hp =>
              refine ⟨?_, Only.then_ HO.out (Only.put5 wr w.heap.size (.int .i64 0) (.int .i64 0) (.int .i64 0) (.int .i64 0) (.int .i64 0)) (fun i hi e => absurd hi (by have : i = w.heap.size := e; omega))⟩
              rw [HE.out]
              rfl
          · by_cases h3 : d = 3
            · have HE := Lib.hid (show L0 = none by rw [HL0.out, HD.out, scanA, if_pos HDB.out, if_pos (.inr h3)])
              subst h3
              clear hd hz
              obtain ⟨z0, z1, z2, z3, z4, zf⟩ := Has.facts5 hR
              go_wp2_with fail
              refine bodyPost_ret (v := .tuple #[.agg #[.int .i64 0, .int .i64 0, .int .i64 0, .int .i64 0, .int .i64 0], .int .i64 13]) ?hr rfl ?hp
              case hr => exact res_rp (b := w.heap.size) (Has.put5 hR rfl _ _ _ _ _) rfl rfl
              case hp =>
                refine ⟨?_, Only.then_ HO.out (Only.put5 wr w.heap.size (.int .i64 0) (.int .i64 0) (.int .i64 0) (.int .i64 0) (.int .i64 0)) (fun i hi e => absurd hi (by have : i = w.heap.size := e; omega))⟩
                rw [HE.out]
                rfl
            · have HE := Lib.hid (show L0 = scanA (s.data.toList.drop (k + 1)) (10 * n + ((s[k].toNat : Int) - 48)) (d + 1) nums M.data.toList by rw [HL0.out, HD.out, scanA, if_pos HDB.out, if_neg (by omega)])
              have hdz : ((d : Int) == 0 && (s[k].toNat : Int) == 48) = false := by
                rw [Bool.and_eq_false_iff]
                by_cases h0 : d = 0
                · right
                  have : ¬ (s[k].toNat : Int) = 48 := by omega
                  simpa using this
                · left
                  have : ¬ (d : Int) = 0 := by omega
                  simpa using this
              have h3' : ((d : Int) == 3) = false := by
                have : ¬ (d : Int) = 3 := by omega
                simpa using this
              have HN2 := Lib.hid (show 10 * n + ((s[k].toNat : Int) - 48) < 10 ^ (d + 1) by have := HN1.out; rw [Int.pow_succ]; omega)
              have HDL := Lib.hid (show d + 1 ≤ 3 by omega)
              have hc0 : (d : Int) = 0 ∧ ¬ (s[k].toNat : Int) = 48 ∨ ¬ (d : Int) = 0 := by omega
              clear hd hz h3 hdz
              rcases hc0 with ⟨e1, e2⟩ | e1
              all_goals
                go_wp2_with fail
                go_roundw
                case rel => exact ⟨k + 1, 10 * n + ((s[k].toNat : Int) - 48), d + 1, nums, M, _, by go_num, by go_num, by go_num, rfl, rfl, Lib.hid ⟨by omega, by omega, HN2.out, HDL.out, ⟨by omega, by omega⟩, .inl ⟨by omega, HE.out, hnm⟩⟩, hown, hlow, hR, HO.out⟩
                case measure => simp only [intOf]; omega
        · have HDB := Lib.hid (show digB s[k] = false from decide_eq_false hd)
          have hnd : (s[k].toNat : Int) < 48 ∨ ¬ (s[k].toNat : Int) < 48 ∧ (57 : Int) < (s[k].toNat : Int) := by omega
          clear hd
          by_cases hz : d = 0
          · have HE := Lib.hid (show L0 = none by rw [HL0.out, HD.out, scanA, if_neg (by rw [HDB.out]; decide), if_pos hz])
            subst hz
            rcases hnd with e1 | ⟨e1, e2⟩
            all_goals
              obtain ⟨z0, z1, z2, z3, z4, zf⟩ := Has.facts5 hR
              go_wp2_with fail
              refine bodyPost_ret (v := .tuple #[.agg #[.int .i64 0, .int .i64 0, .int .i64 0, .int .i64 0, .int .i64 0], .int .i64 13]) ?hr rfl ?hp
              case hr => exact res_rp (b := w.heap.size) (Has.put5 hR rfl _ _ _ _ _) rfl rfl
              case hp =>
                refine ⟨?_, Only.then_ HO.out (Only.put5 wr w.heap.size (.int .i64 0) (.int .i64 0) (.int .i64 0) (.int .i64 0) (.int .i64 0)) (fun i hi e => absurd hi (by have : i = w.heap.size := e; omega))⟩
                rw [HE.out]
                rfl
          · have HE := Lib.hid (show L0 = scanA (s.data.toList.drop (k + 1)) 0 0 (nums ++ [n]) (M ++ s.extract k (k + 1)).data.toList by rw [HL0.out, HD.out, scanA, if_neg (by rw [HDB.out]; decide), if_neg hz, ByteArray.data_append, Array.toList_append, HO1.out])
            have hz' : ((d : Int) == 0) = false := by
              have : ¬ (d : Int) = 0 := by omega
              simpa using this
            have HSZ := Lib.hid (show (M ++ s.extract k (k + 1)).size = M.size + 1 by rw [ByteArray.size_append, ByteArray.size_extract]; omega)
            have hcat := fun W => run_string_add_sum (P := Tryd.prog) (w := W) M (s.extract k (k + 1)) (by rw [ByteArray.size_extract]; omega)
            clear hz
            rcases hnd with e1 | ⟨e1, e2⟩
            all_goals
              go_wp2_with (at_builtin; go_must (refine wpList_append_own_at _ rfl _ _ 26 rfl (w.heap.size + 1) 3 i0 (.int .i64 0) 1 8 Tryd.underlying26 hi hz0 hz1 hz2 rfl (by decide) u nums.length (intsV nums) ?hs0 (hown.alloc _) ⟨wr.heap.size, 0, none⟩ 1 1 [_] ?hx0 rfl (cell_one_new _ _ _) ?c20 ?c30 ?c40 ?c50 ?_); (case hs0 => rfl); (case hx0 => rfl); (case c20 => intro y hy; obtain rfl := List.mem_singleton.1 hy; rfl); (case c30 => unfold maxLen; omega); (case c40 => omega); (case c50 => simp; omega); intro v1 w1 ho1 hg1 _ hat1)
              have HR1 := Lib.hid (Has.grown (hR.alloc _) hg1 (fun e => HOB.out _ e.symm rfl))
              have HO2 := Lib.hid (Only.grown (HO.out.alloc _) hg1 (fun j e hj => by have := own_ge hown e; omega))
              have hlen : (nums ++ [n]).length = nums.length + 1 := by simp
              go_wp2_with fail
              go_roundw
              case rel => exact ⟨k + 1, 0, 0, nums ++ [n], M ++ s.extract k (k + 1), _, by go_num, rfl, rfl, rfl, rfl, Lib.hid ⟨by omega, by decide, by decide, by decide, ⟨by rw [hlen]; omega, by rw [HSZ.out]; omega⟩, .inl ⟨by omega, HE.out, by rw [hlen, HSZ.out]; omega⟩⟩, by rw [hlen]; unfold intsV; rw [List.map_append]; exact ho1, by have := hg1.size; simp at this; omega, HR1.out, HO2.out⟩
              case measure => simp only [intOf]; omega
      · obtain rfl : k = s.size := by omega
        have HD := Lib.hid (show s.data.toList.drop s.size = [] from List.drop_of_length_le (by rw [Array.length_toList]; exact Nat.le_refl _))
        by_cases hz : d = 0
        · have HE := Lib.hid (show L0 = none by rw [HL0.out, HD.out, scanA, if_pos hz])
          subst hz
          clear hlt
          obtain ⟨z0, z1, z2, z3, z4, zf⟩ := Has.facts5 hR
          go_wp2_with fail
          refine bodyPost_ret (v := .tuple #[.agg #[.int .i64 0, .int .i64 0, .int .i64 0, .int .i64 0, .int .i64 0], .int .i64 13]) ?hr rfl ?hp
          case hr => exact res_rp (b := w.heap.size) (Has.put5 hR rfl _ _ _ _ _) rfl rfl
          case hp =>
            refine ⟨?_, Only.then_ HO.out (Only.put5 wr w.heap.size (.int .i64 0) (.int .i64 0) (.int .i64 0) (.int .i64 0) (.int .i64 0)) (fun i hi e => absurd hi (by have : i = w.heap.size := e; omega))⟩
            rw [HE.out]
            rfl
        · have HE := Lib.hid (show L0 = some (nums ++ [n], M.data.toList) by rw [HL0.out, HD.out, scanA, if_neg hz])
          have hz' : ((d : Int) == 0) = false := by
            have : ¬ (d : Int) = 0 := by omega
            simpa using this
          clear hz hlt
          go_wp2_with (at_builtin; go_must (refine wpList_append_own_at _ rfl _ _ 26 rfl (w.heap.size + 1) 3 i0 (.int .i64 0) 1 8 Tryd.underlying26 hi hz0 hz1 hz2 rfl (by decide) u nums.length (intsV nums) ?hs0 (hown.alloc _) ⟨wr.heap.size, 0, none⟩ 1 1 [_] ?hx0 rfl (cell_one_new _ _ _) ?c20 ?c30 ?c40 ?c50 ?_); (case hs0 => rfl); (case hx0 => rfl); (case c20 => intro y hy; obtain rfl := List.mem_singleton.1 hy; rfl); (case c30 => unfold maxLen; omega); (case c40 => omega); (case c50 => simp; omega); intro v1 w1 ho1 hg1 _ hat1)
          have HR1 := Lib.hid (Has.grown (hR.alloc _) hg1 (fun e => HOB.out _ e.symm rfl))
          have HO2 := Lib.hid (Only.grown (HO.out.alloc _) hg1 (fun j e hj => by have := own_ge hown e; omega))
          have hlen : (nums ++ [n]).length = nums.length + 1 := by simp
          go_wp2_with fail
          go_roundw
          case rel => exact ⟨s.size + 1, 0, 0, nums ++ [n], M, _, by go_num, rfl, rfl, rfl, rfl, Lib.hid ⟨by omega, by decide, by decide, by decide, ⟨by rw [hlen]; omega, by omega⟩, .inr ⟨rfl, HE.out, by rw [hlen]; omega⟩⟩, by rw [hlen]; unfold intsV; rw [List.map_append]; exact ho1, by have := hg1.size; simp at this; omega, HR1.out, HO2.out⟩
          case measure => simp only [intOf]; omega
    · subst hks
      rcases hown.2 with ⟨_, h0⟩ | ⟨g, cap, cur, rfl, hg, hh, hnc, hcm, hcs, htk⟩
      · omega
      have hnl : (0 : Int) < (nums.length : Int) := by omega
      have hcell : ∀ j x, nums[j]? = some x → wr.cell? ⟨g, j, none⟩ = some (.int .i64 x) := fun j x h => by
        have := hown.cells (g := g) rfl j (.int .i64 x) (by unfold intsV; rw [List.getElem?_map, h]; rfl)
        rw [← this]
        congr 1
        unfold Addr.add
        by_cases hj : j = 0
        · subst hj; rfl
        · simp [hj]

      obtain ⟨a, rest, rfl⟩ : ∃ a rest, nums = a :: rest := by
        match nums, hnm with
        | a :: rest, _ => exact ⟨a, rest, rfl⟩
      have c0 := hcell 0 a rfl
      have R1 : Has (wr.alloc (.cells #[.int .i64 1, .int .i64 a, .int .i64 0, .int .i64 0, .int .i64 0] 23)) w.heap.size 23 #[.int .i64 0, .int .i64 0, .int .i64 0, .int .i64 0, .int .i64 0] := hR.alloc _
      have C1 : Has (wr.alloc (.cells #[.int .i64 1, .int .i64 a, .int .i64 0, .int .i64 0, .int .i64 0] 23)) wr.heap.size 23 #[.int .i64 1, .int .i64 a, .int .i64 0, .int .i64 0, .int .i64 0] := Has.new _ _ _
      have O1 := HO.out.alloc (.cells #[.int .i64 1, .int .i64 a, .int .i64 0, .int .i64 0, .int .i64 0] 23)
      by_cases hm : M.data.toList = []
      · obtain rfl : M = ⟨#[]⟩ := ByteArray.ext (Array.ext' hm)
        have HE := Lib.hid (show refG 1 L0 = finF ⟨1, a, 0, 0, 0⟩ by rw [hL0]; unfold refG; simp)
        have HX := fun W => srcheck_any W ⟨1, a, 0, 0, 0⟩
        simp only [Cl.cells] at HX
        have HFG : Cl.check ⟨1, a, 0, 0, 0⟩ = 0 → finF ⟨1, a, 0, 0, 0⟩ = (⟨1, a, 0, 0, 0⟩, 0) := fun h => by unfold finF; rw [if_pos h]
        have HFB : Cl.check ⟨1, a, 0, 0, 0⟩ ≠ 0 → finF ⟨1, a, 0, 0, 0⟩ = (zeroCl, Cl.check ⟨1, a, 0, 0, 0⟩) := fun h => by unfold finF; rw [if_neg h]
        generalize Cl.check ⟨1, a, 0, 0, 0⟩ = x at *
        replace HX := Lib.hid HX
        replace HFG := Lib.hid HFG
        replace HFB := Lib.hid HFB
        clear hL0 hm hnm hown htk hcell n1 hp10
        go_wp2_with fail
        have x0 : (wr.alloc (.cells #[.int .i64 1, .int .i64 a, .int .i64 0, .int .i64 0, .int .i64 0] 23)).cell? ⟨wr.heap.size, 0, none⟩ = some (.int .i64 1) := C1.cell 0
        have x1 : (wr.alloc (.cells #[.int .i64 1, .int .i64 a, .int .i64 0, .int .i64 0, .int .i64 0] 23)).cell? ⟨wr.heap.size, 1, none⟩ = some (.int .i64 a) := C1.cell 1
        have x2 : (wr.alloc (.cells #[.int .i64 1, .int .i64 a, .int .i64 0, .int .i64 0, .int .i64 0] 23)).cell? ⟨wr.heap.size, 2, none⟩ = some (.int .i64 0) := C1.cell 2
        have x3 : (wr.alloc (.cells #[.int .i64 1, .int .i64 a, .int .i64 0, .int .i64 0, .int .i64 0] 23)).cell? ⟨wr.heap.size, 3, none⟩ = some (.int .i64 0) := C1.cell 3
        have x4 : (wr.alloc (.cells #[.int .i64 1, .int .i64 a, .int .i64 0, .int .i64 0, .int .i64 0] 23)).cell? ⟨wr.heap.size, 4, none⟩ = some (.int .i64 0) := C1.cell 4
        go_wp2_with fail
        refine (HX.out _).mono ?_; rintro e w6 ⟨rfl, o6⟩
        have R6 := o6.has R1 (fun f => f)
        have C6 := o6.has C1 (fun f => f)
        have O6 := Only.trans O1 o6
        clear x0 x1 x2 x3 x4
        have x0 : w6.cell? ⟨wr.heap.size, 0, none⟩ = some (.int .i64 1) := C6.cell 0
        have x1 : w6.cell? ⟨wr.heap.size, 1, none⟩ = some (.int .i64 a) := C6.cell 1
        have x2 : w6.cell? ⟨wr.heap.size, 2, none⟩ = some (.int .i64 0) := C6.cell 2
        have x3 : w6.cell? ⟨wr.heap.size, 3, none⟩ = some (.int .i64 0) := C6.cell 3
        have x4 : w6.cell? ⟨wr.heap.size, 4, none⟩ = some (.int .i64 0) := C6.cell 4
        by_cases hx : x = 0
        · subst hx
          obtain ⟨z0, z1, z2, z3, z4, zf⟩ := Has.facts5 R6
          go_wp2_with fail
          refine bodyPost_ret (v := .tuple #[.agg #[.int .i64 1, .int .i64 a, .int .i64 0, .int .i64 0, .int .i64 0], .int .i64 0]) ?hr rfl ?hp
          case hr => exact res_rp (b := w.heap.size) (Has.put5 R6 rfl _ _ _ _ _) rfl rfl
          case hp =>
            refine ⟨?_, O6.then_ (Only.put5 w6 w.heap.size (.int .i64 1) (.int .i64 a) (.int .i64 0) (.int .i64 0) (.int .i64 0)) (fun i hi e => absurd hi (by have : i = w.heap.size := e; omega))⟩
            rw [HE.out, HFG.out (by simp)]
            rfl
        · have hx' : (x != 0) = true := by simpa using hx
          have HXN := Lib.hid hx
          clear hx
          go_wp2_with fail
          refine (HX.out _).mono ?_; rintro e w7 ⟨rfl, o7⟩
          have R7 := o7.has R6 (fun f => f)
          have O7 := O6.trans o7
          obtain ⟨z0, z1, z2, z3, z4, zf⟩ := Has.facts5 R7
          go_wp2_with fail
          refine bodyPost_ret (v := .tuple #[.agg #[.int .i64 0, .int .i64 0, .int .i64 0, .int .i64 0, .int .i64 0], .int .i64 x]) ?hr rfl ?hp
          case hr => exact res_rp (b := w.heap.size) (Has.put5 R7 rfl _ _ _ _ _) rfl rfl
          case hp =>
            refine ⟨?_, Only.then_ O7 (Only.put5 w7 w.heap.size (.int .i64 0) (.int .i64 0) (.int .i64 0) (.int .i64 0) (.int .i64 0)) (fun i hi e => absurd hi (by have : i = w.heap.size := e; omega))⟩
            rw [HE.out, HFB.out HXN.out]
            rfl
      · have HE := Lib.hid (show refG 1 L0 = (zeroCl, 13) by rw [hL0]; unfold refG; simp only []; rw [if_neg (by simp), if_pos (.inr hm)])
        have hm1 : M.toList.isEmpty = false := by
          rw [ByteArray.toList_eq]
          cases hl : M.data.toList with
          | nil => exact absurd hl hm
          | cons a l => rfl
        have hm2 : (M.toList == []) = false := by
          rw [ByteArray.toList_eq]
          simpa using hm
        clear hL0 hm hnm hown htk hcell n1 hp10
        obtain ⟨z0, z1, z2, z3, z4, zf⟩ := Has.facts5 R1
        go_wp2_with fail
        refine bodyPost_ret (v := .tuple #[.agg #[.int .i64 0, .int .i64 0, .int .i64 0, .int .i64 0, .int .i64 0], .int .i64 13]) ?hr rfl ?hp
        case hr => exact res_rp (b := w.heap.size) (Has.put5 R1 rfl _ _ _ _ _) rfl rfl
        case hp =>
          refine ⟨?_, Only.then_ O1 (Only.put5 _ w.heap.size (.int .i64 0) (.int .i64 0) (.int .i64 0) (.int .i64 0) (.int .i64 0)) (fun i hi e => absurd hi (by have : i = w.heap.size := e; omega))⟩
          rw [HE.out]
          rfl

set_option maxRecDepth 100000 in
set_option maxHeartbeats 16000000 in
theorem rparse_2 (w : World) (s : ByteArray) (hs : s.size ≤ 1000000) (hb : s ≠ ⟨#[98]⟩) (hpos : 0 < s.size) (hk : s[0].toNat = 109) :
    Calls Tryd.prog 21 #[.string s] w fun e w' => e = .returned (.tuple #[.agg (refG 2 (scanA (s.data.toList.drop 1) 0 0 [] [])).1.cells, .int .i64 (refG 2 (scanA (s.data.toList.drop 1) 0 0 [] [])).2]) ∧ Only (fun _ => False) w w' := by
  obtain ⟨i0, hi, hz0, hz1, hz2⟩ := info_parts Tryd.info_int
  have hb' := ne_b hb
  have hpos' : (0 : Int) < (s.size : Int) := by omega
  have hpos1 : (1 : Int) ≤ (s.size : Int) := by omega
  have h115 : ((s[0].toNat : Int) == 115) = false := by rw [hk]; decide
  have h109 : ((s[0].toNat : Int) == 109) = true := by rw [hk]; decide
  have h100 : ((s[0].toNat : Int) == 100) = false := by rw [hk]; decide
  generalize hL : scanA (s.data.toList.drop 1) 0 0 [] [] = L0
  have HL := Lib.hid hL
  clear hL hb hk
  go_enter Tryd.func21, Tryd.ntmps21
  go_wp2_with fail
  clear h115 h109 h100 hb'
  go_loopw [5, 6, 7, 8, 9] (fun m u x y i W => ∃ (k : Nat) (n : Int) (d : Nat) (nums : List Int) (M : ByteArray) (u0 : Value), i = .int .i64 k ∧ x = .int .i64 n ∧ y = .int .i64 d ∧ m = .string M ∧ u0 = u ∧ Hid (Sc L0 s k n d nums M) ∧ W.ownsRow (w.heap.size + 1) 3 1 u0 nums.length (intsV nums) ∧ w.heap.size + 1 ≤ W.heap.size ∧ Has W w.heap.size 23 #[.int .i64 0, .int .i64 0, .int .i64 0, .int .i64 0, .int .i64 0] ∧ Only (fun _ => False) w W) (fun _ _ _ _ i _ => s.size + 1 - (intOf i).toNat)
  case atStart => exact ⟨1, 0, 0, [], ⟨#[]⟩, _, rfl, rfl, rfl, rfl, rfl, Lib.hid ⟨Nat.le_refl _, by decide, by decide, by decide, by decide, .inl ⟨by omega, HL.out.symm, rfl⟩⟩, World.ownsRow_nil _ _ _ _, by simp, Has.new _ _ _, (Only.refl _ _).alloc _⟩
  case round =>
    obtain ⟨k, n, d, nums, M, u, rfl, rfl, rfl, rfl, rfl, HS, hown, hlow, hR, ho⟩ := hrel
    have hsc := HS.out
    obtain ⟨k1, n0, n1, d3, ⟨sm1, sm2⟩, hst⟩ := hsc
    have hp10 := pow3 d d3
    have HO := Lib.hid ho
    clear ho
    rcases hst with ⟨hks, hL0, hnm⟩ | ⟨hks, hL0, hnm⟩
    · have HL0 := Lib.hid hL0
      have HN1 := Lib.hid n1
      have n999 : n < 1000 := by omega
      clear hL0 n1 hp10
      have hlow2 := hlow
      have hOB : ∀ j, u.ownBlock = some j → j ≠ w.heap.size := fun j e => by have := own_ge hown e; omega
      have HOB := Lib.hid hOB
      clear hOB
      by_cases hlt : k < s.size
      · have hk1 : (k : Int) < (s.size : Int) := by omega
        have hk2 : (k : Int) ≤ (s.size : Int) := by omega
        have hk3 : (k : Int) + 1 ≤ (s.size : Int) := by omega
        have HD := Lib.hid (drop_byte s k hlt)
        have HO1 := Lib.hid (one_byte s k hlt)
        have hb255 : (s[k].toNat : Int) ≤ 255 := by have := s[k].toNat_lt; omega
        have hb0 : 0 ≤ (s[k].toNat : Int) := by omega
        by_cases hd : 48 ≤ s[k].toNat ∧ s[k].toNat ≤ 57
        · have hd1 : (48 : Int) ≤ (s[k].toNat : Int) := by omega
          have hd2 : (s[k].toNat : Int) ≤ 57 := by omega
          have HDB := Lib.hid (show digB s[k] = true from decide_eq_true hd)
          by_cases hz : d = 0 ∧ s[k].toNat = 48
          · have HE := Lib.hid (show L0 = none by rw [HL0.out, HD.out, scanA, if_pos HDB.out, if_pos (.inl hz)])
            obtain ⟨rfl, hz⟩ := hz
            have hz : (s[k].toNat : Int) = 48 := by omega
            clear hd
            obtain ⟨z0, z1, z2, z3, z4, zf⟩ := Has.facts5 hR
            go_wp2_with fail
            refine bodyPost_ret (v := .tuple #[.agg #[.int .i64 0, .int .i64 0, .int .i64 0, .int .i64 0, .int .i64 0], .int .i64 13]) ?hr rfl ?hp
            case hr => exact res_rp (b := w.heap.size) (Has.put5 hR rfl _ _ _ _ _) rfl rfl
            case hp =>
              refine ⟨?_, Only.then_ HO.out (Only.put5 wr w.heap.size (.int .i64 0) (.int .i64 0) (.int .i64 0) (.int .i64 0) (.int .i64 0)) (fun i hi e => absurd hi (by have : i = w.heap.size := e; omega))⟩
              rw [HE.out]
              rfl
          · by_cases h3 : d = 3
            · have HE := Lib.hid (show L0 = none by rw [HL0.out, HD.out, scanA, if_pos HDB.out, if_pos (.inr h3)])
              subst h3
              clear hd hz
              obtain ⟨z0, z1, z2, z3, z4, zf⟩ := Has.facts5 hR
              go_wp2_with fail
              refine bodyPost_ret (v := .tuple #[.agg #[.int .i64 0, .int .i64 0, .int .i64 0, .int .i64 0, .int .i64 0], .int .i64 13]) ?hr rfl ?hp
              case hr => exact res_rp (b := w.heap.size) (Has.put5 hR rfl _ _ _ _ _) rfl rfl
              case hp =>
                refine ⟨?_, Only.then_ HO.out (Only.put5 wr w.heap.size (.int .i64 0) (.int .i64 0) (.int .i64 0) (.int .i64 0) (.int .i64 0)) (fun i hi e => absurd hi (by have : i = w.heap.size := e; omega))⟩
                rw [HE.out]
                rfl
            · have HE := Lib.hid (show L0 = scanA (s.data.toList.drop (k + 1)) (10 * n + ((s[k].toNat : Int) - 48)) (d + 1) nums M.data.toList by rw [HL0.out, HD.out, scanA, if_pos HDB.out, if_neg (by omega)])
              have hdz : ((d : Int) == 0 && (s[k].toNat : Int) == 48) = false := by
                rw [Bool.and_eq_false_iff]
                by_cases h0 : d = 0
                · right
                  have : ¬ (s[k].toNat : Int) = 48 := by omega
                  simpa using this
                · left
                  have : ¬ (d : Int) = 0 := by omega
                  simpa using this
              have h3' : ((d : Int) == 3) = false := by
                have : ¬ (d : Int) = 3 := by omega
                simpa using this
              have HN2 := Lib.hid (show 10 * n + ((s[k].toNat : Int) - 48) < 10 ^ (d + 1) by have := HN1.out; rw [Int.pow_succ]; omega)
              have HDL := Lib.hid (show d + 1 ≤ 3 by omega)
              have hc0 : (d : Int) = 0 ∧ ¬ (s[k].toNat : Int) = 48 ∨ ¬ (d : Int) = 0 := by omega
              clear hd hz h3 hdz
              rcases hc0 with ⟨e1, e2⟩ | e1
              all_goals
                go_wp2_with fail
                go_roundw
                case rel => exact ⟨k + 1, 10 * n + ((s[k].toNat : Int) - 48), d + 1, nums, M, _, by go_num, by go_num, by go_num, rfl, rfl, Lib.hid ⟨by omega, by omega, HN2.out, HDL.out, ⟨by omega, by omega⟩, .inl ⟨by omega, HE.out, hnm⟩⟩, hown, hlow, hR, HO.out⟩
                case measure => simp only [intOf]; omega
        · have HDB := Lib.hid (show digB s[k] = false from decide_eq_false hd)
          have hnd : (s[k].toNat : Int) < 48 ∨ ¬ (s[k].toNat : Int) < 48 ∧ (57 : Int) < (s[k].toNat : Int) := by omega
          clear hd
          by_cases hz : d = 0
          · have HE := Lib.hid (show L0 = none by rw [HL0.out, HD.out, scanA, if_neg (by rw [HDB.out]; decide), if_pos hz])
            subst hz
            rcases hnd with e1 | ⟨e1, e2⟩
            all_goals
              obtain ⟨z0, z1, z2, z3, z4, zf⟩ := Has.facts5 hR
              go_wp2_with fail
              refine bodyPost_ret (v := .tuple #[.agg #[.int .i64 0, .int .i64 0, .int .i64 0, .int .i64 0, .int .i64 0], .int .i64 13]) ?hr rfl ?hp
              case hr => exact res_rp (b := w.heap.size) (Has.put5 hR rfl _ _ _ _ _) rfl rfl
              case hp =>
                refine ⟨?_, Only.then_ HO.out (Only.put5 wr w.heap.size (.int .i64 0) (.int .i64 0) (.int .i64 0) (.int .i64 0) (.int .i64 0)) (fun i hi e => absurd hi (by have : i = w.heap.size := e; omega))⟩
                rw [HE.out]
                rfl
          · have HE := Lib.hid (show L0 = scanA (s.data.toList.drop (k + 1)) 0 0 (nums ++ [n]) (M ++ s.extract k (k + 1)).data.toList by rw [HL0.out, HD.out, scanA, if_neg (by rw [HDB.out]; decide), if_neg hz, ByteArray.data_append, Array.toList_append, HO1.out])
            have hz' : ((d : Int) == 0) = false := by
              have : ¬ (d : Int) = 0 := by omega
              simpa using this
            have HSZ := Lib.hid (show (M ++ s.extract k (k + 1)).size = M.size + 1 by rw [ByteArray.size_append, ByteArray.size_extract]; omega)
            have hcat := fun W => run_string_add_sum (P := Tryd.prog) (w := W) M (s.extract k (k + 1)) (by rw [ByteArray.size_extract]; omega)
            clear hz
            rcases hnd with e1 | ⟨e1, e2⟩
            all_goals
              go_wp2_with (at_builtin; go_must (refine wpList_append_own_at _ rfl _ _ 26 rfl (w.heap.size + 1) 3 i0 (.int .i64 0) 1 8 Tryd.underlying26 hi hz0 hz1 hz2 rfl (by decide) u nums.length (intsV nums) ?hs0 (hown.alloc _) ⟨wr.heap.size, 0, none⟩ 1 1 [_] ?hx0 rfl (cell_one_new _ _ _) ?c20 ?c30 ?c40 ?c50 ?_); (case hs0 => rfl); (case hx0 => rfl); (case c20 => intro y hy; obtain rfl := List.mem_singleton.1 hy; rfl); (case c30 => unfold maxLen; omega); (case c40 => omega); (case c50 => simp; omega); intro v1 w1 ho1 hg1 _ hat1)
              have HR1 := Lib.hid (Has.grown (hR.alloc _) hg1 (fun e => HOB.out _ e.symm rfl))
              have HO2 := Lib.hid (Only.grown (HO.out.alloc _) hg1 (fun j e hj => by have := own_ge hown e; omega))
              have hlen : (nums ++ [n]).length = nums.length + 1 := by simp
              go_wp2_with fail
              go_roundw
              case rel => exact ⟨k + 1, 0, 0, nums ++ [n], M ++ s.extract k (k + 1), _, by go_num, rfl, rfl, rfl, rfl, Lib.hid ⟨by omega, by decide, by decide, by decide, ⟨by rw [hlen]; omega, by rw [HSZ.out]; omega⟩, .inl ⟨by omega, HE.out, by rw [hlen, HSZ.out]; omega⟩⟩, by rw [hlen]; unfold intsV; rw [List.map_append]; exact ho1, by have := hg1.size; simp at this; omega, HR1.out, HO2.out⟩
              case measure => simp only [intOf]; omega
      · obtain rfl : k = s.size := by omega
        have HD := Lib.hid (show s.data.toList.drop s.size = [] from List.drop_of_length_le (by rw [Array.length_toList]; exact Nat.le_refl _))
        by_cases hz : d = 0
        · have HE := Lib.hid (show L0 = none by rw [HL0.out, HD.out, scanA, if_pos hz])
          subst hz
          clear hlt
          obtain ⟨z0, z1, z2, z3, z4, zf⟩ := Has.facts5 hR
          go_wp2_with fail
          refine bodyPost_ret (v := .tuple #[.agg #[.int .i64 0, .int .i64 0, .int .i64 0, .int .i64 0, .int .i64 0], .int .i64 13]) ?hr rfl ?hp
          case hr => exact res_rp (b := w.heap.size) (Has.put5 hR rfl _ _ _ _ _) rfl rfl
          case hp =>
            refine ⟨?_, Only.then_ HO.out (Only.put5 wr w.heap.size (.int .i64 0) (.int .i64 0) (.int .i64 0) (.int .i64 0) (.int .i64 0)) (fun i hi e => absurd hi (by have : i = w.heap.size := e; omega))⟩
            rw [HE.out]
            rfl
        · have HE := Lib.hid (show L0 = some (nums ++ [n], M.data.toList) by rw [HL0.out, HD.out, scanA, if_neg hz])
          have hz' : ((d : Int) == 0) = false := by
            have : ¬ (d : Int) = 0 := by omega
            simpa using this
          clear hz hlt
          go_wp2_with (at_builtin; go_must (refine wpList_append_own_at _ rfl _ _ 26 rfl (w.heap.size + 1) 3 i0 (.int .i64 0) 1 8 Tryd.underlying26 hi hz0 hz1 hz2 rfl (by decide) u nums.length (intsV nums) ?hs0 (hown.alloc _) ⟨wr.heap.size, 0, none⟩ 1 1 [_] ?hx0 rfl (cell_one_new _ _ _) ?c20 ?c30 ?c40 ?c50 ?_); (case hs0 => rfl); (case hx0 => rfl); (case c20 => intro y hy; obtain rfl := List.mem_singleton.1 hy; rfl); (case c30 => unfold maxLen; omega); (case c40 => omega); (case c50 => simp; omega); intro v1 w1 ho1 hg1 _ hat1)
          have HR1 := Lib.hid (Has.grown (hR.alloc _) hg1 (fun e => HOB.out _ e.symm rfl))
          have HO2 := Lib.hid (Only.grown (HO.out.alloc _) hg1 (fun j e hj => by have := own_ge hown e; omega))
          have hlen : (nums ++ [n]).length = nums.length + 1 := by simp
          go_wp2_with fail
          go_roundw
          case rel => exact ⟨s.size + 1, 0, 0, nums ++ [n], M, _, by go_num, rfl, rfl, rfl, rfl, Lib.hid ⟨by omega, by decide, by decide, by decide, ⟨by rw [hlen]; omega, by omega⟩, .inr ⟨rfl, HE.out, by rw [hlen]; omega⟩⟩, by rw [hlen]; unfold intsV; rw [List.map_append]; exact ho1, by have := hg1.size; simp at this; omega, HR1.out, HO2.out⟩
          case measure => simp only [intOf]; omega
    · subst hks
      rcases hown.2 with ⟨_, h0⟩ | ⟨g, cap, cur, rfl, hg, hh, hnc, hcm, hcs, htk⟩
      · omega
      have hnl : (0 : Int) < (nums.length : Int) := by omega
      have hcell : ∀ j x, nums[j]? = some x → wr.cell? ⟨g, j, none⟩ = some (.int .i64 x) := fun j x h => by
        have := hown.cells (g := g) rfl j (.int .i64 x) (by unfold intsV; rw [List.getElem?_map, h]; rfl)
        rw [← this]
        congr 1
        unfold Addr.add
        by_cases hj : j = 0
        · subst hj; rfl
        · simp [hj]

      by_cases hm : M.data.toList = [58, 120, 120]
      · obtain rfl : M = ⟨#[58, 120, 120]⟩ := ByteArray.ext (Array.ext' hm)
        have hnl4 : nums.length = 4 := hnm
        obtain ⟨a, p0, p1, p2, rfl⟩ : ∃ a b c d, nums = [a, b, c, d] := by
          match nums, hnl4 with
          | [a, b, c, d], _ => exact ⟨a, b, c, d, rfl⟩
        have c0 := hcell 0 a rfl
        have c1 := hcell 1 p0 rfl
        have c2 := hcell 2 p1 rfl
        have c3 := hcell 3 p2 rfl
        have HE := Lib.hid (show refG 2 L0 = finF ⟨2, a, p0, p1, p2⟩ by rw [hL0]; unfold refG; simp)
        have HX := fun W => srcheck_any W ⟨2, a, p0, p1, p2⟩
        simp only [Cl.cells] at HX
        have HFG : Cl.check ⟨2, a, p0, p1, p2⟩ = 0 → finF ⟨2, a, p0, p1, p2⟩ = (⟨2, a, p0, p1, p2⟩, 0) := fun h => by unfold finF; rw [if_pos h]
        have HFB : Cl.check ⟨2, a, p0, p1, p2⟩ ≠ 0 → finF ⟨2, a, p0, p1, p2⟩ = (zeroCl, Cl.check ⟨2, a, p0, p1, p2⟩) := fun h => by unfold finF; rw [if_neg h]
        generalize Cl.check ⟨2, a, p0, p1, p2⟩ = x at *
        replace HX := Lib.hid HX
        replace HFG := Lib.hid HFG
        replace HFB := Lib.hid HFB
        clear hL0 hm hnm hown htk hcell n1 hp10 hnl4
        have hgl := lt_of_block hh
        go_wp2_with fail
        go_region
        have R1 : Has (wr.alloc (.cells #[.int .i64 2, .int .i64 a, .int .i64 p0, .int .i64 p1, .int .i64 p2] 23)).drew w.heap.size 23 #[.int .i64 0, .int .i64 0, .int .i64 0, .int .i64 0, .int .i64 0] := (hR.alloc _).drew
        have C1 : Has (wr.alloc (.cells #[.int .i64 2, .int .i64 a, .int .i64 p0, .int .i64 p1, .int .i64 p2] 23)).drew wr.heap.size 23 #[.int .i64 2, .int .i64 a, .int .i64 p0, .int .i64 p1, .int .i64 p2] := (Has.new _ _ _).drew
        have O1 : Only (fun _ => False) w (wr.alloc (.cells #[.int .i64 2, .int .i64 a, .int .i64 p0, .int .i64 p1, .int .i64 p2] 23)).drew := (HO.out.alloc _).drew
        have x0 : (wr.alloc (.cells #[.int .i64 2, .int .i64 a, .int .i64 p0, .int .i64 p1, .int .i64 p2] 23)).drew.cell? ⟨wr.heap.size, 0, none⟩ = some (.int .i64 2) := C1.cell 0
        have x1 : (wr.alloc (.cells #[.int .i64 2, .int .i64 a, .int .i64 p0, .int .i64 p1, .int .i64 p2] 23)).drew.cell? ⟨wr.heap.size, 1, none⟩ = some (.int .i64 a) := C1.cell 1
        have x2 : (wr.alloc (.cells #[.int .i64 2, .int .i64 a, .int .i64 p0, .int .i64 p1, .int .i64 p2] 23)).drew.cell? ⟨wr.heap.size, 2, none⟩ = some (.int .i64 p0) := C1.cell 2
        have x3 : (wr.alloc (.cells #[.int .i64 2, .int .i64 a, .int .i64 p0, .int .i64 p1, .int .i64 p2] 23)).drew.cell? ⟨wr.heap.size, 3, none⟩ = some (.int .i64 p1) := C1.cell 3
        have x4 : (wr.alloc (.cells #[.int .i64 2, .int .i64 a, .int .i64 p0, .int .i64 p1, .int .i64 p2] 23)).drew.cell? ⟨wr.heap.size, 4, none⟩ = some (.int .i64 p2) := C1.cell 4
        go_wp2_with fail
        refine (HX.out _).mono ?_; rintro e w6 ⟨rfl, o6⟩
        have R6 := o6.has R1 (fun f => f)
        have C6 := o6.has C1 (fun f => f)
        have O6 := Only.trans O1 o6
        clear x0 x1 x2 x3 x4
        have x0 : w6.cell? ⟨wr.heap.size, 0, none⟩ = some (.int .i64 2) := C6.cell 0
        have x1 : w6.cell? ⟨wr.heap.size, 1, none⟩ = some (.int .i64 a) := C6.cell 1
        have x2 : w6.cell? ⟨wr.heap.size, 2, none⟩ = some (.int .i64 p0) := C6.cell 2
        have x3 : w6.cell? ⟨wr.heap.size, 3, none⟩ = some (.int .i64 p1) := C6.cell 3
        have x4 : w6.cell? ⟨wr.heap.size, 4, none⟩ = some (.int .i64 p2) := C6.cell 4
        by_cases hx : x = 0
        · subst hx
          obtain ⟨z0, z1, z2, z3, z4, zf⟩ := Has.facts5 R6
          go_wp2_with fail
          refine bodyPost_ret (v := .tuple #[.agg #[.int .i64 2, .int .i64 a, .int .i64 p0, .int .i64 p1, .int .i64 p2], .int .i64 0]) ?hr rfl ?hp
          case hr => exact res_rp (b := w.heap.size) (Has.put5 R6 rfl _ _ _ _ _) rfl rfl
          case hp =>
            refine ⟨?_, O6.then_ (Only.put5 w6 w.heap.size (.int .i64 2) (.int .i64 a) (.int .i64 p0) (.int .i64 p1) (.int .i64 p2)) (fun i hi e => absurd hi (by have : i = w.heap.size := e; omega))⟩
            rw [HE.out, HFG.out (by simp)]
            rfl
        · have hx' : (x != 0) = true := by simpa using hx
          have HXN := Lib.hid hx
          clear hx
          go_wp2_with fail
          refine (HX.out _).mono ?_; rintro e w7 ⟨rfl, o7⟩
          have R7 := o7.has R6 (fun f => f)
          have O7 := O6.trans o7
          obtain ⟨z0, z1, z2, z3, z4, zf⟩ := Has.facts5 R7
          go_wp2_with fail
          refine bodyPost_ret (v := .tuple #[.agg #[.int .i64 0, .int .i64 0, .int .i64 0, .int .i64 0, .int .i64 0], .int .i64 x]) ?hr rfl ?hp
          case hr => exact res_rp (b := w.heap.size) (Has.put5 R7 rfl _ _ _ _ _) rfl rfl
          case hp =>
            refine ⟨?_, Only.then_ O7 (Only.put5 w7 w.heap.size (.int .i64 0) (.int .i64 0) (.int .i64 0) (.int .i64 0) (.int .i64 0)) (fun i hi e => absurd hi (by have : i = w.heap.size := e; omega))⟩
            rw [HE.out, HFB.out HXN.out]
            rfl
      · obtain ⟨a, rest, rfl⟩ : ∃ a rest, nums = a :: rest := by
          match nums, hnm with
          | a :: rest, _ => exact ⟨a, rest, rfl⟩
        have c0 := hcell 0 a rfl
        have R1 : Has (wr.alloc (.cells #[.int .i64 2, .int .i64 a, .int .i64 0, .int .i64 0, .int .i64 0] 23)) w.heap.size 23 #[.int .i64 0, .int .i64 0, .int .i64 0, .int .i64 0, .int .i64 0] := hR.alloc _
        have O1 := HO.out.alloc (.cells #[.int .i64 2, .int .i64 a, .int .i64 0, .int .i64 0, .int .i64 0] 23)
        have HE := Lib.hid (show refG 2 L0 = (zeroCl, 13) by rw [hL0]; unfold refG; simp [hm])
        have hm2 : (M.toList == [58, 120, 120]) = false := by
          rw [ByteArray.toList_eq]
          simpa using hm
        clear hL0 hm hnm hown htk hcell n1 hp10
        obtain ⟨z0, z1, z2, z3, z4, zf⟩ := Has.facts5 R1
        go_wp2_with fail
        refine bodyPost_ret (v := .tuple #[.agg #[.int .i64 0, .int .i64 0, .int .i64 0, .int .i64 0, .int .i64 0], .int .i64 13]) ?hr rfl ?hp
        case hr => exact res_rp (b := w.heap.size) (Has.put5 R1 rfl _ _ _ _ _) rfl rfl
        case hp =>
          refine ⟨?_, Only.then_ O1 (Only.put5 _ w.heap.size (.int .i64 0) (.int .i64 0) (.int .i64 0) (.int .i64 0) (.int .i64 0)) (fun i hi e => absurd hi (by have : i = w.heap.size := e; omega))⟩
          rw [HE.out]
          rfl

set_option maxRecDepth 100000 in
set_option maxHeartbeats 16000000 in
theorem rparse_4 (w : World) (s : ByteArray) (hs : s.size ≤ 1000000) (hb : s ≠ ⟨#[98]⟩) (hpos : 0 < s.size) (hk : s[0].toNat = 100) :
    Calls Tryd.prog 21 #[.string s] w fun e w' => e = .returned (.tuple #[.agg (refG 4 (scanA (s.data.toList.drop 1) 0 0 [] [])).1.cells, .int .i64 (refG 4 (scanA (s.data.toList.drop 1) 0 0 [] [])).2]) ∧ Only (fun _ => False) w w' := by
  obtain ⟨i0, hi, hz0, hz1, hz2⟩ := info_parts Tryd.info_int
  have hb' := ne_b hb
  have hpos' : (0 : Int) < (s.size : Int) := by omega
  have hpos1 : (1 : Int) ≤ (s.size : Int) := by omega
  have h115 : ((s[0].toNat : Int) == 115) = false := by rw [hk]; decide
  have h109 : ((s[0].toNat : Int) == 109) = false := by rw [hk]; decide
  have h100 : ((s[0].toNat : Int) == 100) = true := by rw [hk]; decide
  generalize hL : scanA (s.data.toList.drop 1) 0 0 [] [] = L0
  have HL := Lib.hid hL
  clear hL hb hk
  go_enter Tryd.func21, Tryd.ntmps21
  go_wp2_with fail
  clear h115 h109 h100 hb'
  go_loopw [5, 6, 7, 8, 9] (fun m u x y i W => ∃ (k : Nat) (n : Int) (d : Nat) (nums : List Int) (M : ByteArray) (u0 : Value), i = .int .i64 k ∧ x = .int .i64 n ∧ y = .int .i64 d ∧ m = .string M ∧ u0 = u ∧ Hid (Sc L0 s k n d nums M) ∧ W.ownsRow (w.heap.size + 1) 3 1 u0 nums.length (intsV nums) ∧ w.heap.size + 1 ≤ W.heap.size ∧ Has W w.heap.size 23 #[.int .i64 0, .int .i64 0, .int .i64 0, .int .i64 0, .int .i64 0] ∧ Only (fun _ => False) w W) (fun _ _ _ _ i _ => s.size + 1 - (intOf i).toNat)
  case atStart => exact ⟨1, 0, 0, [], ⟨#[]⟩, _, rfl, rfl, rfl, rfl, rfl, Lib.hid ⟨Nat.le_refl _, by decide, by decide, by decide, by decide, .inl ⟨by omega, HL.out.symm, rfl⟩⟩, World.ownsRow_nil _ _ _ _, by simp, Has.new _ _ _, (Only.refl _ _).alloc _⟩
  case round =>
    obtain ⟨k, n, d, nums, M, u, rfl, rfl, rfl, rfl, rfl, HS, hown, hlow, hR, ho⟩ := hrel
    have hsc := HS.out
    obtain ⟨k1, n0, n1, d3, ⟨sm1, sm2⟩, hst⟩ := hsc
    have hp10 := pow3 d d3
    have HO := Lib.hid ho
    clear ho
    rcases hst with ⟨hks, hL0, hnm⟩ | ⟨hks, hL0, hnm⟩
    · have HL0 := Lib.hid hL0
      have HN1 := Lib.hid n1
      have n999 : n < 1000 := by omega
      clear hL0 n1 hp10
      have hlow2 := hlow
      have hOB : ∀ j, u.ownBlock = some j → j ≠ w.heap.size := fun j e => by have := own_ge hown e; omega
      have HOB := Lib.hid hOB
      clear hOB
      by_cases hlt : k < s.size
      · have hk1 : (k : Int) < (s.size : Int) := by omega
        have hk2 : (k : Int) ≤ (s.size : Int) := by omega
        have hk3 : (k : Int) + 1 ≤ (s.size : Int) := by omega
        have HD := Lib.hid (drop_byte s k hlt)
        have HO1 := Lib.hid (one_byte s k hlt)
        have hb255 : (s[k].toNat : Int) ≤ 255 := by have := s[k].toNat_lt; omega
        have hb0 : 0 ≤ (s[k].toNat : Int) := by omega
        by_cases hd : 48 ≤ s[k].toNat ∧ s[k].toNat ≤ 57
        · have hd1 : (48 : Int) ≤ (s[k].toNat : Int) := by omega
          have hd2 : (s[k].toNat : Int) ≤ 57 := by omega
          have HDB := Lib.hid (show digB s[k] = true from decide_eq_true hd)
          by_cases hz : d = 0 ∧ s[k].toNat = 48
          · have HE := Lib.hid (show L0 = none by rw [HL0.out, HD.out, scanA, if_pos HDB.out, if_pos (.inl hz)])
            obtain ⟨rfl, hz⟩ := hz
            have hz : (s[k].toNat : Int) = 48 := by omega
            clear hd
            obtain ⟨z0, z1, z2, z3, z4, zf⟩ := Has.facts5 hR
            go_wp2_with fail
            refine bodyPost_ret (v := .tuple #[.agg #[.int .i64 0, .int .i64 0, .int .i64 0, .int .i64 0, .int .i64 0], .int .i64 13]) ?hr rfl ?hp
            case hr => exact res_rp (b := w.heap.size) (Has.put5 hR rfl _ _ _ _ _) rfl rfl
            case hp =>
              refine ⟨?_, Only.then_ HO.out (Only.put5 wr w.heap.size (.int .i64 0) (.int .i64 0) (.int .i64 0) (.int .i64 0) (.int .i64 0)) (fun i hi e => absurd hi (by have : i = w.heap.size := e; omega))⟩
              rw [HE.out]
              rfl
          · by_cases h3 : d = 3
            · have HE := Lib.hid (show L0 = none by rw [HL0.out, HD.out, scanA, if_pos HDB.out, if_pos (.inr h3)])
              subst h3
              clear hd hz
              obtain ⟨z0, z1, z2, z3, z4, zf⟩ := Has.facts5 hR
              go_wp2_with fail
              refine bodyPost_ret (v := .tuple #[.agg #[.int .i64 0, .int .i64 0, .int .i64 0, .int .i64 0, .int .i64 0], .int .i64 13]) ?hr rfl ?hp
              case hr => exact res_rp (b := w.heap.size) (Has.put5 hR rfl _ _ _ _ _) rfl rfl
              case hp =>
                refine ⟨?_, Only.then_ HO.out (Only.put5 wr w.heap.size (.int .i64 0) (.int .i64 0) (.int .i64 0) (.int .i64 0) (.int .i64 0)) (fun i hi e => absurd hi (by have : i = w.heap.size := e; omega))⟩
                rw [HE.out]
                rfl
            · have HE := Lib.hid (show L0 = scanA (s.data.toList.drop (k + 1)) (10 * n + ((s[k].toNat : Int) - 48)) (d + 1) nums M.data.toList by rw [HL0.out, HD.out, scanA, if_pos HDB.out, if_neg (by omega)])
              have hdz : ((d : Int) == 0 && (s[k].toNat : Int) == 48) = false := by
                rw [Bool.and_eq_false_iff]
                by_cases h0 : d = 0
                · right
                  have : ¬ (s[k].toNat : Int) = 48 := by omega
                  simpa using this
                · left
                  have : ¬ (d : Int) = 0 := by omega
                  simpa using this
              have h3' : ((d : Int) == 3) = false := by
                have : ¬ (d : Int) = 3 := by omega
                simpa using this
              have HN2 := Lib.hid (show 10 * n + ((s[k].toNat : Int) - 48) < 10 ^ (d + 1) by have := HN1.out; rw [Int.pow_succ]; omega)
              have HDL := Lib.hid (show d + 1 ≤ 3 by omega)
              have hc0 : (d : Int) = 0 ∧ ¬ (s[k].toNat : Int) = 48 ∨ ¬ (d : Int) = 0 := by omega
              clear hd hz h3 hdz
              rcases hc0 with ⟨e1, e2⟩ | e1
              all_goals
                go_wp2_with fail
                go_roundw
                case rel => exact ⟨k + 1, 10 * n + ((s[k].toNat : Int) - 48), d + 1, nums, M, _, by go_num, by go_num, by go_num, rfl, rfl, Lib.hid ⟨by omega, by omega, HN2.out, HDL.out, ⟨by omega, by omega⟩, .inl ⟨by omega, HE.out, hnm⟩⟩, hown, hlow, hR, HO.out⟩
                case measure => simp only [intOf]; omega
        · have HDB := Lib.hid (show digB s[k] = false from decide_eq_false hd)
          have hnd : (s[k].toNat : Int) < 48 ∨ ¬ (s[k].toNat : Int) < 48 ∧ (57 : Int) < (s[k].toNat : Int) := by omega
          clear hd
          by_cases hz : d = 0
          · have HE := Lib.hid (show L0 = none by rw [HL0.out, HD.out, scanA, if_neg (by rw [HDB.out]; decide), if_pos hz])
            subst hz
            rcases hnd with e1 | ⟨e1, e2⟩
            all_goals
              obtain ⟨z0, z1, z2, z3, z4, zf⟩ := Has.facts5 hR
              go_wp2_with fail
              refine bodyPost_ret (v := .tuple #[.agg #[.int .i64 0, .int .i64 0, .int .i64 0, .int .i64 0, .int .i64 0], .int .i64 13]) ?hr rfl ?hp
              case hr => exact res_rp (b := w.heap.size) (Has.put5 hR rfl _ _ _ _ _) rfl rfl
              case hp =>
                refine ⟨?_, Only.then_ HO.out (Only.put5 wr w.heap.size (.int .i64 0) (.int .i64 0) (.int .i64 0) (.int .i64 0) (.int .i64 0)) (fun i hi e => absurd hi (by have : i = w.heap.size := e; omega))⟩
                rw [HE.out]
                rfl
          · have HE := Lib.hid (show L0 = scanA (s.data.toList.drop (k + 1)) 0 0 (nums ++ [n]) (M ++ s.extract k (k + 1)).data.toList by rw [HL0.out, HD.out, scanA, if_neg (by rw [HDB.out]; decide), if_neg hz, ByteArray.data_append, Array.toList_append, HO1.out])
            have hz' : ((d : Int) == 0) = false := by
              have : ¬ (d : Int) = 0 := by omega
              simpa using this
            have HSZ := Lib.hid (show (M ++ s.extract k (k + 1)).size = M.size + 1 by rw [ByteArray.size_append, ByteArray.size_extract]; omega)
            have hcat := fun W => run_string_add_sum (P := Tryd.prog) (w := W) M (s.extract k (k + 1)) (by rw [ByteArray.size_extract]; omega)
            clear hz
            rcases hnd with e1 | ⟨e1, e2⟩
            all_goals
              go_wp2_with (at_builtin; go_must (refine wpList_append_own_at _ rfl _ _ 26 rfl (w.heap.size + 1) 3 i0 (.int .i64 0) 1 8 Tryd.underlying26 hi hz0 hz1 hz2 rfl (by decide) u nums.length (intsV nums) ?hs0 (hown.alloc _) ⟨wr.heap.size, 0, none⟩ 1 1 [_] ?hx0 rfl (cell_one_new _ _ _) ?c20 ?c30 ?c40 ?c50 ?_); (case hs0 => rfl); (case hx0 => rfl); (case c20 => intro y hy; obtain rfl := List.mem_singleton.1 hy; rfl); (case c30 => unfold maxLen; omega); (case c40 => omega); (case c50 => simp; omega); intro v1 w1 ho1 hg1 _ hat1)
              have HR1 := Lib.hid (Has.grown (hR.alloc _) hg1 (fun e => HOB.out _ e.symm rfl))
              have HO2 := Lib.hid (Only.grown (HO.out.alloc _) hg1 (fun j e hj => by have := own_ge hown e; omega))
              have hlen : (nums ++ [n]).length = nums.length + 1 := by simp
              go_wp2_with fail
              go_roundw
              case rel => exact ⟨k + 1, 0, 0, nums ++ [n], M ++ s.extract k (k + 1), _, by go_num, rfl, rfl, rfl, rfl, Lib.hid ⟨by omega, by decide, by decide, by decide, ⟨by rw [hlen]; omega, by rw [HSZ.out]; omega⟩, .inl ⟨by omega, HE.out, by rw [hlen, HSZ.out]; omega⟩⟩, by rw [hlen]; unfold intsV; rw [List.map_append]; exact ho1, by have := hg1.size; simp at this; omega, HR1.out, HO2.out⟩
              case measure => simp only [intOf]; omega
      · obtain rfl : k = s.size := by omega
        have HD := Lib.hid (show s.data.toList.drop s.size = [] from List.drop_of_length_le (by rw [Array.length_toList]; exact Nat.le_refl _))
        by_cases hz : d = 0
        · have HE := Lib.hid (show L0 = none by rw [HL0.out, HD.out, scanA, if_pos hz])
          subst hz
          clear hlt
          obtain ⟨z0, z1, z2, z3, z4, zf⟩ := Has.facts5 hR
          go_wp2_with fail
          refine bodyPost_ret (v := .tuple #[.agg #[.int .i64 0, .int .i64 0, .int .i64 0, .int .i64 0, .int .i64 0], .int .i64 13]) ?hr rfl ?hp
          case hr => exact res_rp (b := w.heap.size) (Has.put5 hR rfl _ _ _ _ _) rfl rfl
          case hp =>
            refine ⟨?_, Only.then_ HO.out (Only.put5 wr w.heap.size (.int .i64 0) (.int .i64 0) (.int .i64 0) (.int .i64 0) (.int .i64 0)) (fun i hi e => absurd hi (by have : i = w.heap.size := e; omega))⟩
            rw [HE.out]
            rfl
        · have HE := Lib.hid (show L0 = some (nums ++ [n], M.data.toList) by rw [HL0.out, HD.out, scanA, if_neg hz])
          have hz' : ((d : Int) == 0) = false := by
            have : ¬ (d : Int) = 0 := by omega
            simpa using this
          clear hz hlt
          go_wp2_with (at_builtin; go_must (refine wpList_append_own_at _ rfl _ _ 26 rfl (w.heap.size + 1) 3 i0 (.int .i64 0) 1 8 Tryd.underlying26 hi hz0 hz1 hz2 rfl (by decide) u nums.length (intsV nums) ?hs0 (hown.alloc _) ⟨wr.heap.size, 0, none⟩ 1 1 [_] ?hx0 rfl (cell_one_new _ _ _) ?c20 ?c30 ?c40 ?c50 ?_); (case hs0 => rfl); (case hx0 => rfl); (case c20 => intro y hy; obtain rfl := List.mem_singleton.1 hy; rfl); (case c30 => unfold maxLen; omega); (case c40 => omega); (case c50 => simp; omega); intro v1 w1 ho1 hg1 _ hat1)
          have HR1 := Lib.hid (Has.grown (hR.alloc _) hg1 (fun e => HOB.out _ e.symm rfl))
          have HO2 := Lib.hid (Only.grown (HO.out.alloc _) hg1 (fun j e hj => by have := own_ge hown e; omega))
          have hlen : (nums ++ [n]).length = nums.length + 1 := by simp
          go_wp2_with fail
          go_roundw
          case rel => exact ⟨s.size + 1, 0, 0, nums ++ [n], M, _, by go_num, rfl, rfl, rfl, rfl, Lib.hid ⟨by omega, by decide, by decide, by decide, ⟨by rw [hlen]; omega, by omega⟩, .inr ⟨rfl, HE.out, by rw [hlen]; omega⟩⟩, by rw [hlen]; unfold intsV; rw [List.map_append]; exact ho1, by have := hg1.size; simp at this; omega, HR1.out, HO2.out⟩
          case measure => simp only [intOf]; omega
    · subst hks
      rcases hown.2 with ⟨_, h0⟩ | ⟨g, cap, cur, rfl, hg, hh, hnc, hcm, hcs, htk⟩
      · omega
      have hnl : (0 : Int) < (nums.length : Int) := by omega
      have hcell : ∀ j x, nums[j]? = some x → wr.cell? ⟨g, j, none⟩ = some (.int .i64 x) := fun j x h => by
        have := hown.cells (g := g) rfl j (.int .i64 x) (by unfold intsV; rw [List.getElem?_map, h]; rfl)
        rw [← this]
        congr 1
        unfold Addr.add
        by_cases hj : j = 0
        · subst hj; rfl
        · simp [hj]

      obtain ⟨a, rest, rfl⟩ : ∃ a rest, nums = a :: rest := by
        match nums, hnm with
        | a :: rest, _ => exact ⟨a, rest, rfl⟩
      have c0 := hcell 0 a rfl
      have R1 : Has (wr.alloc (.cells #[.int .i64 4, .int .i64 a, .int .i64 0, .int .i64 0, .int .i64 0] 23)) w.heap.size 23 #[.int .i64 0, .int .i64 0, .int .i64 0, .int .i64 0, .int .i64 0] := hR.alloc _
      have C1 : Has (wr.alloc (.cells #[.int .i64 4, .int .i64 a, .int .i64 0, .int .i64 0, .int .i64 0] 23)) wr.heap.size 23 #[.int .i64 4, .int .i64 a, .int .i64 0, .int .i64 0, .int .i64 0] := Has.new _ _ _
      have O1 := HO.out.alloc (.cells #[.int .i64 4, .int .i64 a, .int .i64 0, .int .i64 0, .int .i64 0] 23)
      by_cases hm : M.data.toList = []
      · obtain rfl : M = ⟨#[]⟩ := ByteArray.ext (Array.ext' hm)
        have HE := Lib.hid (show refG 4 L0 = finF ⟨4, a, 0, 0, 0⟩ by rw [hL0]; unfold refG; simp)
        have HX := fun W => srcheck_any W ⟨4, a, 0, 0, 0⟩
        simp only [Cl.cells] at HX
        have HFG : Cl.check ⟨4, a, 0, 0, 0⟩ = 0 → finF ⟨4, a, 0, 0, 0⟩ = (⟨4, a, 0, 0, 0⟩, 0) := fun h => by unfold finF; rw [if_pos h]
        have HFB : Cl.check ⟨4, a, 0, 0, 0⟩ ≠ 0 → finF ⟨4, a, 0, 0, 0⟩ = (zeroCl, Cl.check ⟨4, a, 0, 0, 0⟩) := fun h => by unfold finF; rw [if_neg h]
        generalize Cl.check ⟨4, a, 0, 0, 0⟩ = x at *
        replace HX := Lib.hid HX
        replace HFG := Lib.hid HFG
        replace HFB := Lib.hid HFB
        clear hL0 hm hnm hown htk hcell n1 hp10
        go_wp2_with fail
        have x0 : (wr.alloc (.cells #[.int .i64 4, .int .i64 a, .int .i64 0, .int .i64 0, .int .i64 0] 23)).cell? ⟨wr.heap.size, 0, none⟩ = some (.int .i64 4) := C1.cell 0
        have x1 : (wr.alloc (.cells #[.int .i64 4, .int .i64 a, .int .i64 0, .int .i64 0, .int .i64 0] 23)).cell? ⟨wr.heap.size, 1, none⟩ = some (.int .i64 a) := C1.cell 1
        have x2 : (wr.alloc (.cells #[.int .i64 4, .int .i64 a, .int .i64 0, .int .i64 0, .int .i64 0] 23)).cell? ⟨wr.heap.size, 2, none⟩ = some (.int .i64 0) := C1.cell 2
        have x3 : (wr.alloc (.cells #[.int .i64 4, .int .i64 a, .int .i64 0, .int .i64 0, .int .i64 0] 23)).cell? ⟨wr.heap.size, 3, none⟩ = some (.int .i64 0) := C1.cell 3
        have x4 : (wr.alloc (.cells #[.int .i64 4, .int .i64 a, .int .i64 0, .int .i64 0, .int .i64 0] 23)).cell? ⟨wr.heap.size, 4, none⟩ = some (.int .i64 0) := C1.cell 4
        go_wp2_with fail
        refine (HX.out _).mono ?_; rintro e w6 ⟨rfl, o6⟩
        have R6 := o6.has R1 (fun f => f)
        have C6 := o6.has C1 (fun f => f)
        have O6 := Only.trans O1 o6
        clear x0 x1 x2 x3 x4
        have x0 : w6.cell? ⟨wr.heap.size, 0, none⟩ = some (.int .i64 4) := C6.cell 0
        have x1 : w6.cell? ⟨wr.heap.size, 1, none⟩ = some (.int .i64 a) := C6.cell 1
        have x2 : w6.cell? ⟨wr.heap.size, 2, none⟩ = some (.int .i64 0) := C6.cell 2
        have x3 : w6.cell? ⟨wr.heap.size, 3, none⟩ = some (.int .i64 0) := C6.cell 3
        have x4 : w6.cell? ⟨wr.heap.size, 4, none⟩ = some (.int .i64 0) := C6.cell 4
        by_cases hx : x = 0
        · subst hx
          obtain ⟨z0, z1, z2, z3, z4, zf⟩ := Has.facts5 R6
          go_wp2_with fail
          refine bodyPost_ret (v := .tuple #[.agg #[.int .i64 4, .int .i64 a, .int .i64 0, .int .i64 0, .int .i64 0], .int .i64 0]) ?hr rfl ?hp
          case hr => exact res_rp (b := w.heap.size) (Has.put5 R6 rfl _ _ _ _ _) rfl rfl
          case hp =>
            refine ⟨?_, O6.then_ (Only.put5 w6 w.heap.size (.int .i64 4) (.int .i64 a) (.int .i64 0) (.int .i64 0) (.int .i64 0)) (fun i hi e => absurd hi (by have : i = w.heap.size := e; omega))⟩
            rw [HE.out, HFG.out (by simp)]
            rfl
        · have hx' : (x != 0) = true := by simpa using hx
          have HXN := Lib.hid hx
          clear hx
          go_wp2_with fail
          refine (HX.out _).mono ?_; rintro e w7 ⟨rfl, o7⟩
          have R7 := o7.has R6 (fun f => f)
          have O7 := O6.trans o7
          obtain ⟨z0, z1, z2, z3, z4, zf⟩ := Has.facts5 R7
          go_wp2_with fail
          refine bodyPost_ret (v := .tuple #[.agg #[.int .i64 0, .int .i64 0, .int .i64 0, .int .i64 0, .int .i64 0], .int .i64 x]) ?hr rfl ?hp
          case hr => exact res_rp (b := w.heap.size) (Has.put5 R7 rfl _ _ _ _ _) rfl rfl
          case hp =>
            refine ⟨?_, Only.then_ O7 (Only.put5 w7 w.heap.size (.int .i64 0) (.int .i64 0) (.int .i64 0) (.int .i64 0) (.int .i64 0)) (fun i hi e => absurd hi (by have : i = w.heap.size := e; omega))⟩
            rw [HE.out, HFB.out HXN.out]
            rfl
      · have HE := Lib.hid (show refG 4 L0 = (zeroCl, 13) by rw [hL0]; unfold refG; simp only []; rw [if_neg (by simp), if_pos (.inr hm)])
        have hm1 : M.toList.isEmpty = false := by
          rw [ByteArray.toList_eq]
          cases hl : M.data.toList with
          | nil => exact absurd hl hm
          | cons a l => rfl
        have hm2 : (M.toList == []) = false := by
          rw [ByteArray.toList_eq]
          simpa using hm
        clear hL0 hm hnm hown htk hcell n1 hp10
        obtain ⟨z0, z1, z2, z3, z4, zf⟩ := Has.facts5 R1
        go_wp2_with fail
        refine bodyPost_ret (v := .tuple #[.agg #[.int .i64 0, .int .i64 0, .int .i64 0, .int .i64 0, .int .i64 0], .int .i64 13]) ?hr rfl ?hp
        case hr => exact res_rp (b := w.heap.size) (Has.put5 R1 rfl _ _ _ _ _) rfl rfl
        case hp =>
          refine ⟨?_, Only.then_ O1 (Only.put5 _ w.heap.size (.int .i64 0) (.int .i64 0) (.int .i64 0) (.int .i64 0) (.int .i64 0)) (fun i hi e => absurd hi (by have : i = w.heap.size := e; omega))⟩
          rw [HE.out]
          rfl

def kindR (b : UInt8) : Int := if b.toNat = 115 then 1 else if b.toNat = 109 then 2 else if b.toNat = 100 then 4 else 0
def refF (s : ByteArray) : Cl × Int :=
  if s = ⟨#[98]⟩ then (⟨3, 1, 0, 0, 0⟩, 0)
  else if s.size = 0 then (zeroCl, 13)
  else if kindR (s.data.toList.head?.getD 0) = 0 then (zeroCl, 13)
  else refG (kindR (s.data.toList.head?.getD 0)) (scanA (s.data.toList.drop 1) 0 0 [] [])
theorem refF_b {s : ByteArray} (h : s = ⟨#[98]⟩) : refF s = (⟨3, 1, 0, 0, 0⟩, 0) := by unfold refF; rw [if_pos h]
theorem refF_nil {s : ByteArray} (hb : s ≠ ⟨#[98]⟩) (h : s.size = 0) : refF s = (zeroCl, 13) := by unfold refF; rw [if_neg hb, if_pos h]
set_option maxRecDepth 100000 in
set_option maxHeartbeats 2000000 in
theorem rparse_b (w : World) : Calls Tryd.prog 21 #[.string ⟨#[98]⟩] w fun e w' => e = .returned (.tuple #[.agg #[.int .i64 3, .int .i64 1, .int .i64 0, .int .i64 0, .int .i64 0], .int .i64 0]) ∧ Only (fun _ => False) w w' := by
  go_enter Tryd.func21, Tryd.ntmps21
  go_wp2_with fail
  refine bodyPost_ret (v := .tuple #[.agg #[.int .i64 3, .int .i64 1, .int .i64 0, .int .i64 0, .int .i64 0], .int .i64 0]) ?hr rfl ?hp
  case hr => exact res_rp (b := w.heap.size) (Has.new _ _ _) rfl rfl
  case hp => exact ⟨rfl, (Only.refl _ _).alloc _⟩
set_option maxRecDepth 100000 in
set_option maxHeartbeats 2000000 in
theorem rparse_nil (w : World) : Calls Tryd.prog 21 #[.string ⟨#[]⟩] w fun e w' => e = .returned (.tuple #[.agg #[.int .i64 0, .int .i64 0, .int .i64 0, .int .i64 0, .int .i64 0], .int .i64 13]) ∧ Only (fun _ => False) w w' := by
  go_enter Tryd.func21, Tryd.ntmps21
  go_wp2_with fail
  refine bodyPost_ret (v := .tuple #[.agg #[.int .i64 0, .int .i64 0, .int .i64 0, .int .i64 0, .int .i64 0], .int .i64 13]) ?hr rfl ?hp
  case hr => exact res_rp (b := w.heap.size) (Has.new _ _ _) rfl rfl
  case hp => exact ⟨rfl, (Only.refl _ _).alloc _⟩
set_option maxRecDepth 100000 in
set_option maxHeartbeats 2000000 in
theorem rparse_0 (w : World) (s : ByteArray) (hs : s.size ≤ 1000000) (hb : s ≠ ⟨#[98]⟩) (hpos : 0 < s.size) (h1 : s[0].toNat ≠ 115) (h2 : s[0].toNat ≠ 109) (h4 : s[0].toNat ≠ 100) : Calls Tryd.prog 21 #[.string s] w fun e w' => e = .returned (.tuple #[.agg #[.int .i64 0, .int .i64 0, .int .i64 0, .int .i64 0, .int .i64 0], .int .i64 13]) ∧ Only (fun _ => False) w w' := by
  have hb' := ne_b hb
  have hpos' : (0 : Int) < (s.size : Int) := by omega
  have h115 : ((s[0].toNat : Int) == 115) = false := by have : ¬ (s[0].toNat : Int) = 115 := by omega
                                                        simpa using this
  have h109 : ((s[0].toNat : Int) == 109) = false := by have : ¬ (s[0].toNat : Int) = 109 := by omega
                                                        simpa using this
  have h100 : ((s[0].toNat : Int) == 100) = false := by have : ¬ (s[0].toNat : Int) = 100 := by omega
                                                        simpa using this
  clear hb h1 h2 h4
  go_enter Tryd.func21, Tryd.ntmps21
  go_wp2_with fail
  refine bodyPost_ret (v := .tuple #[.agg #[.int .i64 0, .int .i64 0, .int .i64 0, .int .i64 0, .int .i64 0], .int .i64 13]) ?hr rfl ?hp
  case hr => exact res_rp (b := w.heap.size) (Has.new _ _ _) rfl rfl
  case hp => exact ⟨rfl, (Only.refl _ _).alloc _⟩
theorem rparse_any (w : World) (s : ByteArray) (hs : s.size ≤ 1000000) : Calls Tryd.prog 21 #[.string s] w fun e w' => e = .returned (.tuple #[.agg (refF s).1.cells, .int .i64 (refF s).2]) ∧ Only (fun _ => False) w w' := by
  by_cases hb : s = ⟨#[98]⟩
  · rw [refF_b hb, hb]
    exact rparse_b w
  by_cases h0 : s.size = 0
  · rw [refF_nil hb h0, show s = ⟨#[]⟩ from ByteArray.ext (Array.eq_empty_of_size_eq_zero h0)]
    exact rparse_nil w
  have hpos : 0 < s.size := by omega
  have hh : s.data.toList.head?.getD 0 = s[0] := by rw [head_byte s hpos]; rfl
  have hE : refF s = if kindR s[0] = 0 then (zeroCl, 13) else refG (kindR s[0]) (scanA (s.data.toList.drop 1) 0 0 [] []) := by unfold refF; rw [if_neg hb, if_neg h0, hh]
  rw [hE]
  by_cases h1 : s[0].toNat = 115
  · rw [show kindR s[0] = 1 by unfold kindR; rw [if_pos h1], if_neg (by decide)]
    exact rparse_1 w s hs hb hpos h1
  by_cases h2 : s[0].toNat = 109
  · rw [show kindR s[0] = 2 by unfold kindR; rw [if_neg h1, if_pos h2], if_neg (by decide)]
    exact rparse_2 w s hs hb hpos h2
  by_cases h4 : s[0].toNat = 100
  · rw [show kindR s[0] = 4 by unfold kindR; rw [if_neg h1, if_neg h2, if_pos h4], if_neg (by decide)]
    exact rparse_4 w s hs hb hpos h4
  rw [show kindR s[0] = 0 by unfold kindR; rw [if_neg h1, if_neg h2, if_neg h4], if_pos rfl]
  exact rparse_0 w s hs hb hpos h1 h2 h4
end Go.Proofs.YtigcfgmblnbleaaDoor
