/- The reference of layer 11: numbers. -/
import Derived.Test.YtnaacpopaccjpaaDoorFx
import Derived.Test.YtnaacpopaccjpaaDoorFrD
set_option linter.unusedSimpArgs false
set_option linter.unusedVariables false
namespace Go.Proofs.YtnaacpopaccjpaaDoor
open Go.RowKit Go.Lib

theorem own_base {w : World} {base : Nat} {e : TypeId} {size n : Nat} {v : Value} {xs : List Value} (h : w.ownsRow base e size v n xs) {k : Nat} (q : v.ownBlock = some k) : base ≤ k := by
  rcases h.2 with ⟨rfl, _⟩ | ⟨g, cap, cur, rfl, hb, _⟩
  · cases q
  · cases q; exact hb
theorem Tryd.info_u32 : (Tryd.prog.info? 22).map (fun i => (i.zero, i.size, i.bytes)) = some (some (.int .u32 0), 1, 4) := by kernel_rfl

/-- The numbers behind the kind, as cells. -/
def nums4 (s : ByteArray) : Nat → List Value
  | 0 => []
  | 1 => [.int .u32 (num s 1 4)]
  | 2 => [.int .u32 (num s 1 4), .int .u32 (num s 5 4)]
  | 3 => [.int .u32 (num s 1 4), .int .u32 (num s 5 4), .int .u32 (num s 9 4)]
  | _ => [.int .u32 (num s 1 4), .int .u32 (num s 5 4), .int .u32 (num s 9 4), .int .u32 (num s 13 4)]
theorem num_range (s : ByteArray) (a : Nat) : 0 ≤ num s a 4 ∧ num s a 4 ≤ 4294967295 := by
  have hb := beV_bound (ofStr (s.extract a (a + 4))) (ofStr_range _)
  have hl : (ofStr (s.extract a (a + 4))).length ≤ 4 := by rw [ofStr_length]; simp; omega
  have h2 := Int.ofNat_le.2 (Nat.pow_le_pow_right (show 0 < 256 by decide) hl)
  rw [Int.natCast_pow, Int.natCast_pow] at h2
  have h3 : ((256 : Nat) : Int) ^ 4 = 4294967296 := by decide
  rw [h3] at h2
  have h4 : (256 : Int) ^ (ofStr (s.extract a (a + 4))).length ≤ 4294967296 := h2
  unfold num
  omega
theorem value4 (W : World) (s : ByteArray) (a b : Nat) (hb : b = a + 4) : Calls Tryd.prog 31 #[.string (s.extract a b)] W fun e w' => e = .returned (.int .u64 (num s a 4)) ∧ W = w' := by
  subst hb
  exact value_ref W (s.extract a (a + 4)) (by simp; omega)

set_option maxRecDepth 100000 in
set_option maxHeartbeats 2000000 in
theorem numbers_any (w : World) (s : ByteArray) (hs : s.size ≤ 140737488351232) (hs17 : 17 ≤ s.size) : Calls Tryd.prog 27 #[.string s] w fun e w' =>
    ∃ g cap cur, e = .returned (.slice (some ⟨g, 0, none⟩) 4 cap) ∧ Has w' g 22 cur ∧ cur.toList.take 4 = nums4 s 4 ∧ Only (fun _ => False) w w' := by
  obtain ⟨i0, hi, hz0, hz1, hz2⟩ := info_parts Tryd.info_u32
  have HV0 := Lib.hid (fun W => value4 W s 1 5 rfl)
  have HV1 := Lib.hid (fun W => value4 W s 5 9 rfl)
  have HV2 := Lib.hid (fun W => value4 W s 9 13 rfl)
  have HV3 := Lib.hid (fun W => value4 W s 13 17 rfl)
  obtain ⟨r00, r01⟩ := num_range s 1
  obtain ⟨r10, r11⟩ := num_range s 5
  obtain ⟨r20, r21⟩ := num_range s 9
  obtain ⟨r30, r31⟩ := num_range s 13
  have h17 : (17 : Int) ≤ (s.size : Int) := by omega
  have h13 : (13 : Int) ≤ (s.size : Int) := by omega
  have h9 : (9 : Int) ≤ (s.size : Int) := by omega
  have h5 : (5 : Int) ≤ (s.size : Int) := by omega
  go_enter Tryd.func27, Tryd.ntmps27
  go_wp2_with fail
  go_loopw [3, 4] (fun u i W => ∃ (k : Nat) (u0 : Value), k ≤ 4 ∧ i = .int .i64 k ∧ u0 = u ∧ W.ownsRow w.heap.size 22 1 u0 k (nums4 s k) ∧ w.heap.size ≤ W.heap.size ∧ Only (fun _ => False) w W) (fun _ i _ => 4 - (intOf i).toNat)
  case atStart => exact ⟨0, _, by omega, rfl, rfl, World.ownsRow_nil _ _ _ _, Nat.le_refl _, Only.refl _ _⟩
  case round =>
    obtain ⟨k, u, hk, rfl, rfl, hown, hlow, ho⟩ := hrel
    have hkk : k = 0 ∨ k = 1 ∨ k = 2 ∨ k = 3 ∨ k = 4 := by omega
    rcases hkk with rfl | rfl | rfl | rfl | rfl
    · go_wp2_with fail
      refine (HV0.out _).mono ?_; rintro e w3 ⟨rfl, rfl⟩
      go_wp2_with (at_builtin; go_must (refine wpList_append_own_at _ rfl _ _ 50 rfl w.heap.size 22 i0 (.int .u32 0) 1 4 Tryd.underlying50 hi hz0 hz1 hz2 rfl (by decide) u 0 (nums4 s 0) ?hs0 (hown.alloc _) ⟨wr.heap.size, 0, none⟩ 1 1 [_] ?hx0 rfl (cell_one_new _ _ _) ?c20 ?c30 ?c40 ?c50 ?_); (case hs0 => rfl); (case hx0 => rfl); (case c20 => intro y hy; obtain rfl := List.mem_singleton.1 hy; rfl); (case c30 => unfold maxLen; omega); (case c40 => omega); (case c50 => simp; omega); intro v1 w1 ho1 hg1 _ hat1)
      go_roundw
      case rel =>
        refine ⟨1, _, by omega, rfl, rfl, ho1, ?_, ?_⟩
        · have := hg1.size; simp at this; omega
        · exact Only.grown (ho.alloc _) hg1 (fun j e hj => by have := own_base hown e; omega)
      case measure => simp [intOf]
    · go_wp2_with fail
      refine (HV1.out _).mono ?_; rintro e w3 ⟨rfl, rfl⟩
      go_wp2_with (at_builtin; go_must (refine wpList_append_own_at _ rfl _ _ 50 rfl w.heap.size 22 i0 (.int .u32 0) 1 4 Tryd.underlying50 hi hz0 hz1 hz2 rfl (by decide) u 1 (nums4 s 1) ?hs1 (hown.alloc _) ⟨wr.heap.size, 0, none⟩ 1 1 [_] ?hx1 rfl (cell_one_new _ _ _) ?c21 ?c31 ?c41 ?c51 ?_); (case hs1 => rfl); (case hx1 => rfl); (case c21 => intro y hy; obtain rfl := List.mem_singleton.1 hy; rfl); (case c31 => unfold maxLen; omega); (case c41 => omega); (case c51 => simp; omega); intro v1 w1 ho1 hg1 _ hat1)
      go_roundw
      case rel =>
        refine ⟨2, _, by omega, rfl, rfl, ho1, ?_, ?_⟩
        · have := hg1.size; simp at this; omega
        · exact Only.grown (ho.alloc _) hg1 (fun j e hj => by have := own_base hown e; omega)
      case measure => simp [intOf]
    · go_wp2_with fail
      refine (HV2.out _).mono ?_; rintro e w3 ⟨rfl, rfl⟩
      go_wp2_with (at_builtin; go_must (refine wpList_append_own_at _ rfl _ _ 50 rfl w.heap.size 22 i0 (.int .u32 0) 1 4 Tryd.underlying50 hi hz0 hz1 hz2 rfl (by decide) u 2 (nums4 s 2) ?hs2 (hown.alloc _) ⟨wr.heap.size, 0, none⟩ 1 1 [_] ?hx2 rfl (cell_one_new _ _ _) ?c22 ?c32 ?c42 ?c52 ?_); (case hs2 => rfl); (case hx2 => rfl); (case c22 => intro y hy; obtain rfl := List.mem_singleton.1 hy; rfl); (case c32 => unfold maxLen; omega); (case c42 => omega); (case c52 => simp; omega); intro v1 w1 ho1 hg1 _ hat1)
      go_roundw
      case rel =>
        refine ⟨3, _, by omega, rfl, rfl, ho1, ?_, ?_⟩
        · have := hg1.size; simp at this; omega
        · exact Only.grown (ho.alloc _) hg1 (fun j e hj => by have := own_base hown e; omega)
      case measure => simp [intOf]
    · go_wp2_with fail
      refine (HV3.out _).mono ?_; rintro e w3 ⟨rfl, rfl⟩
      go_wp2_with (at_builtin; go_must (refine wpList_append_own_at _ rfl _ _ 50 rfl w.heap.size 22 i0 (.int .u32 0) 1 4 Tryd.underlying50 hi hz0 hz1 hz2 rfl (by decide) u 3 (nums4 s 3) ?hs3 (hown.alloc _) ⟨wr.heap.size, 0, none⟩ 1 1 [_] ?hx3 rfl (cell_one_new _ _ _) ?c23 ?c33 ?c43 ?c53 ?_); (case hs3 => rfl); (case hx3 => rfl); (case c23 => intro y hy; obtain rfl := List.mem_singleton.1 hy; rfl); (case c33 => unfold maxLen; omega); (case c43 => omega); (case c53 => simp; omega); intro v1 w1 ho1 hg1 _ hat1)
      go_roundw
      case rel =>
        refine ⟨4, _, by omega, rfl, rfl, ho1, ?_, ?_⟩
        · have := hg1.size; simp at this; omega
        · exact Only.grown (ho.alloc _) hg1 (fun j e hj => by have := own_base hown e; omega)
      case measure => simp [intOf]
    · go_wp2_with fail
      go_ret
      rcases hown.2 with ⟨_, h0⟩ | ⟨g, cap, cur, rfl, hg, hh, hnc, hcm, hcs, htk⟩
      · cases h0
      · exact ⟨g, cap, cur, rfl, hh, htk, ho⟩
end Go.Proofs.YtnaacpopaccjpaaDoor
