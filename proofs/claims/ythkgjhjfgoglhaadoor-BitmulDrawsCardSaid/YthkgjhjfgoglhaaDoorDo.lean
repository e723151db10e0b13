/- bitmul.Draw: what it draws. -/
import Derived.Test.YthkgjhjfgoglhaaDoorDe
import Derived.Test.YthkgjhjfgoglhaaDoorTq
import Derived.Deep.DeepCutAuto
import Derived.Deep.CutBlock
set_option linter.unusedSimpArgs false
set_option linter.unusedVariables false
namespace Go.Proofs.YthkgjhjfgoglhaaDoor
open Go.RowKit

def evL (L : List Bool) (k : Nat) : List Bool := (List.range k).map fun i => lf L (2 * i)
def odL (L : List Bool) (k : Nat) : List Bool := (List.range k).map fun i => lf L (2 * i + 1)
theorem evL_len (L : List Bool) (k : Nat) : (evL L k).length = k := by simp [evL]
theorem odL_len (L : List Bool) (k : Nat) : (odL L k).length = k := by simp [odL]
theorem evL_snoc (L : List Bool) (k : Nat) : evL L (k + 1) = evL L k ++ [lf L (2 * k)] := by simp [evL, List.range_succ]
theorem odL_snoc (L : List Bool) (k : Nat) : odL L (k + 1) = odL L k ++ [lf L (2 * k + 1)] := by simp [odL, List.range_succ]
theorem ev_take (l : List Int) (n : Nat) : evL (bitsI (l.take (2 * n))) n = evL (bitsI l) n ∧ odL (bitsI (l.take (2 * n))) n = odL (bitsI l) n := by
  have h : ∀ i, i < 2 * n → lf (bitsI (l.take (2 * n))) i = lf (bitsI l) i := fun i hi => by
    unfold lf bitsI
    rw [List.map_take, List.getD_eq_getElem?_getD, List.getD_eq_getElem?_getD, List.getElem?_take, if_pos hi]
  constructor
  · apply List.map_congr_left
    intro i hi
    exact h _ (by have := List.mem_range.1 hi; omega)
  · apply List.map_congr_left
    intro i hi
    exact h _ (by have := List.mem_range.1 hi; omega)
theorem VL.putT {W W' : World} {base b : Nat} {v : Value} {l : List Bool} {t : TypeId} {cs : Array Value} (h : VL W base v l) (hb : Has W b t cs) (hne : (52 : TypeId) ≠ t) (o : Only (· = b) W W') : VL W' base v l := by
  rcases h with h | ⟨g, h1, h2, c, h3, h4⟩
  · exact .inl h
  · exact .inr ⟨g, h1, h2, o.row ⟨c, h3, h4⟩ (fun e => by
      subst e
      have := Option.some.inj (Eq.trans (Eq.symm h3) hb)
      injection this with _ ht _
      exact hne ht)⟩
def drawP (l : List Int) (n : Nat) : Pt := ⟨evL (bitsI l) n, odL (bitsI l) n, []⟩
def DrawOk (T n : Nat) (A : Option Addr) (c : Nat) (l : List Int) (w : World) (e : Ending) (w' : World) : Prop := (∃ u, e = .returned (.tuple #[u, .nilIface]) ∧ PartV w' 0 u (drawP l n)) ∧ Has w' T 54 #[.slice A l.length c, .int .i64 ((2 * n : Nat) : Int), .bool true] ∧ Only (· = T) w w'
set_option maxRecDepth 100000 in
set_option maxHeartbeats 8000000 in
theorem draw_ok (w : World) (T n : Nat) (A : Option Addr) (c : Nat) (l : List Int) (h : TapeAt w T A c l 0) (hl : l.length ≤ 1000000) (hx : ∀ x ∈ l, 0 ≤ x ∧ x < 2 ^ 64) (h1 : 1 ≤ n) (h2 : n ≤ 4096) (hm : 2 * n ≤ l.length) : Calls Tryd.prog 6 #[.int .i64 n, .pointer (some ⟨T, 0, none⟩)] w (DrawOk T n A c l w) := by
  have HC := Lib.hid (fun W => ck_ok W n h1 h2)
  have HB := Lib.hid (fun W (o : Only (fun _ => False) w W) => (show Calls Tryd.prog 18 #[.pointer (some ⟨T, 0, none⟩), .int .i64 (2 * (n : Int))] W fun x w' => (∃ g, x = .returned (.tuple #[.slice (some ⟨g, 0, none⟩) (2 * n) (2 * n), .nilIface]) ∧ Reads w' (.slice (some ⟨g, 0, none⟩) (2 * n) (2 * n)) (bcellsB (bitsI (l.take (2 * n))))) ∧ Has w' T 54 #[.slice A l.length c, .int .i64 ((2 * n : Nat) : Int), .bool true] ∧ Only (· = T) W w' by
    have := bits_ok W T (2 * n) A c l (h.inner o) hl hm (by omega) hx
    rwa [show ((2 * n : Nat) : Int) = 2 * (n : Int) by omega] at this ⊢))
  have R1 : Has (w.alloc (.cells #[.int .i64 0, .slice none 0 0, .int .i64 0, .slice none 0 0, .int .i64 0, .slice none 0 0] 32)) w.heap.size 32 #[.int .i64 0, .slice none 0 0, .int .i64 0, .slice none 0 0, .int .i64 0, .slice none 0 0] := Has.new _ _ _
  have O1 : Only (fun _ => False) w (w.alloc (.cells #[.int .i64 0, .slice none 0 0, .int .i64 0, .slice none 0 0, .int .i64 0, .slice none 0 0] 32)) := (Only.refl _ _).alloc _
  have HL := Lib.hid (show (bitsI (l.take (2 * n))).length = 2 * n by simp [bitsI]; omega)
  have HTL := Lib.hid (Has.lt h.1)
  obtain ⟨P, hP⟩ : ∃ P : Ending → World → Prop, P = DrawOk T n A c l w := ⟨_, rfl⟩
  have HP := Lib.hid (show ∀ e W, DrawOk T n A c l w e W → P e W by intro e W h; rw [hP]; exact h)
  rw [← hP]
  clear h hl hm hx hP
  obtain ⟨L, hLL⟩ : ∃ L, L = bitsI (l.take (2 * n)) := ⟨_, rfl⟩
  rw [← hLL] at HB HL
  have HLL := Lib.hid hLL
  clear hLL
  go_enter Tryd.func6, Tryd.ntmps6
  go_wp2_with fail
  refine (HC.out _).mono ?_; rintro e w2 ⟨rfl, rfl⟩
  go_wp2_with fail
  refine (HB.out _ O1).mono ?_; rintro e w3 ⟨⟨g, rfl, hr⟩, hT, o3⟩
  have hneT : w.heap.size ≠ T := by have := HTL.out; omega
  have HR3 := Lib.hid (o3.has R1 hneT)
  have HT3 := Lib.hid hT
  have HO3 := Lib.hid ((O1.mono (fun _ _ f => f.elim)).trans o3)
  have HRD := Lib.hid hr
  obtain ⟨m, hm⟩ : ∃ m, m = 2 * n := ⟨_, rfl⟩
  rw [← hm] at HRD HL HT3 ⊢
  have HM := Lib.hid hm
  clear hr hT o3 R1 O1 hneT hm
  go_upto_block 0 with fail
  have HI := Lib.hid (info_parts Tryd.info_b)
  go_cut [9, 10] (fun u v W => ∃ (BU : Option Addr) (cu : Nat) (BV : Option Addr) (cv : Nat), u = .slice BU n cu ∧ v = .slice BV n cv ∧ Reads W (.slice BU n cu) (bcellsB (evL L n)) ∧ Reads W (.slice BV n cv) (bcellsB (odL L n)) ∧ Only (fun _ => False) w3 W)
  case first =>
    as_aux_lemma =>
      go_wp2_with fail
      go_loopw [9, 10, 11] (fun u v i W => ∃ (k : Nat) (u0 v0 : Value), k ≤ n ∧ i = .int .i64 (2 * (k : Int)) ∧ u0 = u ∧ v0 = v ∧ W.ownsRow w3.heap.size 4 1 u0 k (bcellsB (evL L k)) ∧ W.ownsRow w3.heap.size 4 1 v0 k (bcellsB (odL L k)) ∧ Sep u0 v0 ∧ Only (fun _ => False) w3 W) (fun _ _ i _ => 2 * n - (intOf i).toNat)
      case atStart => exact ⟨0, _, _, by omega, rfl, rfl, rfl, World.ownsRow_nil _ _ _ _, World.ownsRow_nil _ _ _ _, fun g hg => by simp [Value.ownBlock] at hg, Only.refl _ _⟩
      case round =>
        obtain ⟨k, u, v, hk, rfl, rfl, rfl, ownu, ownv, sep, ho⟩ := hrel
        have hm2 := HM.out
        have hk' : k < n ∨ k = n := by omega
        rcases hk' with hlt | rfl
        · have hki : 2 * (k : Int) < (m : Int) := by omega
          have hki2 : 2 * (k : Int) + 1 < (m : Int) := by omega
          have t0 : (2 * (k : Int)).toNat = 2 * k := by omega
          have t1 : (2 * (k : Int) + 1).toNat = 2 * k + 1 := by omega
          have t2 : IntKind.i64.wrap (2 * (k : Int) + 1) = 2 * (k : Int) + 1 := IntWalk.i64_in _ (by omega)
          have hb := HRD.out.inner ho
          have HD1 := Lib.hid (show w3.cell? ⟨g, 2 * k, none⟩ = some (.bool (lf L (2 * k))) by have := HRD.out.at (bcellsB_at (l := L) (k := 2 * k) (by rw [HL.out]; omega)); rwa [add_head] at this)
          have HD2 := Lib.hid (show w3.cell? ⟨g, 2 * k + 1, none⟩ = some (.bool (lf L (2 * k + 1))) by have := HRD.out.at (bcellsB_at (l := L) (k := 2 * k + 1) (by rw [HL.out]; omega)); rwa [add_head] at this)
          have c1 : wr.cell? ⟨g, 2 * k, none⟩ = some (.bool (lf L (2 * k))) := by have := hb.at (bcellsB_at (l := L) (k := 2 * k) (by rw [HL.out]; omega)); rwa [add_head] at this
          have c2 : wr.cell? ⟨g, 2 * k + 1, none⟩ = some (.bool (lf L (2 * k + 1))) := by have := hb.at (bcellsB_at (l := L) (k := 2 * k + 1) (by rw [HL.out]; omega)); rwa [add_head] at this
          have HSN := Lib.hid (evL_snoc L k)
          have HSN2 := Lib.hid (odL_snoc L k)
          have HOWU := Lib.hid ownu
          have HOWV := Lib.hid ownv
          have HSEP := Lib.hid sep
          have HHO := Lib.hid ho
          have hk3 : k ≤ 4096 := by omega
          have hw5 : w3.heap.size ≤ wr.heap.size := ho.size
          obtain ⟨i0, hi, hz0, hz1, hz2⟩ := HI.out
          obtain ⟨x, hxx⟩ : ∃ x, x = lf L (2 * k) := ⟨_, rfl⟩
          obtain ⟨z, hzz⟩ : ∃ z, z = lf L (2 * k + 1) := ⟨_, rfl⟩
          rw [← hxx] at c1 HSN HD1
          rw [← hzz] at c2 HSN2 HD2
          have HXX := Lib.hid hxx
          clear ownu ownv sep ho hb hm2 hxx hzz
          go_wp2_with fail
          go_region_held_law (fun W => W.cell? ⟨g, 2 * k, none⟩ = some (.bool x) ∧ W.cell? ⟨g, 2 * k + 1, none⟩ = some (.bool z)) (first | exact ⟨c1, c2⟩ | with_reducible exact ⟨Only.cell ((HHO.out.alloc _).drew) HD1.out (fun f => f), Only.cell ((HHO.out.alloc _).drew) HD2.out (fun f => f)⟩ | with_reducible exact ⟨Only.cell (((HHO.out.alloc _).alloc _).drew) HD1.out (fun f => f), Only.cell (((HHO.out.alloc _).alloc _).drew) HD2.out (fun f => f)⟩ | with_reducible exact ⟨Only.cell (P5) HD1.out (fun f => f), Only.cell (P5) HD2.out (fun f => f)⟩ | with_reducible exact ⟨Only.cell (P4) HD1.out (fun f => f), Only.cell (P4) HD2.out (fun f => f)⟩ | with_reducible exact ⟨Only.cell (P4.alloc _) HD1.out (fun f => f), Only.cell (P4.alloc _) HD2.out (fun f => f)⟩) (first
            | (refine step_append_lies _ (by rfl) _ _ 37 (by rfl) w3.heap.size 4 i0 (.bool false) 1 1 Tryd.underlying37 hi hz0 hz1 hz2 rfl (by decide) u k (bcellsB (evL L k)) (by rfl) ((HOWU.out.alloc _).drew) ⟨wr.heap.size, 0, none⟩ 1 1 [.bool x] (by rfl) (by rfl) (cell_one_new wr _ _) (by intro y hy; obtain rfl := List.mem_singleton.1 hy; rfl) (by omega) (by unfold maxLen; omega) (by omega) (by simp; omega) _ (by rfl) ?_; intro g4 cap4 w4 ho4 hg4 hat4 hlt4; have hv4 := World.ownsRow.kept ((HOWV.out.alloc _).drew) hg4 HSEP.out.ne; have hs4 := Sep.lies (m := k + 1) (c := cap4) HSEP.out ((HOWV.out.alloc _).drew) hat4; have P4 : Only (fun _ => False) w3 w4 := Only.grown ((HHO.out.alloc _).drew) hg4 (fun j e hj => absurd hj (by have := own_ge2 HOWU.out e; omega)); have hsz4 := P4.size; have hszr := hg4.size; skip; simp only [Act.put, List.getElem_toArray, List.getElem_cons_succ, List.getElem_cons_zero, List.setIfInBounds_toArray, List.set_cons_zero, List.set_cons_succ])
            | (refine step_append_lies _ (by rfl) _ _ 37 (by rfl) w3.heap.size 4 i0 (.bool false) 1 1 Tryd.underlying37 hi hz0 hz1 hz2 rfl (by decide) u k (bcellsB (evL L k)) (by rfl) (((HOWU.out.alloc _).alloc _).drew) ⟨wr.heap.size, 0, none⟩ 1 1 [.bool x] (by rfl) (by rfl) (news_alloc (cell_one_new wr _ _) _) (by intro y hy; obtain rfl := List.mem_singleton.1 hy; rfl) (by omega) (by unfold maxLen; omega) (by omega) (by simp; omega) _ (by rfl) ?_; intro g4 cap4 w4 ho4 hg4 hat4 hlt4; have hv4 := World.ownsRow.kept (((HOWV.out.alloc _).alloc _).drew) hg4 HSEP.out.ne; have hs4 := Sep.lies (m := k + 1) (c := cap4) HSEP.out (((HOWV.out.alloc _).alloc _).drew) hat4; have P4 : Only (fun _ => False) w3 w4 := Only.grown (((HHO.out.alloc _).alloc _).drew) hg4 (fun j e hj => absurd hj (by have := own_ge2 HOWU.out e; omega)); have hsz4 := P4.size; have hszr := hg4.size; have nb4 := news_grown (b := wr.heap.size + 1) (xs := [.bool z]) (((HOWU.out.alloc _).alloc _).drew) hg4 (fun e => by have := own_lt HOWU.out e; omega) (cell_one_at (wr.alloc _) (.bool z) _ (wr.heap.size + 1) (by simp)); simp only [Act.put, List.getElem_toArray, List.getElem_cons_succ, List.getElem_cons_zero, List.setIfInBounds_toArray, List.set_cons_zero, List.set_cons_succ])
            | (refine step_append_lies _ (by rfl) _ _ 37 (by rfl) w3.heap.size 4 i0 (.bool false) 1 1 Tryd.underlying37 hi hz0 hz1 hz2 rfl (by decide) u k (bcellsB (evL L k)) (by rfl) (((HOWU.out.alloc _).alloc _).drew) ⟨wr.heap.size + 1, 0, none⟩ 1 1 [.bool x] (by rfl) (by rfl) (cell_one_at (wr.alloc _) _ _ (wr.heap.size + 1) (by simp)) (by intro y hy; obtain rfl := List.mem_singleton.1 hy; rfl) (by omega) (by unfold maxLen; omega) (by omega) (by simp; omega) _ (by rfl) ?_; intro g4 cap4 w4 ho4 hg4 hat4 hlt4; have hv4 := World.ownsRow.kept (((HOWV.out.alloc _).alloc _).drew) hg4 HSEP.out.ne; have hs4 := Sep.lies (m := k + 1) (c := cap4) HSEP.out (((HOWV.out.alloc _).alloc _).drew) hat4; have P4 : Only (fun _ => False) w3 w4 := Only.grown (((HHO.out.alloc _).alloc _).drew) hg4 (fun j e hj => absurd hj (by have := own_ge2 HOWU.out e; omega)); have hsz4 := P4.size; have hszr := hg4.size; have nb4 := news_grown (b := wr.heap.size) (xs := [.bool z]) (((HOWU.out.alloc _).alloc _).drew) hg4 (fun e => by have := own_lt HOWU.out e; omega) (news_alloc (cell_one_new wr (.bool z) _) _); simp only [Act.put, List.getElem_toArray, List.getElem_cons_succ, List.getElem_cons_zero, List.setIfInBounds_toArray, List.set_cons_zero, List.set_cons_succ])
            | (refine step_append_lies _ (by rfl) _ _ 37 (by rfl) w3.heap.size 4 i0 (.bool false) 1 1 Tryd.underlying37 hi hz0 hz1 hz2 rfl (by decide) v k (bcellsB (odL L k)) (by rfl) (hv4.alloc _) ⟨w4.heap.size, 0, none⟩ 1 1 [.bool z] (by rfl) (by rfl) (cell_one_new w4 _ _) (by intro y hy; obtain rfl := List.mem_singleton.1 hy; rfl) (by omega) (by unfold maxLen; omega) (by omega) (by first | omega | (simp; omega)) _ (by rfl) ?_; intro g5 cap5 w5 ho5 hg5 hat5 hlt5; have hu5 := World.ownsRow.kept (ho4.alloc _) hg5 hs4.symm.ne; have hs5 := Sep.lies (m := k + 1) (c := cap5) hs4.symm (ho4.alloc _) hat5; have P5 : Only (fun _ => False) w3 w5 := Only.grown (P4.alloc _) hg5 (fun j e hj => absurd hj (by have := own_ge2 hv4 e; omega)); simp only [Act.put, List.getElem_toArray, List.getElem_cons_succ, List.getElem_cons_zero, List.setIfInBounds_toArray, List.set_cons_zero, List.set_cons_succ])
            | (refine step_append_lies _ (by rfl) _ _ 37 (by rfl) w3.heap.size 4 i0 (.bool false) 1 1 Tryd.underlying37 hi hz0 hz1 hz2 rfl (by decide) v k (bcellsB (odL L k)) (by rfl) (hv4) ⟨wr.heap.size + 1, 0, none⟩ 1 1 [.bool z] (by rfl) (by rfl) (nb4) (by intro y hy; obtain rfl := List.mem_singleton.1 hy; rfl) (by omega) (by unfold maxLen; omega) (by omega) (by first | omega | (simp; omega)) _ (by rfl) ?_; intro g5 cap5 w5 ho5 hg5 hat5 hlt5; have hu5 := World.ownsRow.kept (ho4) hg5 hs4.symm.ne; have hs5 := Sep.lies (m := k + 1) (c := cap5) hs4.symm (ho4) hat5; have P5 : Only (fun _ => False) w3 w5 := Only.grown (P4) hg5 (fun j e hj => absurd hj (by have := own_ge2 hv4 e; omega)); simp only [Act.put, List.getElem_toArray, List.getElem_cons_succ, List.getElem_cons_zero, List.setIfInBounds_toArray, List.set_cons_zero, List.set_cons_succ])
            | (refine step_append_lies _ (by rfl) _ _ 37 (by rfl) w3.heap.size 4 i0 (.bool false) 1 1 Tryd.underlying37 hi hz0 hz1 hz2 rfl (by decide) v k (bcellsB (odL L k)) (by rfl) (hv4) ⟨wr.heap.size, 0, none⟩ 1 1 [.bool z] (by rfl) (by rfl) (nb4) (by intro y hy; obtain rfl := List.mem_singleton.1 hy; rfl) (by omega) (by unfold maxLen; omega) (by omega) (by first | omega | (simp; omega)) _ (by rfl) ?_; intro g5 cap5 w5 ho5 hg5 hat5 hlt5; have hu5 := World.ownsRow.kept (ho4) hg5 hs4.symm.ne; have hs5 := Sep.lies (m := k + 1) (c := cap5) hs4.symm (ho4) hat5; have P5 : Only (fun _ => False) w3 w5 := Only.grown (P4) hg5 (fun j e hj => absurd hj (by have := own_ge2 hv4 e; omega)); simp only [Act.put, List.getElem_toArray, List.getElem_cons_succ, List.getElem_cons_zero, List.setIfInBounds_toArray, List.set_cons_zero, List.set_cons_succ]))
          all_goals
            have HU5 := Lib.hid hu5
            have HV5 := Lib.hid ho5
            have HS5 := Lib.hid hs5
            have HP5 := Lib.hid P5
            have HNX : Hid (2 * (k : Int) + 2 = 2 * ((k + 1 : Nat) : Int)) := Lib.hid (by omega)
            clear hu5 ho5 hs5 P5 ho4 hg4 hat4 hlt4 hv4 hs4 P4 hsz4 hszr hg5 hat5 hlt5 c1 c2 t0 t1 t2
            go_wp2_with fail
            go_roundw
            case rel => exact ⟨k + 1, _, _, by omega, by first | rfl | rw [HNX.out], rfl, rfl, by rw [HSN.out, bcellsB_snoc]; exact HU5.out, by rw [HSN2.out, bcellsB_snoc]; exact HV5.out, HS5.out.symm, HP5.out⟩
            case measure => simp only [intOf]; omega
        · have hki : ¬ 2 * (k : Int) < (m : Int) := by omega
          have hru := Reads.ofOwn ownu (by rw [bcellsB_length, evL_len])
          have hrv := Reads.ofOwn ownv (by rw [bcellsB_length, odL_len])
          obtain ⟨BU, cu, rfl, -⟩ := hru.shape
          obtain ⟨BV, cv, rfl, -⟩ := hrv.shape
          rw [bcellsB_length, evL_len] at hru
          rw [bcellsB_length, odL_len] at hrv
          have HRU := Lib.hid hru
          have HRV := Lib.hid hrv
          have HHO := Lib.hid ho
          simp only [bcellsB_length, evL_len, odL_len]
          clear ownu ownv sep hru hrv ho hm2
          go_wp2_with fail
          go_meet
          exact ⟨BU, cu, BV, cv, rfl, rfl, HRU.out, HRV.out, HHO.out⟩
  case rest =>
  obtain ⟨BU, cu, BV, cv, rfl, rfl, hru, hrv, ho⟩ := hcut
  have R4 := ho.has HR3.out (fun f => f)
  have T4 := ho.has HT3.out (fun f => f)
  have O4 := HO3.out.trans (ho.mono (fun _ _ f => f.elim))
  have HOA := Lib.hid (fun W (o : Only (fun _ => False) wc W) => bof_any W (.slice BU n cu) (evL L n) (hru.inner o) (by rw [evL_len]; omega))
  have HOB := Lib.hid (fun W (o : Only (fun _ => False) wc W) => bof_any W (.slice BV n cv) (odL L n) (hrv.inner o) (by rw [odL_len]; omega))
  have H12 := Lib.hid h2
  clear hru hrv ho h1 h2
  go_wp2_with fail
  refine (HOA.out _ (Only.refl _ _)).mono ?_; rintro e w5 ⟨⟨va, rfl, hva⟩, o5⟩
  obtain ⟨A5, m5, c5, rfl⟩ := hva.shape
  have R5 := (o5.has R4 (fun f => f)).alloc (.cells #[.int .i64 (evL L n).length, .slice A5 m5 c5] 30)
  have T5 := (o5.has T4 (fun f => f)).alloc (.cells #[.int .i64 (evL L n).length, .slice A5 m5 c5] 30)
  have O5 := (O4.trans (o5.mono (fun _ _ f => f.elim))).alloc (.cells #[.int .i64 (evL L n).length, .slice A5 m5 c5] 30)
  have HO5 := Lib.hid (o5.alloc (.cells #[.int .i64 (evL L n).length, .slice A5 m5 c5] 30))
  have HVA := Lib.hid ((hva.mono (Nat.zero_le _)).inner ((Only.refl _ _).alloc (.cells #[.int .i64 (evL L n).length, .slice A5 m5 c5] 30)))
  have X5 := Has.new w5 30 #[.int .i64 (evL L n).length, .slice A5 m5 c5]
  clear hva o5 R4 T4 O4
  go_wp2_with fail
  refine (HOB.out _ HO5.out).mono ?_; rintro e w6 ⟨⟨vb, rfl, hvb⟩, o6⟩
  obtain ⟨A6, m6, c6, rfl⟩ := hvb.shape
  have R6 := (o6.has R5 (fun f => f)).alloc (.cells #[.int .i64 (odL L n).length, .slice A6 m6 c6] 30)
  have T6 := (o6.has T5 (fun f => f)).alloc (.cells #[.int .i64 (odL L n).length, .slice A6 m6 c6] 30)
  have O6 := (O5.trans (o6.mono (fun _ _ f => f.elim))).alloc (.cells #[.int .i64 (odL L n).length, .slice A6 m6 c6] 30)
  have X6 := (o6.has X5 (fun f => f)).alloc (.cells #[.int .i64 (odL L n).length, .slice A6 m6 c6] 30)
  have Y6 := Has.new w6 30 #[.int .i64 (odL L n).length, .slice A6 m6 c6]
  have HVA6 := Lib.hid ((HVA.out.inner o6).inner ((Only.refl _ _).alloc (.cells #[.int .i64 (odL L n).length, .slice A6 m6 c6] 30)))
  have HVB6 := Lib.hid ((hvb.mono (Nat.zero_le _)).inner ((Only.refl _ _).alloc (.cells #[.int .i64 (odL L n).length, .slice A6 m6 c6] 30)))
  clear hvb o6 R5 T5 O5 X5 HVA HO5
  obtain ⟨x0, x1, xf⟩ := Has.facts2 X6
  obtain ⟨y0, y1, yf⟩ := Has.facts2 Y6
  obtain ⟨r0, r1, r2, r3, r4, r5, rf⟩ := Has.facts6 R6
  go_wp2_with fail
  have hp := Only.put6 (w6.alloc (.cells #[.int .i64 (odL L n).length, .slice A6 m6 c6] 30)) w.heap.size (.int .i64 (evL L n).length) (.slice A5 m5 c5) (.int .i64 (odL L n).length) (.slice A6 m6 c6) (.int .i64 0) (.slice none 0 0)
  refine bodyPost_ret (v := .tuple #[.agg #[.int .i64 (evL L n).length, .slice A5 m5 c5, .int .i64 (odL L n).length, .slice A6 m6 c6, .int .i64 0, .slice none 0 0], .nilIface]) ?hr rfl ?hp
  case hr => exact res_dr (b := w.heap.size) (Has.put6 R6 rfl _ _ _ _ _ _) rfl rfl
  case hp =>
    have hLe : evL L n = evL (bitsI l) n ∧ odL L n = odL (bitsI l) n := by rw [HLL.out]; exact ev_take l n
    apply HP.out
    refine ⟨⟨_, rfl, ?_⟩, ?_, O6.then_ hp (fun i hi e => absurd hi (by have : i = w.heap.size := e; omega))⟩
    · unfold drawP
      rw [← hLe.1, ← hLe.2]
      exact ⟨_, _, _, _, _, _, none, 0, 0, rfl, HVA6.out.putT R6 (by decide) hp, HVB6.out.putT R6 (by decide) hp, VL.zero _ _⟩
    · rw [← HM.out]
      exact hp.has T6 (fun e => by have := HTL.out; have e : T = w.heap.size := e; omega)
end Go.Proofs.YthkgjhjfgoglhaaDoor
