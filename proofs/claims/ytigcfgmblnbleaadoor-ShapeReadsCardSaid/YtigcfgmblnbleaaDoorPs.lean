/- shape.Parse. -/
import Derived.Test.YtigcfgmblnbleaaDoorShelf
import Derived.Test.YtigcfgmblnbleaaDoorNu
import Derived.Test.YtigcfgmblnbleaaDoorSzr
import Derived.Lib.Split
import Derived.Lib.SplitLaws
set_option linter.unusedSimpArgs false
set_option linter.unusedVariables false
namespace Go.Proofs.YtigcfgmblnbleaaDoor
open Go.RowKit

/-- What the library's own variable holds: some number. -/
def Ml (w : World) : Prop := ∃ m : Int, w.cell? ⟨0, 0, none⟩ = some (.int .i64 m)
theorem Ml.only {w w' : World} (h : Ml w) (o : Only (fun _ => False) w w') : Ml w' := by
  obtain ⟨m, hm⟩ := h
  exact ⟨m, o.cell hm (fun f => f)⟩

def kindOf (b : UInt8) : Int := Lib.indexByte [32, 115, 109, 32, 100] b
theorem kind_any (w : World) (b : UInt8) : Calls Tryd.prog 38 #[.string ⟨#[32, 115, 109, 32, 100]⟩, .int .u8 (b.toNat : Int)] w fun e w' => e = .returned (.int .i64 (kindOf b)) ∧ w = w' := by
  refine (Tryd.strings_IndexByte ⟨#[32, 115, 109, 32, 100]⟩ (b.toNat : Int) w).mono ?_
  rintro e w1 ⟨rfl, rfl⟩
  refine ⟨?_, rfl⟩
  rw [show ((b.toNat : Int).toNat.toUInt8) = b by simp]
  rfl
def cutH (s : ByteArray) : ByteArray := ⟨(Lib.cut (s.extract 1 s.size).data.toList [58]).1.toArray⟩
def cutT (s : ByteArray) : ByteArray := ⟨(Lib.cut (s.extract 1 s.size).data.toList [58]).2.1.toArray⟩
def cutB (s : ByteArray) : Bool := (Lib.cut (s.extract 1 s.size).data.toList [58]).2.2
theorem cut_any (w : World) (s : ByteArray) (hs : s.size ≤ 1000000) (hm : Ml w) : Calls Tryd.prog 39 #[.string (s.extract 1 s.size), .string ⟨#[58]⟩] w fun e w' => e = .returned (.tuple #[.string (cutH s), .string (cutT s), .bool (cutB s)]) ∧ Only (fun _ => False) w w' := by
  obtain ⟨m, hm⟩ := hm
  refine (Tryd.strings_Cut (s.extract 1 s.size) ⟨#[58]⟩ m w (by simp; omega) hm).mono ?_
  rintro e w1 ⟨rfl, n, rfl⟩
  exact ⟨rfl, (Only.refl _ _).drewN _⟩
/-- The pieces between the signs x. -/
def pieces (t : ByteArray) : List ByteArray := Lib.splitB ⟨#[120]⟩ 0 (Lib.countB t ⟨#[120]⟩) t
theorem pieces_any (w : World) (t : ByteArray) (hs : t.size ≤ 1000000) (hm : Ml w) : Calls Tryd.prog 41 #[.string t, .string ⟨#[120]⟩] w fun e w' => ∃ g, e = .returned (.slice (some ⟨g, 0, none⟩) (pieces t).length (pieces t).length) ∧ Has w' g 9 ⟨(pieces t).map Value.string⟩ ∧ w.heap.size ≤ g ∧ Only (fun _ => False) w w' := by
  obtain ⟨m, hm⟩ := hm
  have hl : (pieces t).length = Lib.countB t ⟨#[120]⟩ + 1 := Lib.splitB_all ⟨#[120]⟩ (by decide) 0 _ t rfl
  rw [hl]
  refine (Tryd.strings_Split t ⟨#[120]⟩ m w (by omega) hm (by decide)).mono ?_
  rintro e w1 ⟨rfl, rfl⟩
  exact ⟨_, rfl, Has.new _ _ _, Nat.le_refl _, (Only.refl _ _).alloc _⟩
theorem splitB_mem (sep : ByteArray) : ∀ (k : Nat) (s p : ByteArray), p ∈ Lib.splitB sep 0 k s → p.size ≤ s.size
  | 0, s, p, h => by
    rw [Lib.splitB_zero] at h
    rw [List.mem_singleton.1 h]
    exact Nat.le_refl _
  | k + 1, s, p, h => by
    unfold Lib.splitB at h
    split at h
    · rw [List.mem_singleton.1 h]
      exact Nat.le_refl _
    · rcases List.mem_cons.1 h with rfl | h
      · simp; omega
      · have := splitB_mem sep k _ _ h
        simp at this
        omega
theorem cut_le (l m : List UInt8) : (Lib.cut l m).1.length ≤ l.length ∧ (Lib.cut l m).2.1.length ≤ l.length := by
  unfold Lib.cut
  split
  · simp; omega
  · simp
theorem mk_size (l : List UInt8) : (⟨l.toArray⟩ : ByteArray).size = l.length := by simp [ByteArray.size]
theorem cutH_size (s : ByteArray) : (cutH s).size ≤ s.size := by
  have := (cut_le (s.extract 1 s.size).data.toList [58]).1
  unfold cutH
  rw [mk_size]
  have h2 : (s.extract 1 s.size).data.toList.length = (s.extract 1 s.size).size := by rw [Array.length_toList]; rfl
  rw [h2, ByteArray.size_extract] at this
  omega
theorem cutT_size (s : ByteArray) : (cutT s).size ≤ s.size := by
  have := (cut_le (s.extract 1 s.size).data.toList [58]).2
  unfold cutT
  rw [mk_size]
  have h2 : (s.extract 1 s.size).data.toList.length = (s.extract 1 s.size).size := by rw [Array.length_toList]; rfl
  rw [h2, ByteArray.size_extract] at this
  omega
theorem ne_b {s : ByteArray} (h : s ≠ ⟨#[98]⟩) : (s.toList == [98]) = false := by
  rw [ByteArray.toList_eq]
  simp only [beq_eq_false_iff_ne]
  intro e
  apply h
  apply ByteArray.ext
  apply Array.ext'
  exact e
theorem not_empty {s : ByteArray} (h : 0 < s.size) : s.toList.isEmpty = false := by
  rw [ByteArray.toList_eq]
  cases hl : s.data.toList with
  | nil => exact absurd (show s.size = 0 by rw [show s.size = s.data.toList.length by rw [Array.length_toList]; rfl, hl]; rfl) (by omega)
  | cons a l => rfl

theorem res_ps {W : World} {b : Nat} {x0 x1 x2 x3 x4 n : Value} {tm : Array Value} (h : Has W b 23 #[x0, x1, x2, x3, x4]) (h8 : tm.getD 2 undef = .pointer (some ⟨b, 0, none⟩)) (h9 : tm.getD 3 undef = n) :
    (results Tryd.f20 tm).run Tryd.prog W = .ok (.tuple #[.agg #[x0, x1, x2, x3, x4], n]) W := by
  obtain ⟨c0, c1, c2, c3, c4, _⟩ := h.facts5
  simp only [Array.getD_eq_getD_getElem?] at h8 h9
  simp [results, Tryd.results20, go_sem, h8, h9, c0, c1, c2, c3, c4]

/-- The cells of the class while its sides are read. -/
def clAt (nb v0 v1 v2 : Int) : Nat → Array Value
  | 0 => #[.int .i64 2, .int .i64 nb, .int .i64 0, .int .i64 0, .int .i64 0]
  | 1 => #[.int .i64 2, .int .i64 nb, .int .i64 v0, .int .i64 0, .int .i64 0]
  | 2 => #[.int .i64 2, .int .i64 nb, .int .i64 v0, .int .i64 v1, .int .i64 0]
  | _ => #[.int .i64 2, .int .i64 nb, .int .i64 v0, .int .i64 v1, .int .i64 v2]

set_option maxRecDepth 100000 in
set_option maxHeartbeats 4000000 in
theorem parse_m (w : World) (s : ByteArray) (hm : Ml w) (hs : s.size ≤ 1000000) (hb : s ≠ ⟨#[98]⟩) (hpos : 0 < s.size) (hk : kindOf s[0] = 2) (hc : cutB s = true) (nb v0 v1 v2 : Int) (hn : numR (cutH s) = (nb, true)) (p0 p1 p2 : ByteArray) (hp : pieces (cutT s) = [p0, p1, p2])
    (h0 : numR p0 = (v0, true)) (h1 : numR p1 = (v1, true)) (h2 : numR p2 = (v2, true)) (hck : Cl.check ⟨2, nb, v0, v1, v2⟩ = 0) :
    Calls Tryd.prog 20 #[.string s] w fun e w' => e = .returned (.tuple #[.agg #[.int .i64 2, .int .i64 nb, .int .i64 v0, .int .i64 v1, .int .i64 v2], .int .i64 0]) ∧ Only (fun _ => False) w w' := by
  have HK := fun W => kind_any W s[0]
  rw [hk] at HK
  have HCU := fun W h => cut_any W s hs h
  rw [hc] at HCU
  have HNU := fun W => snum_any W (cutH s) (by have := cutH_size s; omega)
  rw [hn] at HNU
  have HSP := fun W h => pieces_any W (cutT s) (by have := cutT_size s; omega) h
  have hmem : ∀ p ∈ pieces (cutT s), p.size ≤ 140737488351232 := fun p h => by have := splitB_mem _ _ _ _ h; have := cutT_size s; omega
  rw [hp] at HSP hmem
  have HSP : ∀ W, Ml W → Calls Tryd.prog 41 #[.string (cutT s), .string ⟨#[120]⟩] W fun e w' => ∃ g, e = .returned (.slice (some ⟨g, 0, none⟩) 3 3) ∧ Has w' g 9 #[.string p0, .string p1, .string p2] ∧ W.heap.size ≤ g ∧ Only (fun _ => False) W w' := HSP
  have HP0 := fun W => snum_any W p0 (hmem p0 (by simp))
  have HP1 := fun W => snum_any W p1 (hmem p1 (by simp))
  have HP2 := fun W => snum_any W p2 (hmem p2 (by simp))
  rw [h0] at HP0
  rw [h1] at HP1
  rw [h2] at HP2
  have HCK := fun W => scheck_any W ⟨2, nb, v0, v1, v2⟩
  rw [hck] at HCK
  simp only [Cl.cells] at HCK
  have HK := Lib.hid HK
  have HCU := Lib.hid HCU
  have HNU := Lib.hid HNU
  have HSP := Lib.hid HSP
  have HP0 := Lib.hid HP0
  have HP1 := Lib.hid HP1
  have HP2 := Lib.hid HP2
  have HCK := Lib.hid HCK
  have he := not_empty hpos
  have hb' := ne_b hb
  have hpos' : (0 : Int) < (s.size : Int) := by omega
  have hpos1 : (1 : Int) ≤ (s.size : Int) := by omega
  have HM := Lib.hid hm
  clear hk hc hn hp h0 h1 h2 hck hmem hm hb
  generalize cutH s = H at *
  generalize cutT s = T at *
  go_enter Tryd.func20, Tryd.ntmps20
  go_wp2_with fail
  refine (HK.out _).mono ?_; rintro e w1 ⟨rfl, rfl⟩
  go_wp2_with fail
  have R1 : Has (w.alloc (.cells #[.int .i64 0, .int .i64 0, .int .i64 0, .int .i64 0, .int .i64 0] 23)) w.heap.size 23 #[.int .i64 0, .int .i64 0, .int .i64 0, .int .i64 0, .int .i64 0] := Has.new _ _ _
  have C1 := Has.new (w.alloc (.cells #[.int .i64 0, .int .i64 0, .int .i64 0, .int .i64 0, .int .i64 0] 23)) 23 (clAt 0 0 0 0 0)
  rw [show (w.alloc (.cells #[.int .i64 0, .int .i64 0, .int .i64 0, .int .i64 0, .int .i64 0] 23)).heap.size = w.heap.size + 1 by simp] at C1
  have o1 : Only (fun _ => False) w ((w.alloc (.cells #[.int .i64 0, .int .i64 0, .int .i64 0, .int .i64 0, .int .i64 0] 23)).alloc (.cells (clAt 0 0 0 0 0) 23)) := ((Only.refl _ _).alloc _).alloc _
  refine (HCU.out _ (HM.out.only o1)).mono ?_; rintro e w2 ⟨rfl, o2⟩
  have R2 := o2.has (R1.alloc _) (fun f => f)
  have C2 := o2.has C1 (fun f => f)
  have O2 := o1.trans o2
  go_wp2_with fail
  refine (HNU.out _).mono ?_; rintro e w3 ⟨rfl, rfl⟩
  have c0 : w2.cell? ⟨w.heap.size + 1, 0, none⟩ = some (.int .i64 2) := C2.cell 0
  have c1 : w2.cell? ⟨w.heap.size + 1, 1, none⟩ = some (.int .i64 0) := C2.cell 1
  have cf := C2.free 1
  go_wp2_with fail
  have C3 : Has (w2.setCell ⟨w.heap.size + 1, 1, none⟩ (.int .i64 nb)) (w.heap.size + 1) 23 (clAt nb v0 v1 v2 0) := C2.put 1 (.int .i64 nb) rfl
  have R3 := R2.far (p := ⟨w.heap.size + 1, 1, none⟩) (by show w.heap.size ≠ w.heap.size + 1; omega) (.int .i64 nb)
  have O3 := O2.setCell ⟨w.heap.size + 1, 1, none⟩ (.int .i64 nb) (fun h => absurd h (by show ¬ w.heap.size + 1 < w.heap.size; omega))
  clear c0 c1 cf
  have hlt2 := C2.lt
  refine (HSP.out _ (HM.out.only O3)).mono ?_; rintro e w4 ⟨g, rfl, S4, hg, o4⟩
  have hz : (w2.setCell ⟨w.heap.size + 1, 1, none⟩ (.int .i64 nb)).heap.size = w2.heap.size := by simp [World.setCell]
  rw [hz] at hg
  have hg4 := S4.lt
  have R4 := o4.has R3 (fun f => f)
  have C4 := o4.has C3 (fun f => f)
  have O4 := O3.trans o4
  have HO4 := Lib.hid O4
  clear O4 O3 o1 hz
  go_wp2_with fail
  go_loopw [9, 11, 12, 65] (fun a b c i W => ∃ (k : Nat), k ≤ 3 ∧ i = .int .i64 k ∧ Has W w.heap.size 23 #[.int .i64 0, .int .i64 0, .int .i64 0, .int .i64 0, .int .i64 0] ∧ Has W (w.heap.size + 1) 23 (clAt nb v0 v1 v2 k) ∧ Has W g 9 #[.string p0, .string p1, .string p2] ∧ Has W w4.heap.size 74 #[.pointer (some ⟨w.heap.size + 1, 2, none⟩), .pointer (some ⟨w.heap.size + 1, 3, none⟩), .pointer (some ⟨w.heap.size + 1, 4, none⟩)] ∧ Only (fun _ => False) w W) (fun _ _ _ i _ => 3 - (intOf i).toNat)
  case atStart => exact ⟨0, by omega, rfl, R4.alloc _, C4.alloc _, S4.alloc _, Has.new _ _ _, HO4.out.alloc _⟩
  case round =>
    obtain ⟨k, hk, rfl, hR, hC, hS, hP, ho⟩ := hrel
    have hkk : k = 0 ∨ k = 1 ∨ k = 2 ∨ k = 3 := by omega
    rcases hkk with rfl | rfl | rfl | rfl
    · have t0 : wr.cell? ⟨w4.heap.size, 0, none⟩ = some (.pointer (some ⟨w.heap.size + 1, 2, none⟩)) := hP.cell 0
      have t1 : wr.cell? ⟨g, 0, none⟩ = some (.string p0) := hS.cell 0
      have t2 : wr.cell? ⟨w.heap.size + 1, 2, none⟩ = some (.int .i64 0) := hC.cell 2
      have t3 := hC.free 2
      go_wp2_with fail
      refine (HP0.out _).mono ?_; rintro e w5 ⟨rfl, rfl⟩
      go_wp2_with fail
      go_roundw
      case rel => exact ⟨1, by omega, rfl, hR.far (p := ⟨w.heap.size + 1, 2, none⟩) (by show w.heap.size ≠ w.heap.size + 1; omega) _, hC.put 2 (.int .i64 v0) rfl, hS.far (p := ⟨w.heap.size + 1, 2, none⟩) (by show g ≠ w.heap.size + 1; omega) _, hP.far (p := ⟨w.heap.size + 1, 2, none⟩) (by show w4.heap.size ≠ w.heap.size + 1; omega) _, ho.setCell ⟨w.heap.size + 1, 2, none⟩ _ (fun h => absurd h (by show ¬ w.heap.size + 1 < w.heap.size; omega))⟩
      case measure => simp [intOf]
    · have t0 : wr.cell? ⟨w4.heap.size, 1, none⟩ = some (.pointer (some ⟨w.heap.size + 1, 3, none⟩)) := hP.cell 1
      have t1 : wr.cell? ⟨g, 1, none⟩ = some (.string p1) := hS.cell 1
      have t2 : wr.cell? ⟨w.heap.size + 1, 3, none⟩ = some (.int .i64 0) := hC.cell 3
      have t3 := hC.free 3
      go_wp2_with fail
      refine (HP1.out _).mono ?_; rintro e w5 ⟨rfl, rfl⟩
      go_wp2_with fail
      go_roundw
      case rel => exact ⟨2, by omega, rfl, hR.far (p := ⟨w.heap.size + 1, 3, none⟩) (by show w.heap.size ≠ w.heap.size + 1; omega) _, hC.put 3 (.int .i64 v1) rfl, hS.far (p := ⟨w.heap.size + 1, 3, none⟩) (by show g ≠ w.heap.size + 1; omega) _, hP.far (p := ⟨w.heap.size + 1, 3, none⟩) (by show w4.heap.size ≠ w.heap.size + 1; omega) _, ho.setCell ⟨w.heap.size + 1, 3, none⟩ _ (fun h => absurd h (by show ¬ w.heap.size + 1 < w.heap.size; omega))⟩
      case measure => simp [intOf]
    · have t0 : wr.cell? ⟨w4.heap.size, 2, none⟩ = some (.pointer (some ⟨w.heap.size + 1, 4, none⟩)) := hP.cell 2
      have t1 : wr.cell? ⟨g, 2, none⟩ = some (.string p2) := hS.cell 2
      have t2 : wr.cell? ⟨w.heap.size + 1, 4, none⟩ = some (.int .i64 0) := hC.cell 4
      have t3 := hC.free 4
      go_wp2_with fail
      refine (HP2.out _).mono ?_; rintro e w5 ⟨rfl, rfl⟩
      go_wp2_with fail
      go_roundw
      case rel => exact ⟨3, by omega, rfl, hR.far (p := ⟨w.heap.size + 1, 4, none⟩) (by show w.heap.size ≠ w.heap.size + 1; omega) _, hC.put 4 (.int .i64 v2) rfl, hS.far (p := ⟨w.heap.size + 1, 4, none⟩) (by show g ≠ w.heap.size + 1; omega) _, hP.far (p := ⟨w.heap.size + 1, 4, none⟩) (by show w4.heap.size ≠ w.heap.size + 1; omega) _, ho.setCell ⟨w.heap.size + 1, 4, none⟩ _ (fun h => absurd h (by show ¬ w.heap.size + 1 < w.heap.size; omega))⟩
      case measure => simp [intOf]
    · have x0 : wr.cell? ⟨w.heap.size + 1, 0, none⟩ = some (.int .i64 2) := hC.cell 0
      have x1 : wr.cell? ⟨w.heap.size + 1, 1, none⟩ = some (.int .i64 nb) := hC.cell 1
      have x2 : wr.cell? ⟨w.heap.size + 1, 2, none⟩ = some (.int .i64 v0) := hC.cell 2
      have x3 : wr.cell? ⟨w.heap.size + 1, 3, none⟩ = some (.int .i64 v1) := hC.cell 3
      have x4 : wr.cell? ⟨w.heap.size + 1, 4, none⟩ = some (.int .i64 v2) := hC.cell 4
      go_wp2_with fail
      refine (HCK.out _).mono ?_; rintro e w6 ⟨rfl, o6⟩
      have C6 := o6.has hC (fun f => f)
      have R6 := o6.has hR (fun f => f)
      have O6 := ho.trans o6
      clear x0 x1 x2 x3 x4
      have x0 : w6.cell? ⟨w.heap.size + 1, 0, none⟩ = some (.int .i64 2) := C6.cell 0
      have x1 : w6.cell? ⟨w.heap.size + 1, 1, none⟩ = some (.int .i64 nb) := C6.cell 1
      have x2 : w6.cell? ⟨w.heap.size + 1, 2, none⟩ = some (.int .i64 v0) := C6.cell 2
      have x3 : w6.cell? ⟨w.heap.size + 1, 3, none⟩ = some (.int .i64 v1) := C6.cell 3
      have x4 : w6.cell? ⟨w.heap.size + 1, 4, none⟩ = some (.int .i64 v2) := C6.cell 4
      obtain ⟨z0, z1, z2, z3, z4, zf⟩ := Has.facts5 R6
      go_wp2_with fail
      refine bodyPost_ret (v := .tuple #[.agg #[.int .i64 2, .int .i64 nb, .int .i64 v0, .int .i64 v1, .int .i64 v2], .int .i64 0]) ?hr rfl ?hp
      case hr => exact res_ps (b := w.heap.size) (Has.put5 R6 rfl _ _ _ _ _) rfl rfl
      case hp => exact ⟨rfl, O6.then_ (Only.put5 w6 w.heap.size (.int .i64 2) (.int .i64 nb) (.int .i64 v0) (.int .i64 v1) (.int .i64 v2)) (fun i hi e => absurd hi (by have : i = w.heap.size := e; omega))⟩
end Go.Proofs.YtigcfgmblnbleaaDoor
