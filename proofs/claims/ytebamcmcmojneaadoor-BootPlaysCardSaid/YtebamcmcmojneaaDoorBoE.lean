/- boot.encode and boot.decode. -/
import Derived.Test.YtebamcmcmojneaaDoorProg
import Derived.Test.YtebamcmcmojneaaDoorMem
import Derived.Test.YtebamcmcmojneaaDoorPut
import Derived.Maps.AppendAt
import Derived.OwnWalk
import Derived.WalkKit
import Derived.WalkSpells
import Derived.Outline
import Derived.Lib.Hide
import Derived.LoopTactic
import Derived.Laws.BytesArg
import Derived.BigQuiet
import Derived.Deep.QuietTactic
import Derived.Laws.BitsLemmas
import Derived.Laws.BitsAllLaws
set_option linter.unusedSimpArgs false
set_option linter.unusedVariables false
namespace Go.Proofs.YtebamcmcmojneaaDoor
open Go.RowKit Go.Lib

/-- Bytes as cells. -/
def bcells (l : List Int) : List Value := l.map fun x => .int .u8 x
theorem bcells_length (l : List Int) : (bcells l).length = l.length := by simp [bcells]
theorem bcells_append (l m : List Int) : bcells (l ++ m) = bcells l ++ bcells m := by simp [bcells]
/-- A string's bytes as numbers. -/
def ofStr (s : ByteArray) : List Int := s.data.toList.map fun b => (b.toNat : Int)
theorem ofStr_length (s : ByteArray) : (ofStr s).length = s.size := by rw [ofStr, List.length_map, Array.length_toList]; rfl

theorem own_shape {w : World} {base : Nat} {e : TypeId} {size n : Nat} {v : Value} {xs : List Value} (h : w.ownsRow base e size v n xs) : ∃ A c, v = .slice A n c := by
  rcases h.2 with ⟨rfl, rfl⟩ | ⟨g, cap, cur, rfl, _⟩
  · exact ⟨_, _, rfl⟩
  · exact ⟨_, _, rfl⟩

theorem Tryd.info_u8 : (Tryd.prog.info? 5).map (fun i => (i.zero, i.size, i.bytes)) = some (some (.int .u8 0), 1, 1) := by kernel_rfl

/-- A row of bytes as a string. -/
theorem own_str {P : Program} {w : World} {base n : Nat} {e' src dst e : TypeId} {v : Value} {bs : List Int} (hs : P.underlying src = some (.slice e)) (he : P.underlying e = some (.int .u8)) (hd : P.underlying dst = some .string)
    (h : w.ownsRow base e' 1 v n (bcells bs)) : (convert src dst v).run P w = .ok (.string (strOfNums bs)) w := by
  have hl : bs.length = n := by simpa [bcells] using h.1
  rcases h.2 with ⟨rfl, rfl⟩ | ⟨g, cap, cur, rfl, _⟩
  · obtain rfl : bs = [] := List.eq_nil_of_length_eq_zero hl
    exact run_convert_bytes_nil w src e hs he 0 0 dst hd
  · refine run_convert_bytes_arg w src e hs he g 0 n cap bs hl (fun i hi => ?_) dst hd
    have hc := h.cells (g := g) rfl i (.int .u8 (bs.getD i 0)) (by simp [bcells, List.getElem?_eq_getElem (show i < bs.length by omega), List.getD_eq_getElem?_getD])
    have ha : (⟨g, 0, none⟩ : Addr).add i = ⟨g, 0 + i, none⟩ := by unfold Addr.add; split <;> simp_all
    rwa [ha] at hc

def b4 (x : Int) : List Int := [x / 16777216, x / 65536 % 256, x / 256 % 256, x % 256]
def rec3 (n : Int) : List Int := b4 n ++ b4 (4294967295 - n) ++ b4 (n * 2654435761 % 4294967296)
def recS (n : Int) : ByteArray := strOfNums (rec3 n)
theorem own_made0 (W : World) (base : Nat) (hb : base ≤ W.heap.size) (t : TypeId) (cs : Array Value) (h : cs.size = 12) : (W.alloc (.cells cs t)).ownsRow base t 1 (.slice (some ⟨W.heap.size, 0, none⟩) 0 12) 0 (bcells []) :=
  ⟨by simp [bcells], .inr ⟨W.heap.size, 12, cs, rfl, hb, heap_alloc_new W _, by omega, by unfold maxLen; omega, by rw [h], by simp [bcells]⟩⟩

theorem xor_ones32 (b : Nat) (hb : b < 2 ^ 32) : (2 ^ 32 - 1) ^^^ b = 2 ^ 32 - 1 - b := by
  have h : (BitVec.allOnes 32 ^^^ BitVec.ofNat 32 b).toNat = (2 ^ 32 - 1) ^^^ b := by
    rw [BitVec.toNat_xor, BitVec.toNat_allOnes, BitVec.toNat_ofNat, Nat.mod_eq_of_lt hb]
  rw [← h, BitVec.allOnes_xor, BitVec.toNat_not, BitVec.toNat_ofNat, Nat.mod_eq_of_lt hb]
theorem u32_not (n : Int) (h0 : 0 ≤ n) (h1 : n ≤ 4294967295) : bits .xor .u32 IntKind.u32.max n = 4294967295 - n := by
  obtain ⟨b, rfl⟩ := Int.eq_ofNat_of_zero_le h0
  have e := u32_xor_nat 4294967295 b (by decide) (by omega)
  rw [show IntKind.u32.max = ((4294967295 : Nat) : Int) by decide, e]
  have := xor_ones32 b (by omega)
  have h2 : (4294967295 : Nat) ^^^ b = 4294967295 - b := this
  rw [h2]
  omega
/-- The first rounds' bytes. -/
def bof (n m : Int) : Nat → List Int
  | 0 => []
  | 1 => b4 n
  | 2 => b4 n ++ b4 (4294967295 - n)
  | _ => b4 n ++ b4 (4294967295 - n) ++ b4 m
theorem bcells_one (l : List Int) : ∀ u ∈ bcells l, u.oneCell' = true := by
  intro u hu
  obtain ⟨x, _, rfl⟩ := List.mem_map.1 hu
  rfl
theorem four_new (w : World) (t : TypeId) (a b c d : Value) : ∀ j u, [a, b, c, d][j]? = some u → (w.alloc (.cells #[a, b, c, d] t)).cell? ((⟨w.heap.size, 0, none⟩ : Addr).add j) = some u := by
  intro j u hu
  have h := (Has.new w t #[a, b, c, d]).cell j
  rw [show (⟨w.heap.size, 0, none⟩ : Addr).add j = ⟨w.heap.size, j, none⟩ by unfold Addr.add; split <;> simp_all]
  rw [h]
  simpa using hu

set_option maxRecDepth 100000 in
set_option maxHeartbeats 1000000 in
set_option maxRecDepth 100000 in
theorem bencode_any (w : World) (n : Int) (h0 : 0 ≤ n) (h1 : n ≤ 4294967295) : Calls Tryd.prog 17 #[.int .u32 n] w fun e w' => e = .returned (.string (recS n)) ∧ Only (fun _ => False) w w' := by
  obtain ⟨i0, hi, hz0, hz1, hz2⟩ := info_parts Tryd.info_u8
  have hmk : ∀ w, (Instr.makeSlice 60 (.int .i64 0) (.int .i64 12)).run Tryd.prog w = .ok (.slice (some ⟨w.heap.size, 0, none⟩) 0 12) (w.alloc (.cells #[.int .u8 0, .int .u8 0, .int .u8 0, .int .u8 0, .int .u8 0, .int .u8 0, .int .u8 0, .int .u8 0, .int .u8 0, .int .u8 0, .int .u8 0, .int .u8 0] 5)) := fun _ => by kernel_rfl
  go_enter Tryd.func17, Tryd.ntmps17
  go_wp2_with fail
  have hnot : bits .xor .u32 IntKind.u32.max n = 4294967295 - n := u32_not n h0 h1
  rw [hnot]
  have hr1 : 0 ≤ n * 2654435761 % 4294967296 := by omega
  have hr2 : n * 2654435761 % 4294967296 ≤ 4294967295 := by omega
  clear hnot
  obtain ⟨m, hm⟩ : ∃ m, n * 2654435761 % 4294967296 = m := ⟨_, rfl⟩
  rw [hm] at hr1 hr2
  rw [hm]
  have HM := Lib.hid hm
  clear hm
  go_loopw [3, 14] (fun v i W => ∃ (k : Nat) (u : Value), k ≤ 3 ∧ i = .int .i64 k ∧ v = u ∧ W.ownsRow w.heap.size 5 1 u (bof n m k).length (bcells (bof n m k)) ∧
      Has W (w.heap.size + 1) 28 #[.int .u32 n, .int .u32 (4294967295 - n), .int .u32 m] ∧ Only (fun _ => False) w W) (fun _ i _ => 3 - (intOf i).toNat)
  case atStart =>
    refine ⟨0, _, by omega, rfl, rfl, (own_made0 w w.heap.size (Nat.le_refl _) _ _ rfl).alloc _, ?_, ((Only.refl _ _).alloc _).alloc _⟩
    have := Has.new (w.alloc (.cells #[.int .u8 0, .int .u8 0, .int .u8 0, .int .u8 0, .int .u8 0, .int .u8 0, .int .u8 0, .int .u8 0, .int .u8 0, .int .u8 0, .int .u8 0, .int .u8 0] 5)) 28 #[.int .u32 n, .int .u32 (4294967295 - n), .int .u32 m]
    simpa using this
  case round =>
    obtain ⟨k, v, hk, rfl, rfl, hW, hsl, ho⟩ := hrel
    have hkk : k = 0 ∨ k = 1 ∨ k = 2 ∨ k = 3 := by omega
    rcases hkk with rfl | rfl | rfl | rfl
    · have e0 : wr.cell? ⟨w.heap.size + 1, 0, none⟩ = some (.int .u32 n) := hsl.cell 0
      have hlow := hsl.lt
      go_wp2_with (at_builtin; go_must (refine wpList_append_own_at _ rfl _ _ 60 rfl w.heap.size 5 i0 (.int .u8 0) 1 1 Tryd.underlying60 hi hz0 hz1 hz2 rfl (by decide) _ (bof n m 0).length (bcells (bof n m 0)) ?hs0 (hW.alloc _) ⟨wr.heap.size, 0, none⟩ 4 4 (bcells (b4 n)) ?hx0 rfl ?hn0 ?h10 ?c30 ?c40 ?c50 ?_); (case hs0 => rfl); (case hx0 => rfl); (case hn0 => (intro j u hu; exact four_new _ _ _ _ _ _ j u hu)); (case h10 => exact bcells_one _); (case c30 => simp [bof, b4, maxLen]); (case c40 => simp [bof, b4]); (case c50 => simp; omega); intro v1 w1 ho1 hg1 _ hat1)
      go_roundw
      case rel =>
        refine ⟨1, v1, by omega, rfl, rfl, ?_, (hsl.alloc _).grown hg1 (Ne.symm (own_apart hW hsl (by decide))), ?_⟩
        · simpa [bof, bcells, b4] using ho1
        · exact (ho.alloc _).grown hg1 (fun g e hg => by
            rcases hW.2 with ⟨rfl, _⟩ | ⟨g', cap, cur, rfl, hb, _⟩
            · cases e
            · cases e; simp only at hg; omega)
      case measure => simp [intOf]
    · have e0 : wr.cell? ⟨w.heap.size + 1, 1, none⟩ = some (.int .u32 (4294967295 - n)) := hsl.cell 1
      have hlow := hsl.lt
      go_wp2_with (at_builtin; go_must (refine wpList_append_own_at _ rfl _ _ 60 rfl w.heap.size 5 i0 (.int .u8 0) 1 1 Tryd.underlying60 hi hz0 hz1 hz2 rfl (by decide) _ (b4 n).length (bcells (b4 n)) ?hs1 (hW.alloc _) ⟨wr.heap.size, 0, none⟩ 4 4 (bcells (b4 (4294967295 - n))) ?hx1 rfl ?hn1 ?h11 ?c31 ?c41 ?c51 ?_); (case hs1 => rfl); (case hx1 => rfl); (case hn1 => (intro j u hu; exact four_new _ _ _ _ _ _ j u hu)); (case h11 => exact bcells_one _); (case c31 => simp [bof, b4, maxLen]); (case c41 => simp [bof, b4]); (case c51 => simp; omega); intro v1 w1 ho1 hg1 _ hat1)
      go_roundw
      case rel =>
        refine ⟨2, v1, by omega, rfl, rfl, ?_, (hsl.alloc _).grown hg1 (Ne.symm (own_apart hW hsl (by decide))), ?_⟩
        · simpa [bof, bcells, b4] using ho1
        · exact (ho.alloc _).grown hg1 (fun g e hg => by
            rcases hW.2 with ⟨rfl, _⟩ | ⟨g', cap, cur, rfl, hb, _⟩
            · cases e
            · cases e; simp only at hg; omega)
      case measure => simp [intOf]
    · have e0 : wr.cell? ⟨w.heap.size + 1, 2, none⟩ = some (.int .u32 m) := hsl.cell 2
      have hlow := hsl.lt
      go_wp2_with (at_builtin; go_must (refine wpList_append_own_at _ rfl _ _ 60 rfl w.heap.size 5 i0 (.int .u8 0) 1 1 Tryd.underlying60 hi hz0 hz1 hz2 rfl (by decide) _ (b4 n ++ b4 (4294967295 - n)).length (bcells (b4 n ++ b4 (4294967295 - n))) ?hs2 (hW.alloc _) ⟨wr.heap.size, 0, none⟩ 4 4 (bcells (b4 m)) ?hx2 rfl ?hn2 ?h12 ?c32 ?c42 ?c52 ?_); (case hs2 => rfl); (case hx2 => rfl); (case hn2 => (intro j u hu; exact four_new _ _ _ _ _ _ j u hu)); (case h12 => exact bcells_one _); (case c32 => simp [bof, b4, maxLen]); (case c42 => simp [bof, b4]); (case c52 => simp; omega); intro v1 w1 ho1 hg1 _ hat1)
      go_roundw
      case rel =>
        refine ⟨3, v1, by omega, rfl, rfl, ?_, (hsl.alloc _).grown hg1 (Ne.symm (own_apart hW hsl (by decide))), ?_⟩
        · simpa [bof, bcells, b4] using ho1
        · exact (ho.alloc _).grown hg1 (fun g e hg => by
            rcases hW.2 with ⟨rfl, _⟩ | ⟨g', cap, cur, rfl, hb, _⟩
            · cases e
            · cases e; simp only at hg; omega)
      case measure => simp [intOf]
    · have hk := own_str (P := Tryd.prog) (src := 60) (dst := 9) Tryd.underlying60 Tryd.underlying5 Tryd.underlying9 hW
      go_wp2
      go_ret
      refine ⟨?_, ho⟩
      rw [recS, rec3, HM.out]
      rfl
end Go.Proofs.YtebamcmcmojneaaDoor
