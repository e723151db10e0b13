/- wire.Writer: what it holds, and what its methods append. -/
import Derived.Test.YtbajgbjpaliecaaProg
import Derived.Test.YtbajgbjpaliecaaMem
import Derived.Test.YtbajgbjpaliecaaApp
import Derived.Maps.AppendAt
import Derived.OwnWalk
import Derived.WalkKit
import Derived.WalkSpells
import Derived.Outline
import Derived.Lib.Hide
import Derived.LoopTactic
import Derived.Laws.BytesArg
set_option linter.unusedSimpArgs false
set_option linter.unusedVariables false
namespace Go.Proofs.Ytbajgbjpaliecaa
open Go.RowKit Go.Lib

/-- Bytes as cells. -/
def bcells (l : List Int) : List Value := l.map fun x => .int .u8 x
theorem bcells_length (l : List Int) : (bcells l).length = l.length := by simp [bcells]
theorem bcells_append (l m : List Int) : bcells (l ++ m) = bcells l ++ bcells m := by simp [bcells]
/-- A string's bytes as numbers. -/
def ofStr (s : ByteArray) : List Int := s.data.toList.map fun b => (b.toNat : Int)
theorem ofStr_length (s : ByteArray) : (ofStr s).length = s.size := by rw [ofStr, List.length_map, Array.length_toList]; rfl
theorem strCells_eq (s : ByteArray) : strCells s = bcells (ofStr s) := by simp [strCells, bcells, ofStr]

/-- A number in so many bytes, the highest first. -/
def beB (x : Int) : Nat → List Int
  | 0 => []
  | n + 1 => (x / 2 ^ (8 * n) % 256) :: beB x n
theorem beB_length (x : Int) (n : Nat) : (beB x n).length = n := by induction n with
  | zero => rfl
  | succ n ih => simp [beB, ih]

/-- Block p is a Writer whose slice is v; it holds the bytes bs, in a row of its own from base on. -/
structure WAt (w : World) (p base : Nat) (v : Value) (bs : List Int) : Prop where
  has : Has w p 68 #[v]
  own : w.ownsRow base 5 1 v bs.length (bcells bs)
  low : base ≤ w.heap.size

/-- What a step of a Writer at p, whose row was r, turns. -/
structure WStep (p : Nat) (r : Option Nat) (w w' : World) (r' : Option Nat) : Prop where
  only : Only (fun k => k = p ∨ some k = r) w w'
  row : r' = r ∨ ∃ b, r' = some b ∧ w.heap.size ≤ b
theorem WStep.refl (p : Nat) (r : Option Nat) (w : World) : WStep p r w w r := ⟨Only.refl _ _, .inl rfl⟩
theorem WStep.trans {p : Nat} {r r1 r2 : Option Nat} {a b c : World} (h : WStep p r a b r1) (k : WStep p r1 b c r2) : WStep p r a c r2 := by
  refine ⟨h.only.then_ k.only ?_, ?_⟩
  · rintro i hi (e | e)
    · exact .inl e
    · rcases h.row with e1 | ⟨x, e1, hx⟩
      · exact .inr (e.trans e1)
      · rw [e1] at e
        have := Option.some.inj e
        omega
  · rcases k.row with e | ⟨x, e, hx⟩
    · rw [e]; exact h.row
    · exact .inr ⟨x, e, Nat.le_trans h.only.size hx⟩
theorem WAt.alloc {w : World} {p base : Nat} {v : Value} {bs : List Int} (h : WAt w p base v bs) (o : Obj) : WAt (w.alloc o) p base v bs := ⟨h.has.alloc _, h.own.alloc _, by have := h.low; simp; omega⟩
theorem WAt.drewN {w : World} {p base : Nat} {v : Value} {bs : List Int} (h : WAt w p base v bs) (n : Nat) : WAt (w.drewN n) p base v bs := ⟨h.has.drewN n, h.own, h.low⟩
theorem WAt.only {w w' : World} {p base : Nat} {v : Value} {bs : List Int} {S : Nat → Prop} (h : WAt w p base v bs) (o : Only S w w') (hp : ¬ S p) (hv : ∀ k, v.ownBlock = some k → ¬ S k) : WAt w' p base v bs :=
  ⟨o.has h.has hp, o.own h.own hv, Nat.le_trans h.low o.size⟩
/-- A block of another kind lives through a step. -/
theorem WAt.keeps {w w' : World} {p base g : Nat} {v : Value} {bs : List Int} {r' : Option Nat} {t : TypeId} {cs : Array Value} (h : WAt w p base v bs) (s : WStep p v.ownBlock w w' r') (hg : Has w g t cs) (h1 : t ≠ 68) (h2 : 5 ≠ t) : Has w' g t cs := by
  refine s.only.has hg ?_
  rintro (e | e)
  · exact h.has.apart hg (Ne.symm h1) e.symm
  · exact own_apart h.own hg h2 e.symm
theorem WAt.row_base {w : World} {p base : Nat} {v : Value} {bs : List Int} (h : WAt w p base v bs) {k : Nat} (e : v.ownBlock = some k) : base ≤ k := by
  rcases h.own.2 with ⟨rfl, _⟩ | ⟨g, cap, cur, rfl, hb, _⟩
  · cases e
  · cases e; exact hb
/-- From the outside a Writer of one's own turns nothing. -/
theorem WStep.inner {w0 w w' : World} {p base : Nat} {v : Value} {bs : List Int} {r' : Option Nat} (h : WAt w p base v bs) (s : WStep p v.ownBlock w w' r') (ho : Only (fun _ => False) w0 w) (hp : w0.heap.size ≤ p) (hb : w0.heap.size ≤ base) : Only (fun _ => False) w0 w' := by
  refine ho.then_ s.only ?_
  rintro i hi (e | e)
  · omega
  · have := h.row_base e.symm
    omega

theorem own_shape {w : World} {base : Nat} {e : TypeId} {size n : Nat} {v : Value} {xs : List Value} (h : w.ownsRow base e size v n xs) : ∃ A c, v = .slice A n c := by
  rcases h.2 with ⟨rfl, rfl⟩ | ⟨g, cap, cur, rfl, _⟩
  · exact ⟨_, _, rfl⟩
  · exact ⟨_, _, rfl⟩

theorem Try.info_u8 : (Try.prog.info? 5).map (fun i => (i.zero, i.size, i.bytes)) = some (some (.int .u8 0), 1, 1) := by kernel_rfl

set_option maxHeartbeats 400000 in
theorem fixed_any (w : World) (p base : Nat) (v : Value) (bs : List Int) (x : Int) (size : Nat) (h : WAt w p base v bs) (hx : 0 ≤ x) (hx' : x ≤ 18446744073709551615) (hs : size ≤ 8) (hl : bs.length ≤ 100000000000) :
    Calls Try.prog 43 #[.pointer (some ⟨p, 0, none⟩), .int .u64 x, .int .i64 size] w fun e w' => e = .returned (.tuple #[]) ∧ ∃ v', WAt w' p base v' (bs ++ beB x size) ∧ WStep p v.ownBlock w w' v'.ownBlock := by
  obtain ⟨i0, hi, hz0, hz1, hz2⟩ := info_parts Try.info_u8
  go_enter Try.func43, Try.ntmps43
  go_wp2_with fail
  go_loopw [6] (fun i W => ∃ (m : Nat) (u : Value) (cs : List Int), m ≤ size ∧ i = .int .i64 ((m : Int) - 1) ∧ WAt W p base u cs ∧ cs ++ beB x m = bs ++ beB x size ∧ cs.length ≤ 100000000008 - m ∧ WStep p v.ownBlock w W u.ownBlock) (fun i _ => (intOf i + 1).toNat)
  case atStart => exact ⟨size, v, bs, Nat.le_refl _, rfl, h, rfl, by omega, WStep.refl _ _ _⟩
  case round =>
    obtain ⟨m, u, cs, hm, rfl, hW, hcs, hcl, hst⟩ := hrel
    have c0 : wr.cell? ⟨p, 0, none⟩ = some u := hW.has.cell 0
    have f0 := hW.has.free 0
    have HC := Lib.hid hcs
    clear hcs
    rcases m with _ | m
    · go_wp2_with fail
      go_end0
      refine ⟨rfl, u, ?_, hst⟩
      have := HC.out
      simp only [beB, List.append_nil] at this
      rw [← this]
      exact hW
    · have hp1 : u.ownBlock ≠ some p := own_apart hW.own hW.has (by decide)
      have hlow := hW.low
      go_wp2_with (at_builtin; go_must (refine wpList_append_own_at _ rfl _ _ 66 rfl base 5 i0 (.int .u8 0) 1 1 Try.underlying66 hi hz0 hz1 hz2 rfl (by decide) u cs.length (bcells cs) ?hs (hW.own.alloc _) ⟨wr.heap.size, 0, none⟩ 1 1 [_] ?hx rfl (cell_one_new _ _ _) ?c2 ?c3 ?c4 ?c5 ?_); (case hs => rfl); (case hx => rfl); (case c2 => intro y hy; obtain rfl := List.mem_singleton.1 hy; rfl); (case c3 => unfold maxLen; omega); (case c4 => omega); (case c5 => simp; omega); intro v1 w1 ho1 hg1 _ hat1; obtain ⟨A1, d1, hv1⟩ := own_shape ho1; subst hv1; have hP := (hW.has.alloc _).grown hg1 (Ne.symm hp1); have c1 : w1.cell? ⟨p, 0, none⟩ = some u := hP.cell 0; have f1 := hP.free 0)
      go_roundw
      case rel =>
        have hP2 := hP.put 0 (.slice A1 (cs.length + 1) d1) rfl
        have hv1 : (Value.slice A1 (cs.length + 1) d1).ownBlock ≠ some p := by
          rcases hat1 with e | e
          · rw [e]; exact hp1
          · rw [e]
            have := hW.has.lt
            intro q
            have := Option.some.inj q
            simp at this
            omega
        refine ⟨m, .slice A1 (cs.length + 1) d1, cs ++ [x / 2 ^ (8 * m) % 256], by omega, by go_num, ⟨hP2, ?_, ?_⟩, ?_, ?_, ?_⟩
        · have ho2 := ownsRow_setCell_other ho1 (a := ⟨p, 0, none⟩) hv1 (.slice A1 (cs.length + 1) d1)
          rw [bcells_append]
          simpa [bcells] using ho2
        · have := hg1.size
          simp [World.setCell] at this ⊢
          omega
        · rw [List.append_assoc]
          exact HC.out
        · simp; omega
        · refine hst.trans ⟨?_, ?_⟩
          · refine Only.setCell (Only.grown ((Only.refl _ _).alloc _) hg1 (fun k e _ => .inr e.symm)) _ _ (fun _ => .inl rfl)
          · rcases hat1 with e | e
            · exact .inl e
            · exact .inr ⟨_, e, by simp⟩
      case measure => simp [intOf]

theorem u8_any (w : World) (p base : Nat) (v : Value) (bs : List Int) (x : Int) (h : WAt w p base v bs) (hx : 0 ≤ x) (hx' : x ≤ 255) (hl : bs.length ≤ 100000000000) :
    Calls Try.prog 29 #[.pointer (some ⟨p, 0, none⟩), .int .u8 x] w fun e w' => e = .returned (.tuple #[]) ∧ ∃ v', WAt w' p base v' (bs ++ [x]) ∧ WStep p v.ownBlock w w' v'.ownBlock := by
  have hb : beB x 1 = [x] := by
    simp [beB]
    omega
  have HB := Lib.hid hb
  clear hb
  go_enter Try.func29, Try.ntmps29
  go_wp2_with fail
  refine (fixed_any w p base v bs x 1 h hx (by omega) (by omega) hl).mono ?_
  rintro e w' ⟨rfl, v', hW, hS⟩
  go_wp2_with fail
  go_end0
  rw [HB.out] at hW
  exact ⟨rfl, v', hW, hS⟩

theorem u32_any (w : World) (p base : Nat) (v : Value) (bs : List Int) (x : Int) (h : WAt w p base v bs) (hx : 0 ≤ x) (hx' : x ≤ 4294967295) (hl : bs.length ≤ 100000000000) :
    Calls Try.prog 44 #[.pointer (some ⟨p, 0, none⟩), .int .u32 x] w fun e w' => e = .returned (.tuple #[]) ∧ ∃ v', WAt w' p base v' (bs ++ beB x 4) ∧ WStep p v.ownBlock w w' v'.ownBlock := by
  go_enter Try.func44, Try.ntmps44
  go_wp2_with fail
  refine (fixed_any w p base v bs x 4 h hx (by omega) (by omega) hl).mono ?_
  rintro e w' ⟨rfl, v', hW, hS⟩
  go_wp2_with fail
  go_end0
  exact ⟨rfl, v', hW, hS⟩

theorem u64_any (w : World) (p base : Nat) (v : Value) (bs : List Int) (x : Int) (h : WAt w p base v bs) (hx : 0 ≤ x) (hx' : x ≤ 18446744073709551615) (hl : bs.length ≤ 100000000000) :
    Calls Try.prog 46 #[.pointer (some ⟨p, 0, none⟩), .int .u64 x] w fun e w' => e = .returned (.tuple #[]) ∧ ∃ v', WAt w' p base v' (bs ++ beB x 8) ∧ WStep p v.ownBlock w w' v'.ownBlock := by
  go_enter Try.func46, Try.ntmps46
  go_wp2_with fail
  refine (fixed_any w p base v bs x 8 h hx hx' (by omega) hl).mono ?_
  rintro e w' ⟨rfl, v', hW, hS⟩
  go_wp2_with fail
  go_end0
  exact ⟨rfl, v', hW, hS⟩

theorem raw_any (w : World) (p base : Nat) (v : Value) (bs : List Int) (s : ByteArray) (h : WAt w p base v bs) (hs : s.size ≤ 1000000000) (hl : bs.length ≤ 100000000000) :
    Calls Try.prog 47 #[.pointer (some ⟨p, 0, none⟩), .string s] w fun e w' => e = .returned (.tuple #[]) ∧ ∃ v', WAt w' p base v' (bs ++ ofStr s) ∧ WStep p v.ownBlock w w' v'.ownBlock := by
  obtain ⟨i0, hi, hz0, hz1, hz2⟩ := info_parts Try.info_u8
  have c0 : w.cell? ⟨p, 0, none⟩ = some v := h.has.cell 0
  have f0 := h.has.free 0
  have hp1 : v.ownBlock ≠ some p := own_apart h.own h.has (by decide)
  have hlow := h.low
  go_enter Try.func47, Try.ntmps47
  go_wp2_with (at_builtin; go_must (refine wpList_append_string_at _ rfl _ _ 66 9 rfl base 5 i0 Try.underlying66 Try.underlying9 hi hz0 hz1 hz2 v bs.length (bcells bs) ?hs h.own s ?hx ?c3 ?c4 hlow ?_); (case hs => rfl); (case hx => rfl); (case c3 => unfold maxLen; omega); (case c4 => omega); intro v1 w1 ho1 hg1 hat1; obtain ⟨A1, d1, hv1⟩ := own_shape ho1; subst hv1; have hP := h.has.grown hg1 (Ne.symm hp1); have c1 : w1.cell? ⟨p, 0, none⟩ = some v := hP.cell 0; have f1 := hP.free 0)
  go_end0
  have hP2 := hP.put 0 (.slice A1 (bs.length + s.size) d1) rfl
  have hv1 : (Value.slice A1 (bs.length + s.size) d1).ownBlock ≠ some p := by
    rcases hat1 with e | e
    · rw [e]; exact hp1
    · rw [e]
      have := h.has.lt
      intro q
      have := Option.some.inj q
      omega
  refine ⟨rfl, .slice A1 (bs.length + s.size) d1, ⟨hP2, ?_, ?_⟩, ?_, ?_⟩
  · have ho2 := ownsRow_setCell_other ho1 (a := ⟨p, 0, none⟩) hv1 (.slice A1 (bs.length + s.size) d1)
    rw [bcells_append, List.length_append, ofStr_length, ← strCells_eq]
    exact ho2
  · have := hg1.size
    simp [World.setCell]
    omega
  · exact Only.setCell (Only.grown (Only.refl _ _) hg1 (fun k e _ => .inr e.symm)) _ _ (fun _ => .inl rfl)
  · rcases hat1 with e | e
    · exact .inl e
    · exact .inr ⟨_, e, Nat.le_refl _⟩

/-- A row of bytes as a string. -/
theorem own_str {P : Program} {w : World} {base n : Nat} {e' src dst e : TypeId} {v : Value} {bs : List Int} (hs : P.underlying src = some (.slice e)) (he : P.underlying e = some (.int .u8)) (hd : P.underlying dst = some .string)
    (h : w.ownsRow base e' 1 v n (bcells bs)) : (convert src dst v).run P w = .ok (.string (strOfNums bs)) w := by
  have hl : bs.length = n := by simpa [bcells] using h.1
  rcases h.2 with ⟨rfl, rfl⟩ | ⟨g, cap, cur, rfl, _⟩
  · obtain rfl : bs = [] := List.eq_nil_of_length_eq_zero hl
    exact run_convert_bytes_nil w src e hs he 0 0 dst hd
  · refine run_convert_bytes_arg w src e hs he g 0 n cap bs hl (fun i hi => ?_) dst hd
    have hc := h.cells (g := g) rfl i (.int .u8 (bs.getD i 0)) (by simp [bcells, List.getElem?_eq_getElem (show i < bs.length by omega), List.getD_eq_getElem?_getD])
    have ha : (⟨g, 0, none⟩ : Addr).add i = ⟨g, 0 + i, none⟩ := by unfold Addr.add; split <;> simp_all
    rwa [ha] at hc

theorem bytes_any (w : World) (p base : Nat) (v : Value) (bs : List Int) (h : WAt w p base v bs) :
    Calls Try.prog 31 #[.pointer (some ⟨p, 0, none⟩)] w fun e w' => e = .returned (.string (strOfNums bs)) ∧ w = w' := by
  have c0 : w.cell? ⟨p, 0, none⟩ = some v := h.has.cell 0
  have hk := own_str (P := Try.prog) (src := 66) (dst := 9) Try.underlying66 Try.underlying5 Try.underlying9 h.own
  clear h
  go_enter Try.func31, Try.ntmps31
  go_wp2
  go_ret
  exact ⟨rfl, rfl⟩
end Go.Proofs.Ytbajgbjpaliecaa
