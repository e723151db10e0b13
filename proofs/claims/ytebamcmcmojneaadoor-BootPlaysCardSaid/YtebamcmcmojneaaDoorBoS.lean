/- boot.Store: New, Count, Start, Tear. -/
import Derived.Test.YtebamcmcmojneaaDoorBoD
import Derived.Test.YtebamcmcmojneaaDoorFault
import Derived.Deep.RegionHeld3
import Derived.RegionTactic
import Derived.Deep.RegionWith
import Derived.WalkLawsBesides
set_option linter.unusedSimpArgs false
set_option linter.unusedVariables false
namespace Go.Proofs.YtebamcmcmojneaaDoor
open Go.RowKit Go.Lib

structure Sto where
  a : ByteArray
  b : ByteArray
  last : Int
  old : ByteArray
  made : Bool
def Sto.cells (s : Sto) : Array Value := #[.string s.a, .string s.b, .int .i64 s.last, .string s.old, .bool s.made]
abbrev SAt (w : World) (p : Nat) (s : Sto) : Prop := Has w p 25 s.cells
theorem SAt.facts {w : World} {p : Nat} {s : Sto} (h : SAt w p s) : w.cell? ⟨p, 0, none⟩ = some (.string s.a) ∧ w.cell? ⟨p, 1, none⟩ = some (.string s.b) ∧ w.cell? ⟨p, 2, none⟩ = some (.int .i64 s.last) ∧ w.cell? ⟨p, 3, none⟩ = some (.string s.old) ∧ w.cell? ⟨p, 4, none⟩ = some (.bool s.made) ∧ (∀ i, w.frozen? ⟨p, i, none⟩ = false) := Has.facts5 h

def Sto.count (s : Sto) : Int := max (decV s.a) (decV s.b)
structure Sto.short (s : Sto) : Prop where
  a : s.a.size ≤ 140737488351232
  b : s.b.size ≤ 140737488351232
  old : s.old.size ≤ 140737488351232
  made : s.made = true
  last : s.last = 0 ∨ s.last = 1

theorem snew_any (w : World) : Calls Tryd.prog 19 #[] w fun e w' => e = .returned (.pointer (some ⟨w.heap.size, 0, none⟩)) ∧ SAt w' w.heap.size ⟨⟨#[]⟩, ⟨#[]⟩, 0, ⟨#[]⟩, true⟩ ∧ Only (fun _ => False) w w' := by
  go_enter Tryd.func19, Tryd.ntmps19
  go_wp2
  go_ret
  exact ⟨rfl, Has.new _ _ _, (Only.refl _ _).alloc _⟩

theorem sheld {w X W : World} {p : Nat} {s : Sto} (o : Only (fun _ => False) X W)
    (h : (X.cell? ⟨p, 0, none⟩ = some (.string s.a) ∧ X.cell? ⟨p, 1, none⟩ = some (.string s.b)) ∧ SAt X p s ∧ Only (fun _ => False) w X) :
    (W.cell? ⟨p, 0, none⟩ = some (.string s.a) ∧ W.cell? ⟨p, 1, none⟩ = some (.string s.b)) ∧ SAt W p s ∧ Only (fun _ => False) w W := by
  have hh := o.has h.2.1 (fun f => f)
  exact ⟨⟨hh.cell 0, hh.cell 1⟩, hh, h.2.2.trans o⟩
theorem sheld_new {w X : World} {p : Nat} {s : Sto} (h : SAt X p s) (o : Only (fun _ => False) w X) :
    (X.cell? ⟨p, 0, none⟩ = some (.string s.a) ∧ X.cell? ⟨p, 1, none⟩ = some (.string s.b)) ∧ SAt X p s ∧ Only (fun _ => False) w X := ⟨⟨h.cell 0, h.cell 1⟩, h, o⟩

set_option maxRecDepth 100000 in
set_option maxHeartbeats 1000000 in
theorem count_any (w : World) (p : Nat) (s : Sto) (hs : s.short) (h : SAt w p s) : Calls Tryd.prog 9 #[.pointer (some ⟨p, 0, none⟩)] w fun e w' => e = .returned (.int .u32 s.count) ∧ Only (fun _ => False) w w' := by
  obtain ⟨c0, c1, c2, c3, c4, cf⟩ := h.facts
  obtain ⟨ha, hb, _, hm, _⟩ := hs
  rw [hm] at c4
  have k1 := h.drew
  have k2 := (Only.refl (fun _ => False) w).drew
  have hda := Lib.hid (fun W => bdecode_any W s.a (by omega))
  have hdb := Lib.hid (fun W => bdecode_any W s.b (by omega))
  clear hm
  go_enter Tryd.func9, Tryd.ntmps9
  go_wp2_with fail
  go_region_held3 (fun W => (W.cell? ⟨p, 0, none⟩ = some (.string s.a) ∧ W.cell? ⟨p, 1, none⟩ = some (.string s.b)) ∧ SAt W p s ∧ Only (fun _ => False) w W) (first | exact sheld_new k1 k2 | exact sheld (by assumption) (sheld_new k1 k2) | exact sheld (by assumption) (sheld (by assumption) (sheld_new k1 k2))) (first | (go_at_call_of 16 (Value.string s.a); refine (hda.out _).mono ?_; rintro e w1 ⟨rfl, o1⟩) | (go_at_call_of 16 (Value.string s.b); refine (hdb.out _).mono ?_; rintro e w1 ⟨rfl, o1⟩))
  rename_i hS
  have O := hS.2.2
  clear hS
  have hmx : (if decV s.a < decV s.b then decV s.b else decV s.a) = s.count := by
    unfold Sto.count
    split <;> omega
  rw [hmx]
  clear hmx
  go_wp2_with fail
  go_ret
  exact ⟨rfl, O⟩

theorem decV_range (s : ByteArray) : 0 ≤ decV s ∧ decV s ≤ 4294967295 := by
  have := be4_range s
  unfold decV
  split
  · split <;> omega
  · omega
theorem Sto.count_range (s : Sto) : 0 ≤ s.count ∧ s.count ≤ 4294967295 := by
  have h1 := decV_range s.a
  have h2 := decV_range s.b
  unfold Sto.count
  omega

/-- The store behind a start. -/
def Sto.next (s : Sto) : Sto := if decV s.a = s.count ∧ 0 < s.count then { s with last := 1, old := s.b, b := recS (s.count + 1) } else { s with last := 0, old := s.a, a := recS (s.count + 1) }

set_option maxRecDepth 100000 in
set_option maxHeartbeats 2000000 in
theorem start_any (w : World) (p : Nat) (s : Sto) (hs : s.short) (h : SAt w p s) (hm : s.count < 1048575) : Calls Tryd.prog 6 #[.pointer (some ⟨p, 0, none⟩)] w fun e w' =>
    e = .returned (.tuple #[.int .u32 (s.count + 1), .nilIface]) ∧ SAt w' p s.next ∧ Only (· = p) w w' := by
  have hc := Lib.hid (fun W hW => count_any W p s hs hW)
  have hda := Lib.hid (fun W => bdecode_any W s.a (by have := hs.a; omega))
  obtain ⟨hr0, hr1⟩ := s.count_range
  have henc := Lib.hid (fun W => bencode_any W (s.count + 1) (by omega) (by omega))
  have hmade := hs.made
  obtain ⟨c0, c1, c2, c3, c4, cf⟩ := h.facts
  rw [hmade] at c4
  clear hmade
  by_cases hat : decV s.a = s.count ∧ 0 < s.count
  · have hn : s.next = { s with last := 1, old := s.b, b := recS (s.count + 1) } := by unfold Sto.next; rw [if_pos hat]
    rw [hn]
    clear hn
    have b1 : (decV s.a == s.count) = true := by simpa using hat.1
    have b2 := hat.2
    clear hat
    go_enter Tryd.func6, Tryd.ntmps6
    go_wp2_with fail
    refine (hc.out _ h).mono ?_
    rintro e w1 ⟨rfl, o1⟩
    have h1 := o1.has h (fun f => f)
    clear c0 c1 c2 c3 c4 cf
    obtain ⟨c0, c1, c2, c3, c4, cf⟩ := SAt.facts h1
    go_wp2_with fail
    refine (hda.out _).mono ?_
    rintro e w2 ⟨rfl, o2⟩
    have h2 := o2.has h1 (fun f => f)
    clear c0 c1 c2 c3 c4 cf
    obtain ⟨c0, c1, c2, c3, c4, cf⟩ := SAt.facts h2
    go_wp2_with fail
    have k1 : SAt ((w2.setCell ⟨p, 2, none⟩ (.int .i64 1)).setCell ⟨p, 3, none⟩ (.string s.b)).drew p { s with last := 1, old := s.b } := ((h2.put 2 (.int .i64 1) rfl).put 3 (.string s.b) rfl).drew
    have k2 : Only (· = p) w ((w2.setCell ⟨p, 2, none⟩ (.int .i64 1)).setCell ⟨p, 3, none⟩ (.string s.b)).drew := (((((Only.refl (fun k => k = p) w).then_ o1 (fun _ _ f => f.elim)).then_ o2 (fun _ _ f => f.elim)).setCell ⟨p, 2, none⟩ _ (fun _ => (rfl : p = p))).setCell ⟨p, 3, none⟩ _ (fun _ => (rfl : p = p))).drew
    clear c0 c1 c2 c3 c4 cf
    have e1 : IntKind.u32.wrap (s.count + 1) = s.count + 1 := by rw [IntKind.wrap_u32]; omega
    have e2 : (s.count + 1) % 4294967296 = s.count + 1 := by omega
    go_region_with (go_at_call 17; (with_reducible refine (henc.out _).mono ?_); rintro e w3 ⟨rfl, o3⟩; have k3 := o3.has k1 (fun f => f); have k4 := k2.then_ o3 (fun _ _ f => f.elim); have c1 : w3.cell? ⟨p, 1, none⟩ = some (.string s.b) := k3.cell 1; have cf := k3.free 1)
    go_wp2_with fail
    go_ret2
    exact ⟨rfl, k3.put 1 _ rfl, k4.setCell ⟨p, 1, none⟩ _ (fun _ => (rfl : p = p))⟩
  · have hn : s.next = { s with last := 0, old := s.a, a := recS (s.count + 1) } := by unfold Sto.next; rw [if_neg hat]
    rw [hn]
    clear hn
    have hcase : (decV s.a == s.count) = false ∨ (decV s.a == s.count) = true ∧ s.count ≤ 0 := by
      by_cases e : decV s.a = s.count
      · exact .inr ⟨by simpa using e, by omega⟩
      · exact .inl (by simpa using e)
    clear hat
    rcases hcase with b1 | ⟨b1, b2⟩
    · go_enter Tryd.func6, Tryd.ntmps6
      go_wp2_with fail
      refine (hc.out _ h).mono ?_
      rintro e w1 ⟨rfl, o1⟩
      have h1 := o1.has h (fun f => f)
      clear c0 c1 c2 c3 c4 cf
      obtain ⟨c0, c1, c2, c3, c4, cf⟩ := SAt.facts h1
      go_wp2_with fail
      refine (hda.out _).mono ?_
      rintro e w2 ⟨rfl, o2⟩
      have h2 := o2.has h1 (fun f => f)
      clear c0 c1 c2 c3 c4 cf
      obtain ⟨c0, c1, c2, c3, c4, cf⟩ := SAt.facts h2
      go_wp2_with fail
      have k1 : SAt ((w2.setCell ⟨p, 2, none⟩ (.int .i64 0)).setCell ⟨p, 3, none⟩ (.string s.a)).drew p { s with last := 0, old := s.a } := ((h2.put 2 (.int .i64 0) rfl).put 3 (.string s.a) rfl).drew
      have k2 : Only (· = p) w ((w2.setCell ⟨p, 2, none⟩ (.int .i64 0)).setCell ⟨p, 3, none⟩ (.string s.a)).drew := (((((Only.refl (fun k => k = p) w).then_ o1 (fun _ _ f => f.elim)).then_ o2 (fun _ _ f => f.elim)).setCell ⟨p, 2, none⟩ _ (fun _ => (rfl : p = p))).setCell ⟨p, 3, none⟩ _ (fun _ => (rfl : p = p))).drew
      clear c0 c1 c2 c3 c4 cf
      have e1 : IntKind.u32.wrap (s.count + 1) = s.count + 1 := by rw [IntKind.wrap_u32]; omega
      have e2 : (s.count + 1) % 4294967296 = s.count + 1 := by omega
      go_region_with (go_at_call 17; (with_reducible refine (henc.out _).mono ?_); rintro e w3 ⟨rfl, o3⟩; have k3 := o3.has k1 (fun f => f); have k4 := k2.then_ o3 (fun _ _ f => f.elim); have c1 : w3.cell? ⟨p, 0, none⟩ = some (.string s.a) := k3.cell 0; have cf := k3.free 0)
      go_wp2_with fail
      go_ret2
      exact ⟨rfl, k3.put 0 _ rfl, k4.setCell ⟨p, 0, none⟩ _ (fun _ => (rfl : p = p))⟩

    · go_enter Tryd.func6, Tryd.ntmps6
      go_wp2_with fail
      refine (hc.out _ h).mono ?_
      rintro e w1 ⟨rfl, o1⟩
      have h1 := o1.has h (fun f => f)
      clear c0 c1 c2 c3 c4 cf
      obtain ⟨c0, c1, c2, c3, c4, cf⟩ := SAt.facts h1
      go_wp2_with fail
      refine (hda.out _).mono ?_
      rintro e w2 ⟨rfl, o2⟩
      have h2 := o2.has h1 (fun f => f)
      clear c0 c1 c2 c3 c4 cf
      obtain ⟨c0, c1, c2, c3, c4, cf⟩ := SAt.facts h2
      go_wp2_with fail
      have k1 : SAt ((w2.setCell ⟨p, 2, none⟩ (.int .i64 0)).setCell ⟨p, 3, none⟩ (.string s.a)).drew p { s with last := 0, old := s.a } := ((h2.put 2 (.int .i64 0) rfl).put 3 (.string s.a) rfl).drew
      have k2 : Only (· = p) w ((w2.setCell ⟨p, 2, none⟩ (.int .i64 0)).setCell ⟨p, 3, none⟩ (.string s.a)).drew := (((((Only.refl (fun k => k = p) w).then_ o1 (fun _ _ f => f.elim)).then_ o2 (fun _ _ f => f.elim)).setCell ⟨p, 2, none⟩ _ (fun _ => (rfl : p = p))).setCell ⟨p, 3, none⟩ _ (fun _ => (rfl : p = p))).drew
      clear c0 c1 c2 c3 c4 cf
      have e1 : IntKind.u32.wrap (s.count + 1) = s.count + 1 := by rw [IntKind.wrap_u32]; omega
      have e2 : (s.count + 1) % 4294967296 = s.count + 1 := by omega
      go_region_with (go_at_call 17; (with_reducible refine (henc.out _).mono ?_); rintro e w3 ⟨rfl, o3⟩; have k3 := o3.has k1 (fun f => f); have k4 := k2.then_ o3 (fun _ _ f => f.elim); have c1 : w3.cell? ⟨p, 0, none⟩ = some (.string s.a) := k3.cell 0; have cf := k3.free 0)
      go_wp2_with fail
      go_ret2
      exact ⟨rfl, k3.put 0 _ rfl, k4.setCell ⟨p, 0, none⟩ _ (fun _ => (rfl : p = p))⟩

end Go.Proofs.YtebamcmcmojneaaDoor
