/- tape: Take. -/
import Derived.Test.YthkgjhjfgoglhaaDoorDb
import Derived.IntWalk
set_option linter.unusedSimpArgs false
set_option linter.unusedVariables false
namespace Go.Proofs.YthkgjhjfgoglhaaDoor
open Go.RowKit

theorem Only.put1x (w : World) (g i : Nat) (x : Value) : Only (· = g) w (w.setCell ⟨g, i, none⟩ x) := (Only.refl (· = g) w).setCell ⟨g, i, none⟩ _ (fun _ => rfl)
theorem tape_lit {w : World} {T : Nat} {A : Option Addr} {c at_ : Nat} {l : List Int} (h : TapeAt w T A c l at_) (h1 : 1 ≤ l.length) : ∃ g, A = some ⟨g, 0, none⟩ ∧ l.length ≤ c ∧ ∀ k x, (ucells l)[k]? = some x → w.cell? ⟨g, k, none⟩ = some x := by
  rcases h.2.2 with ⟨e, h0⟩ | ⟨g, cap, cur, e, hb, hh, hn, r⟩
  · omega
  · injection e with e1 e2 e3
    subst e1 e3
    exact ⟨g, rfl, hn, fun k x hx => by have := h.2.cells rfl k x hx; rw [show ({ block := ({ block := g, off := 0, spot := none } : Addr).block, off := 0, spot := none } : Addr) = ⟨g, 0, none⟩ from rfl, add_head] at this; exact this⟩
theorem take_u {l : List Int} {m k : Nat} {x : Value} (h : (ucells (l.take m))[k]? = some x) : (ucells l)[k]? = some x := by
  unfold ucells at *
  rw [List.map_take] at h
  rw [List.getElem?_take] at h
  split at h
  · exact h
  · cases h
set_option maxRecDepth 100000 in
set_option maxHeartbeats 1000000 in
theorem take_ok (w : World) (T m : Nat) (A : Option Addr) (c : Nat) (l : List Int) (h : TapeAt w T A c l 0) (hl : l.length ≤ 1000000) (hm : m ≤ l.length) (h1 : 1 ≤ m) : Calls Tryd.prog 30 #[.pointer (some ⟨T, 0, none⟩), .int .i64 m] w fun x w' => (∃ B c', x = .returned (.tuple #[.slice B m c', .nilIface]) ∧ w'.ownsRow w.heap.size 52 1 (.slice B m c') m (ucells (l.take m))) ∧ Has w' T 54 #[.slice A l.length c, .int .i64 m, .bool true] ∧ Only (· = T) w w' := by
  obtain ⟨g, rfl, hc, hk⟩ := tape_lit h (by omega)
  have HR := Lib.hid (ready_ok w T m _ c l h hl hm)
  have HT := Lib.hid h.1
  have HCL := Lib.hid (fun W (o : Only (fun _ => False) w W) c0 (h0 : m ≤ c0) => (show Calls Tryd.prog 16 #[.slice (some ⟨g, 0, none⟩) m c0] W fun x w' => (∃ A c, x = .returned (.slice A m c) ∧ w'.ownsRow W.heap.size 52 1 (.slice A m c) m (ucells (l.take m))) ∧ Only (fun _ => False) W w' by
    have hlen : (l.take m).length = m := by simp; omega
    have := uclone_any W (.slice (some ⟨g, 0, none⟩) m c0) (l.take m) (.inr ⟨⟨g, 0, none⟩, c0, by rw [hlen], by rw [hlen]; exact h0, fun k x hx => by rw [add_head]; exact o.cell (hk k x (take_u hx)) (fun f => f)⟩) (by rw [hlen]; omega)
    rw [hlen] at this
    exact this))
  have HTS := Lib.hid (Has.lt h.1)
  have i1 : (m : Int) ≤ (c : Int) := by omega
  have i2 : m ≤ c := by omega
  have i3 : m ≤ 1000000 := by omega
  clear h hk hm hl hc h1
  generalize l.length = n at *
  go_enter Tryd.func30, Tryd.ntmps30
  go_wp2_with fail
  refine (HR.out).mono ?_; rintro e w1 ⟨rfl, o1⟩
  have T1 := o1.has HT.out (fun f => f)
  obtain ⟨t0, t1, t2, tf⟩ := Has.facts3 T1
  have HO1 := Lib.hid o1.drew
  clear o1 HR
  go_wp2_with fail
  have b1 : IntKind.i64.wrap (m : Int) = (m : Int) := IntWalk.i64_in _ (by omega)
  have b2 : (0 : Int) ≤ (m : Int) := by omega
  go_still_tail 15, (by kernel_rfl)
  change wpList _ _ _ _ _ w1.drew
  go_wp2_with fail
  refine (HCL.out _ HO1.out _ (by omega)).mono ?_; rintro e w2 ⟨⟨B, c2, rfl, hown⟩, o2⟩
  have T2 := o2.has (T1.drew) (fun f => f)
  have O2 := HO1.out.trans o2
  have hsz := HO1.out.size
  have HOWN := Lib.hid (own_base hown hsz)
  clear hown o2 t0 t1 t2 tf T1 hsz
  obtain ⟨t0, t1, t2, tf⟩ := Has.facts3 T2
  go_wp2_with fail
  go_ret2
  have hne : ∀ k, (Value.slice B m c2).ownBlock = some k → ¬ k = T := fun k hk e => by have := own_ge2 HOWN.out hk; have := HTS.out; omega
  exact ⟨⟨B, c2, rfl, (Only.put1x w2 T 1 (.int .i64 m)).own HOWN.out hne⟩, T2.put 1 (.int .i64 m) rfl, (O2.mono (fun _ _ f => f.elim)).then_ (Only.put1x w2 T 1 (.int .i64 m)) (fun i hi e => e)⟩
theorem Er.only {w w' : World} {b : Nat} {c : Int} {T : Nat} {cs : Array Value} (h : Er w b c) (hT : Has w T 54 cs) (o : Only (· = T) w w') : Er w' b c := by
  obtain ⟨s, hs⟩ := h
  exact ⟨s, hs.only o (fun k cs' hk e => by have e : k = T := e; subst e; have := Option.some.inj (Eq.trans (Eq.symm hk) hT); injection this with _ ht _; exact absurd ht (by decide))⟩
set_option maxRecDepth 100000 in
set_option maxHeartbeats 1000000 in
theorem take_bad (w : World) (T m : Nat) (A : Option Addr) (c : Nat) (l : List Int) (h : TapeAt w T A c l 0) (hl : l.length ≤ 1000000) (hm : l.length < m) (hm2 : m ≤ 1000000) : Calls Tryd.prog 30 #[.pointer (some ⟨T, 0, none⟩), .int .i64 m] w fun x w' => (∃ b, x = .returned (.tuple #[.slice none 0 0, .iface 70 (.pointer (some ⟨b, 0, none⟩))]) ∧ Er w' b 10) ∧ Only (fun _ => False) w w' := by
  have HR := Lib.hid (ready_bad w T m A c l h hl hm hm2)
  clear h hm hl hm2
  go_enter Tryd.func30, Tryd.ntmps30
  go_wp2_with fail
  refine (HR.out).mono ?_; rintro e w1 ⟨⟨b, rfl, hb⟩, o1⟩
  have HB := Lib.hid hb
  have HO := Lib.hid o1
  clear hb o1 HR
  go_wp2_with fail
  refine (fwrap_any _ _ _ _).mono ?_; rintro e w2 ⟨rfl, rfl⟩
  go_wp2_with fail
  go_ret2
  exact ⟨⟨_, rfl, HB.out.wrap _⟩, HO.out.alloc _⟩
end Go.Proofs.YthkgjhjfgoglhaaDoor
