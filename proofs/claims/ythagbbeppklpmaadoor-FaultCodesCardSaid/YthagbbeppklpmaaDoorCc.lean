/- fault.collect, Codes, Code: at an error that came by any places. -/
import Derived.Test.YthagbbeppklpmaaDoorFc
import Derived.Test.YthagbbeppklpmaaDoorErr
set_option linter.unusedSimpArgs false
set_option linter.unusedVariables false
namespace Go.Proofs.YthagbbeppklpmaaDoor
open Go.RowKit

set_option maxRecDepth 100000 in
set_option maxHeartbeats 4000000 in
theorem collect_chain : ∀ (l : List ByteArray) (w : World) (b p : Nat) (c : Int), ErrAt w (some b) l c → Has w p 44 #[.slice none 0 0] → Et w →
    Calls Tryd.prog 33 #[.iface 59 (.pointer (some ⟨b, 0, none⟩)), .pointer (some ⟨p, 0, none⟩)] w fun e w' =>
      e = .returned (.tuple #[]) ∧ ∃ g n, Has w' p 44 #[.slice (some ⟨g, 0, none⟩) 1 n] ∧ w'.cell? ⟨g, 0, none⟩ = some (.int .i64 c) ∧ Only (· = p) w w'
  | [], w, b, p, c, he, _, _ => False.elim he
  | [s], w, b, p, c, he, hp, hE => by
    obtain ⟨b', e, hb⟩ := he
    obtain rfl := Option.some.inj e
    exact collect_new w b p c s hb hp hE
  | s :: r :: l, w, b, p, c, he, hp, hE => by
    obtain ⟨b', b2, e, hb, h2⟩ := he
    obtain rfl := Option.some.inj e
    have IH := Lib.hid (fun W x y z => collect_chain (r :: l) W b2 p c x y z)
    have hta := no_list
    have h0 := hE.lt
    have hbl := hb.lt
    have hpl := hp.lt
    have HAS := Lib.hid (as_any b w.heap.size (.pointer none))
    have t0 : Has (w.alloc (.cells #[.pointer none] 59)) w.heap.size 59 #[.pointer none] := Has.new _ _ _
    have t1 : Has ((w.alloc (.cells #[.pointer none] 59)).alloc (.cells #[.int .i64 0] 46)) w.heap.size 59 #[.pointer none] := t0.alloc _
    have oE : Only (fun _ => False) w ((w.alloc (.cells #[.pointer none] 59)).alloc (.cells #[.int .i64 0] 46)) := ((Only.refl _ _).alloc _).alloc _
    have H2 := Lib.hid h2
    clear h2
    go_enter Tryd.func33, Tryd.ntmps33
    go_wp2_with fail
    refine (HAS.out _ (hE.only oE (fun f => f)) t1).mono ?_
    rintro e w2 ⟨rfl, a2, o2⟩
    have hb2 := o2.has (oE.has hb (fun f => f)) (by show ¬ b = _; omega)
    have hp2 := o2.has (oE.has hp (fun f => f)) (by show ¬ p = _; omega)
    have e0 : w2.cell? ⟨b, 0, none⟩ = some (.int .i64 0) := hb2.cell 0
    have e2 : w2.cell? ⟨b, 2, none⟩ = some (ev (some b2)) := hb2.cell 2
    simp only [ev] at e2
    have f0 : w2.cell? ⟨w.heap.size, 0, none⟩ = some (.pointer (some ⟨b, 0, none⟩)) := a2.cell 0
    have o3 := ((Only.refl (fun j => j = p) w).then_ oE (fun _ _ f => f.elim)).then_ o2 (fun i hi e => absurd hi (by show ¬ i < _; have : i = w.heap.size := e; omega))
    have hn2 : ∀ k cs, Has w k 63 cs → ¬ k = p := fun k cs hk e => by subst e; exact (hk.apart hp (by decide)) rfl
    have HE2 := Lib.hid (H2.out.only o3 hn2)
    have hE2 := hE.only o3 (by intro e; have e : 0 = p := e; subst e; have q : w.cell? ⟨0, 0, none⟩ = some (.slice none 0 0) := hp.cell 0; rw [show w.cell? ⟨0, 0, none⟩ = _ from hE] at q; cases q)
    go_wp2_with fail
    refine (IH.out _ HE2.out hp2 hE2).mono ?_
    rintro e w3 ⟨rfl, g, n, h1, h2, h3⟩
    go_wp2_with fail
    go_end0
    exact ⟨rfl, g, n, h1, h2, o3.trans h3⟩

theorem codes_chain (w : World) (b : Nat) (l : List ByteArray) (c : Int) (hb : ErrAt w (some b) l c) (hE : Et w) :
    Calls Tryd.prog 20 #[.iface 59 (.pointer (some ⟨b, 0, none⟩))] w fun e w' => (∃ g n, e = .returned (.slice (some ⟨g, 0, none⟩) 1 n) ∧ w'.cell? ⟨g, 0, none⟩ = some (.int .i64 c)) ∧ Only (fun _ => False) w w' := by
  have hn : Has (w.alloc (.cells #[.slice none 0 0] 44)) w.heap.size 44 #[.slice none 0 0] := Has.new _ _ _
  have o0 : Only (fun _ => False) w (w.alloc (.cells #[.slice none 0 0] 44)) := (Only.refl _ _).alloc _
  have HC := Lib.hid (collect_chain l (w.alloc (.cells #[.slice none 0 0] 44)) b w.heap.size c (hb.only o0 (fun _ _ _ f => f)) hn (hE.only o0 (fun f => f)))
  clear hb
  go_enter Tryd.func20, Tryd.ntmps20
  go_wp2_with fail
  refine (HC.out).mono ?_
  rintro e w2 ⟨rfl, g, n, h1, h2, o2⟩
  have c0 : w2.cell? ⟨w.heap.size, 0, none⟩ = some (.slice (some ⟨g, 0, none⟩) 1 n) := h1.cell 0
  go_wp2_with fail
  go_ret
  exact ⟨⟨g, n, rfl, h2⟩, o0.then_ o2 (fun i hi e => absurd hi (by have : i = w.heap.size := e; omega))⟩
theorem code_chain (w : World) (b : Nat) (l : List ByteArray) (c : Int) (hb : ErrAt w (some b) l c) (hE : Et w) :
    Calls Tryd.prog 21 #[.iface 59 (.pointer (some ⟨b, 0, none⟩))] w fun e w' => e = .returned (.int .i64 c) ∧ Only (fun _ => False) w w' := by
  have HC := Lib.hid (codes_chain w b l c hb hE)
  clear hb
  go_enter Tryd.func21, Tryd.ntmps21
  go_wp2_with fail
  refine (HC.out).mono ?_
  rintro e w2 ⟨⟨g, n, rfl, c0⟩, o2⟩
  go_wp2_with fail
  refine wp_loop_rounds 1 ?_
  rw [rounds_succ]
  go_wp2_with fail
  go_ret
  exact ⟨rfl, o2⟩
end Go.Proofs.YthagbbeppklpmaaDoor
