/- fault.collect, Codes, Code: at one error of the package. -/
import Derived.Test.YthagbbeppklpmaaDoorAs
import Derived.Test.YthagbbeppklpmaaDoorMem
import Derived.Test.YthagbbeppklpmaaDoorFault
import Derived.WalkSpells
import Derived.RegionTactic
import Derived.Deep.RegionHeld3
import Derived.Deep.RegionWith
import Derived.WalkLawsBesides
import Derived.Maps.AppendAt
import Derived.OwnWalk
import Derived.Outline
import Derived.Lib.Hide
import Derived.LoopTactic
set_option linter.unusedSimpArgs false
set_option linter.unusedVariables false
namespace Go.Proofs.YthagbbeppklpmaaDoor
open Go.RowKit

/-- The one variable of the program: the handle of the type error. -/
def Et (w : World) : Prop := w.cell? ⟨0, 0, none⟩ = some (.iface 95 (.agg #[.pointer (some ⟨1, 32, none⟩)]))
theorem Et.lt {w : World} (h : Et w) : 0 < w.heap.size := by
  rcases Nat.lt_or_ge 0 w.heap.size with hp | h0
  · exact hp
  · simp [Et, World.cell?, Array.getElem?_eq_none h0] at h
theorem Et.only {S : Nat → Prop} {w w' : World} (h : Et w) (o : Only S w w') (hS : ¬ S 0) : Et w' := o.cell h hS

theorem no_list (v : Value) (xT : TypeId) (W : World) : (Instr.typeAssert (.iface 59 v) xT 65 true).run Tryd.prog W = .ok (.tuple #[.nilIface, .bool false]) W := run_typeAssert_lacksB Tryd.underlying65 (by kernel_rfl) (by kernel_rfl) v xT W

/-- errors.As, told by what it leaves. -/
theorem as_any (b p : Nat) (old : Value) (w : World) (hE : Et w) (ht : Has w p 59 #[old]) :
    Calls Tryd.prog 29 #[.iface 59 (.pointer (some ⟨b, 0, none⟩)), .iface 61 (.pointer (some ⟨p, 0, none⟩))] w fun e w' => e = .returned (.bool true) ∧ Has w' p 59 #[.pointer (some ⟨b, 0, none⟩)] ∧ Only (· = p) w w' := by
  refine (as_hit ⟨b, 0, none⟩ ⟨p, 0, none⟩ old w hE (ht.cell 0) (ht.free 0)).mono ?_
  rintro e w' ⟨rfl, rfl⟩
  refine ⟨rfl, Has.put ((((ht.alloc _).alloc _).alloc _).alloc _) 0 _ rfl, ?_⟩
  exact (((((Only.refl (fun j => j = p) w).alloc _).alloc _).alloc _).alloc _).setCell ⟨p, 0, none⟩ _ (fun _ => (rfl : p = p))

theorem Tryd.info_errno : (Tryd.prog.info? 46).map (fun i => (i.zero, i.size, i.bytes)) = some (some (.int .i64 0), 1, 8) := by kernel_rfl
theorem own_shape {w : World} {base : Nat} {e : TypeId} {size n : Nat} {v : Value} {xs : List Value} (h : w.ownsRow base e size v n xs) : ∃ A c, v = .slice A n c := by

  rcases h.2 with ⟨rfl, rfl⟩ | ⟨g, cap, cur, rfl, _⟩
  · exact ⟨_, _, rfl⟩
  · exact ⟨_, _, rfl⟩

set_option maxRecDepth 100000 in
set_option maxHeartbeats 4000000 in
theorem collect_new (w : World) (b p : Nat) (c : Int) (s : ByteArray) (hb : Has w b 63 #[.int .i64 c, .string s, .nilIface]) (hp : Has w p 44 #[.slice none 0 0]) (hE : Et w) :
    Calls Tryd.prog 33 #[.iface 59 (.pointer (some ⟨b, 0, none⟩)), .pointer (some ⟨p, 0, none⟩)] w fun e w' =>
      e = .returned (.tuple #[]) ∧ ∃ g n, Has w' p 44 #[.slice (some ⟨g, 0, none⟩) 1 n] ∧ w'.cell? ⟨g, 0, none⟩ = some (.int .i64 c) ∧ Only (· = p) w w' := by
  have hta := no_list
  obtain ⟨i0, hi, hz0, hz1, hz2⟩ := info_parts Tryd.info_errno
  have h0 := hE.lt
  have hbl := hb.lt
  have hpl := hp.lt
  have HAS := Lib.hid (as_any b w.heap.size (.pointer none))
  have t0 : Has (w.alloc (.cells #[.pointer none] 59)) w.heap.size 59 #[.pointer none] := Has.new _ _ _
  have t1 : Has ((w.alloc (.cells #[.pointer none] 59)).alloc (.cells #[.int .i64 0] 46)) w.heap.size 59 #[.pointer none] := t0.alloc _
  have oE : Only (fun _ => False) w ((w.alloc (.cells #[.pointer none] 59)).alloc (.cells #[.int .i64 0] 46)) := ((Only.refl _ _).alloc _).alloc _
  go_enter Tryd.func33, Tryd.ntmps33
  go_wp2_with fail
  refine (HAS.out _ (hE.only oE (fun f => f)) t1).mono ?_
  rintro e w2 ⟨rfl, a2, o2⟩
  have hb2 := o2.has (oE.has hb (fun f => f)) (by show ¬ b = _; omega)
  have hp2 := o2.has (oE.has hp (fun f => f)) (by show ¬ p = _; omega)
  have e0 : w2.cell? ⟨b, 0, none⟩ = some (.int .i64 c) := hb2.cell 0
  have e2 : w2.cell? ⟨b, 2, none⟩ = some .nilIface := hb2.cell 2
  have f0 : w2.cell? ⟨w.heap.size, 0, none⟩ = some (.pointer (some ⟨b, 0, none⟩)) := a2.cell 0
  have g0 : w2.cell? ⟨p, 0, none⟩ = some (.slice none 0 0) := hp2.cell 0
  have gf := hp2.free 0
  have G1 : ∀ o1 o2, ((w2.alloc o1).alloc o2).cell? ⟨p, 0, none⟩ = some (.slice none 0 0) := fun o1 o2 => ((hp2.alloc o1).alloc o2).cell 0
  have G2 : ∀ o1 o2, ((w2.alloc o1).alloc o2).frozen? ⟨p, 0, none⟩ = false := fun o1 o2 => ((hp2.alloc o1).alloc o2).free 0
  go_wp2_with fail
  have G3 : ∀ o1, (w2.alloc o1).cell? ⟨p, 0, none⟩ = some (.slice none 0 0) := fun o1 => (hp2.alloc o1).cell 0
  have G4 : ∀ o1, (w2.alloc o1).frozen? ⟨p, 0, none⟩ = false := fun o1 => (hp2.alloc o1).free 0
  have hcap : ¬ (281474976710656 < Builtin.nextslicecap 1 0 * Tryd.t46.bytes) := by decide +kernel
  go_region_with fail
  go_wp2_with fail
  all_goals
    go_end0
    refine ⟨rfl, _, _, Has.drew (Has.drew (Has.put ((hp2.alloc _).alloc _) 0 _ rfl)), ?_, ?_⟩
    · have hn := Has.new (w2.alloc (.cells #[.int .i64 c] 46)) 46 (#[.int .i64 c] ++ Builtin.zeroCells #[.int .i64 0] ((Question.appendCap 1 0 46).cut (w2.tape (w2.drawn + 1) (Question.appendCap 1 0 46)) - 1))
      have hsz : (w2.alloc (.cells #[.int .i64 c] 46)).heap.size = w2.heap.size + 1 := by simp
      rw [hsz] at hn
      have hpl2 := hp2.lt
      have hf := hn.far (p := ⟨p, 0, none⟩) (show w2.heap.size + 1 ≠ p by omega) (.slice (some ⟨w2.heap.size + 1, 0, none⟩) 1 ((Question.appendCap 1 0 46).cut (w2.tape (w2.drawn + 1) (Question.appendCap 1 0 46))))
      have hc := hf.drew.drew.cell 0
      refine hc.trans ?_
      rw [Array.getElem?_append_left (show 0 < 1 by omega)]
      rfl
    · have o3 := ((Only.refl (fun j => j = p) w).then_ oE (fun _ _ f => f.elim)).then_ o2 (fun i hi e => absurd hi (by show ¬ i < _; have : i = w.heap.size := e; omega))
      exact (((o3.alloc _).alloc _).setCell ⟨p, 0, none⟩ _ (fun _ => (rfl : p = p))).drew.drew

/-- The number of a new error, and none's. -/
theorem codes_new (w : World) (b : Nat) (c : Int) (s : ByteArray) (hb : Has w b 63 #[.int .i64 c, .string s, .nilIface]) (hE : Et w) :
    Calls Tryd.prog 20 #[.iface 59 (.pointer (some ⟨b, 0, none⟩))] w fun e w' => (∃ g n, e = .returned (.slice (some ⟨g, 0, none⟩) 1 n) ∧ w'.cell? ⟨g, 0, none⟩ = some (.int .i64 c)) ∧ Only (fun _ => False) w w' := by
  have hn : Has (w.alloc (.cells #[.slice none 0 0] 44)) w.heap.size 44 #[.slice none 0 0] := Has.new _ _ _
  have HC := Lib.hid (collect_new (w.alloc (.cells #[.slice none 0 0] 44)) b w.heap.size c s (hb.alloc _) hn (hE.only ((Only.refl (fun _ => False) w).alloc _) (fun f => f)))
  go_enter Tryd.func20, Tryd.ntmps20
  go_wp2_with fail
  refine (HC.out).mono ?_
  rintro e w2 ⟨rfl, g, n, h1, h2, o2⟩
  have c0 : w2.cell? ⟨w.heap.size, 0, none⟩ = some (.slice (some ⟨g, 0, none⟩) 1 n) := h1.cell 0
  go_wp2_with fail
  go_ret
  exact ⟨⟨g, n, rfl, h2⟩, ((Only.refl (fun _ => False) w).alloc _).then_ o2 (fun i hi e => absurd hi (by have : i = w.heap.size := e; omega))⟩
theorem code_nil (w : World) : Calls Tryd.prog 21 #[.nilIface] w fun e w' => e = .returned (.int .i64 0) ∧ Only (fun _ => False) w w' := by
  go_enter Tryd.func21, Tryd.ntmps21
  go_wp2_with fail
  go_ret
  exact ⟨rfl, Only.refl _ _⟩
theorem code_new (w : World) (b : Nat) (c : Int) (s : ByteArray) (hb : Has w b 63 #[.int .i64 c, .string s, .nilIface]) (hE : Et w) :
    Calls Tryd.prog 21 #[.iface 59 (.pointer (some ⟨b, 0, none⟩))] w fun e w' => e = .returned (.int .i64 c) ∧ Only (fun _ => False) w w' := by
  have HC := Lib.hid (codes_new w b c s hb hE)
  go_enter Tryd.func21, Tryd.ntmps21
  go_wp2_with fail
  refine (HC.out).mono ?_
  rintro e w2 ⟨⟨g, n, rfl, c0⟩, o2⟩
  go_wp2_with fail
  refine wp_loop_rounds 1 ?_
  rw [rounds_succ]
  go_wp2_with fail
  go_ret
  exact ⟨rfl, o2⟩
end Go.Proofs.YthagbbeppklpmaaDoor
