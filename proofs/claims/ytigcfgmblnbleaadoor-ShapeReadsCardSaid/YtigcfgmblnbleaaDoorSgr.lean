/- The reference's Get: Failed, Take and Number at one byte, Get. -/
import Derived.Test.YtigcfgmblnbleaaDoorSg
import Derived.Test.YtigcfgmblnbleaaDoorFx
import Derived.Test.YtigcfgmblnbleaaDoorSr
import Derived.Deep.RegionWith
import Derived.RegionTactic
import Derived.OwnWalk
set_option linter.unusedSimpArgs false
set_option linter.unusedVariables false
namespace Go.Proofs.YtigcfgmblnbleaaDoor
open Go.RowKit

abbrev QAt (w : World) (b : Nat) (s : ByteArray) (a e : Int) : Prop := Has w b 51 #[.string s, .int .i64 a, .int .i64 e]
theorem q_facts {w : World} {b : Nat} {s : ByteArray} {a e : Int} (h : QAt w b s a e) : w.cell? ⟨b, 0, none⟩ = some (.string s) ∧ w.cell? ⟨b, 1, none⟩ = some (.int .i64 a) ∧ w.cell? ⟨b, 2, none⟩ = some (.int .i64 e) := ⟨h.cell 0, h.cell 1, h.cell 2⟩
theorem res_fl {W : World} {b : Nat} {x0 x1 x2 : Value} {tm : Array Value} (h : Has W b 51 #[x0, x1, x2]) (h8 : tm.getD 4 undef = .pointer (some ⟨b, 0, none⟩)) :
    (results Tryd.f50 tm).run Tryd.prog W = .ok (.agg #[x0, x1, x2]) W := by
  obtain ⟨c0, c1, c2, _⟩ := h.facts3
  simp only [Array.getD_eq_getD_getElem?] at h8
  simp [results, Tryd.results50, go_sem, h8, c0, c1, c2]
theorem res_tk {W : World} {b : Nat} {x0 x1 x2 v : Value} {tm : Array Value} (h : Has W b 51 #[x0, x1, x2]) (h8 : tm.getD 4 undef = .pointer (some ⟨b, 0, none⟩)) (h9 : tm.getD 5 undef = v) :
    (results Tryd.f60 tm).run Tryd.prog W = .ok (.tuple #[.agg #[x0, x1, x2], v]) W := by
  obtain ⟨c0, c1, c2, _⟩ := h.facts3
  simp only [Array.getD_eq_getD_getElem?] at h8 h9
  simp [results, Tryd.results60, go_sem, h8, h9, c0, c1, c2]
theorem res_nb {W : World} {b : Nat} {x0 x1 x2 v : Value} {tm : Array Value} (h : Has W b 51 #[x0, x1, x2]) (h8 : tm.getD 4 undef = .pointer (some ⟨b, 0, none⟩)) (h9 : tm.getD 5 undef = v) :
    (results Tryd.f49 tm).run Tryd.prog W = .ok (.tuple #[.agg #[x0, x1, x2], v]) W := by
  obtain ⟨c0, c1, c2, _⟩ := h.facts3
  simp only [Array.getD_eq_getD_getElem?] at h8 h9
  simp [results, Tryd.results49, go_sem, h8, h9, c0, c1, c2]

theorem has_new2 (w : World) (o : Obj) (t : TypeId) (cs : Array Value) : Has ((w.alloc o).alloc (.cells cs t)) (w.heap.size + 1) t cs := by
  have h := Has.new (w.alloc o) t cs
  rwa [show (w.alloc o).heap.size = w.heap.size + 1 by simp] at h
set_option maxRecDepth 100000 in
set_option maxHeartbeats 2000000 in
theorem qfailed_any (w : World) (s : ByteArray) (a e c : Int) : Calls Tryd.prog 50 #[.agg #[.string s, .int .i64 a, .int .i64 e], .int .i64 c] w fun x w' => x = .returned (.agg #[.string s, .int .i64 a, .int .i64 (if e = 0 then c else e)]) ∧ Only (fun _ => False) w w' := by
  by_cases he : e = 0
  · subst he
    rw [if_pos rfl]
    go_enter Tryd.func50, Tryd.ntmps50
    go_wp2_with fail
    refine bodyPost_ret (v := .agg #[.string s, .int .i64 a, .int .i64 c]) ?hr rfl ?hp
    case hr => exact res_fl (b := w.heap.size + 1) (has_new2 _ _ _ _) rfl
    case hp => exact ⟨rfl, ((Only.refl _ _).alloc _).alloc _⟩
  · rw [if_neg he]
    have he' : (e == 0) = false := by simpa using he
    clear he
    go_enter Tryd.func50, Tryd.ntmps50
    go_wp2_with fail
    refine bodyPost_ret (v := .agg #[.string s, .int .i64 a, .int .i64 e]) ?hr rfl ?hp
    case hr => exact res_fl (b := w.heap.size + 1) (has_new2 _ _ _ _) rfl
    case hp => exact ⟨rfl, ((Only.refl _ _).alloc _).alloc _⟩

/-- The reference's reader behind i bytes. -/
def qA (s : ByteArray) (i : Nat) : Int := if i ≤ s.size then i else s.size
def qE (s : ByteArray) (i : Nat) : Int := if i ≤ s.size then 0 else 12
def qS (s : ByteArray) (i : Nat) : ByteArray := if i < s.size then s.extract i (i + 1) else ⟨#[]⟩
theorem qV (s : ByteArray) (i : Nat) : beV (ofStr (qS s i)) = nv s i := by
  unfold qS nv num
  split
  · rfl
  · rfl
theorem qS_size (s : ByteArray) (i : Nat) : (qS s i).size ≤ 8 := by
  unfold qS
  split
  · rw [ByteArray.size_extract]; omega
  · decide
set_option maxRecDepth 100000 in
set_option maxHeartbeats 2000000 in
theorem qtake_any (w : World) (s : ByteArray) (i : Nat) (hs : s.size ≤ 140737488351232) : Calls Tryd.prog 60 #[.agg #[.string s, .int .i64 (qA s i), .int .i64 (qE s i)], .int .i64 1] w fun x w' => x = .returned (.tuple #[.agg #[.string s, .int .i64 (qA s (i + 1)), .int .i64 (qE s (i + 1))], .string (qS s i)]) ∧ Only (fun _ => False) w w' := by
  have hf := fun W => qfailed_any W s s.size 0 12
  rw [if_pos rfl] at hf
  have HF := Lib.hid hf
  clear hf
  by_cases h1 : i + 1 ≤ s.size
  · rw [show qA s i = i by unfold qA; rw [if_pos (by omega)], show qE s i = 0 by unfold qE; rw [if_pos (by omega)], show qA s (i + 1) = i + 1 by unfold qA; rw [if_pos h1]; rfl, show qE s (i + 1) = 0 by unfold qE; rw [if_pos h1], show qS s i = s.extract i (i + 1) by unfold qS; rw [if_pos (by omega)]]
    have e1 : IntKind.i64.wrap ((s.size : Int) - i) = (s.size : Int) - i := by rw [IntKind.wrap_i64]; omega
    have e2 : IntKind.i64.wrap ((i : Int) + 1) = (i : Int) + 1 := by rw [IntKind.wrap_i64]; omega
    have e3 : ¬ (s.size : Int) - i < 1 := by omega
    have e4 : (i : Int) + 1 ≤ (s.size : Int) := by omega
    have e5 : (i : Int) ≤ (s.size : Int) := by omega
    go_enter Tryd.func60, Tryd.ntmps60
    go_wp2_with fail
    refine bodyPost_ret (v := .tuple #[.agg #[.string s, .int .i64 ((i : Int) + 1), .int .i64 0], .string (s.extract i (i + 1))]) ?hr rfl ?hp
    case hr => exact res_tk (b := w.heap.size + 1) (has_new2 _ _ _ _) rfl rfl
    case hp => exact ⟨rfl, ((Only.refl _ _).alloc _).alloc _⟩
  · rw [show qA s (i + 1) = s.size by unfold qA; rw [if_neg h1], show qE s (i + 1) = 12 by unfold qE; rw [if_neg h1], show qS s i = ⟨#[]⟩ by unfold qS; rw [if_neg (by omega)], show qA s i = s.size by unfold qA; split <;> omega]
    by_cases h2 : i ≤ s.size
    · rw [show qE s i = 0 by unfold qE; rw [if_pos h2]]
      have e1 : IntKind.i64.wrap ((s.size : Int) - s.size) = 0 := by rw [IntKind.wrap_i64]; omega
      have e2 : (s.size : Int) - s.size = 0 := by omega
      go_enter Tryd.func60, Tryd.ntmps60
      go_wp2_with fail
      refine (HF.out _).mono ?_; rintro e w1 ⟨rfl, o1⟩
      have R1 := o1.has (has_new2 w (.cells #[.string s, .int .i64 (s.size : Int), .int .i64 0] 51) 51 #[.string ⟨#[]⟩, .int .i64 0, .int .i64 0]) (fun f => f)
      obtain ⟨z0, z1, z2, zf⟩ := Has.facts3 R1
      go_wp2_with fail
      refine bodyPost_ret (v := .tuple #[.agg #[.string s, .int .i64 (s.size : Int), .int .i64 12], .string ⟨#[]⟩]) ?hr rfl ?hp
      case hr => exact res_tk (b := w.heap.size + 1) (Has.put3 R1 rfl _ _ _) rfl rfl
      case hp => exact ⟨rfl, Only.then_ ((((Only.refl (fun _ => False) _).alloc _).alloc _).trans o1) (Only.put3 _ (w.heap.size + 1) (.string s) (.int .i64 (s.size : Int)) (.int .i64 12)) (fun i hi e => absurd hi (by have : i = w.heap.size + 1 := e; omega))⟩
    · rw [show qE s i = 12 by unfold qE; rw [if_neg h2]]
      go_enter Tryd.func60, Tryd.ntmps60
      go_wp2_with fail
      refine bodyPost_ret (v := .tuple #[.agg #[.string s, .int .i64 (s.size : Int), .int .i64 12], .string ⟨#[]⟩]) ?hr rfl ?hp
      case hr => exact res_tk (b := w.heap.size + 1) (has_new2 _ _ _ _) rfl rfl
      case hp => exact ⟨rfl, ((Only.refl _ _).alloc _).alloc _⟩

set_option maxRecDepth 100000 in
set_option maxHeartbeats 2000000 in
theorem qnumber_any (w : World) (s : ByteArray) (i : Nat) (hs : s.size ≤ 140737488351232) : Calls Tryd.prog 49 #[.agg #[.string s, .int .i64 (qA s i), .int .i64 (qE s i)], .int .i64 1] w fun x w' => x = .returned (.tuple #[.agg #[.string s, .int .i64 (qA s (i + 1)), .int .i64 (qE s (i + 1))], .int .u64 (nv s i)]) ∧ Only (fun _ => False) w w' := by
  have HT := Lib.hid (fun W => qtake_any W s i hs)
  have hv := fun W => value_ref W (qS s i) (qS_size s i)
  rw [qV] at hv
  have HV := Lib.hid hv
  clear hv
  generalize qA s i = a at *
  generalize qE s i = e at *
  generalize qA s (i + 1) = a1 at *
  generalize qE s (i + 1) = e1 at *
  generalize qS s i = q at *
  generalize nv s i = n at *
  go_enter Tryd.func49, Tryd.ntmps49
  go_wp2_with fail
  refine (HT.out _).mono ?_; rintro x w1 ⟨rfl, o1⟩
  have R1 := o1.has (has_new2 w (.cells #[.string s, .int .i64 a, .int .i64 e] 51) 51 #[.string ⟨#[]⟩, .int .i64 0, .int .i64 0]) (fun f => f)
  have O1 := ((((Only.refl (fun _ => False) w).alloc (.cells #[.string s, .int .i64 a, .int .i64 e] 51)).alloc (.cells #[.string ⟨#[]⟩, .int .i64 0, .int .i64 0] 51)).trans o1).alloc (.cells #[.string s, .int .i64 a1, .int .i64 e1] 51)
  have N1 := Has.new w1 51 #[.string s, .int .i64 a1, .int .i64 e1]
  have R2 := R1.alloc (.cells #[.string s, .int .i64 a1, .int .i64 e1] 51)
  go_wp2_with fail
  clear o1 R1
  generalize w1.heap.size = b6 at *
  generalize w1.alloc (.cells #[.string s, .int .i64 a1, .int .i64 e1] 51) = w2 at *
  obtain ⟨y0, y1, y2, yf⟩ := Has.facts3 N1
  obtain ⟨z0, z1, z2, zf⟩ := Has.facts3 R2
  go_region_with (go_at_call 61; (with_reducible refine (HV.out _).mono ?_); rintro e w9 ⟨rfl, rfl⟩)
  all_goals
    go_wp2_with fail
    refine bodyPost_ret (v := .tuple #[.agg #[.string s, .int .i64 a1, .int .i64 e1], .int .u64 n]) ?hr rfl ?hp
    case hr => first | exact res_nb (b := w.heap.size + 1) (Has.put3 R2.drew rfl _ _ _) rfl rfl | exact res_nb (b := w.heap.size + 1) (Has.put3 R2 rfl _ _ _).drew rfl rfl
    case hp => exact ⟨rfl, Only.then_ O1.drew (Only.put3 _ (w.heap.size + 1) (.string s) (.int .i64 a1) (.int .i64 e1)) (fun i hi e => absurd hi (by have : i = w.heap.size + 1 := e; omega))⟩
end Go.Proofs.YtigcfgmblnbleaaDoor
