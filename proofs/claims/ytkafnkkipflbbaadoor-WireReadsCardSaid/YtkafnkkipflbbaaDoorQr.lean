/- The reference of layer 8: Failed, Take, Number, Raw, many, End, told by Q8. -/
import Derived.Test.YtkafnkkipflbbaaDoorMq
import Derived.Test.YtkafnkkipflbbaaDoorFx
import Derived.Test.YtkafnkkipflbbaaDoorPut
import Derived.Deep.RegionWith
import Derived.RegionTactic
import Derived.OwnWalk
set_option linter.unusedSimpArgs false
set_option linter.unusedVariables false
namespace Go.Proofs.YtkafnkkipflbbaaDoor
open Go.RowKit

def Q8.cells (q : Q8) (s : ByteArray) : Array Value := #[.string s, .int .i64 q.at_, .int .i64 q.e]
theorem has_new2 (w : World) (o : Obj) (t : TypeId) (cs : Array Value) : Has ((w.alloc o).alloc (.cells cs t)) (w.heap.size + 1) t cs := by
  have h := Has.new (w.alloc o) t cs
  rwa [show (w.alloc o).heap.size = w.heap.size + 1 by simp] at h
theorem res_fl {W : World} {b : Nat} {x0 x1 x2 : Value} {tm : Array Value} (h : Has W b 38 #[x0, x1, x2]) (h8 : tm.getD 4 undef = .pointer (some ⟨b, 0, none⟩)) :
    (results Tryd.f36 tm).run Tryd.prog W = .ok (.agg #[x0, x1, x2]) W := by
  obtain ⟨c0, c1, c2, _⟩ := h.facts3
  simp only [Array.getD_eq_getD_getElem?] at h8
  simp [results, Tryd.results36, go_sem, h8, c0, c1, c2]
theorem res_tk {W : World} {b : Nat} {x0 x1 x2 v : Value} {tm : Array Value} (h : Has W b 38 #[x0, x1, x2]) (h8 : tm.getD 4 undef = .pointer (some ⟨b, 0, none⟩)) (h9 : tm.getD 5 undef = v) :
    (results Tryd.f50 tm).run Tryd.prog W = .ok (.tuple #[.agg #[x0, x1, x2], v]) W := by
  obtain ⟨c0, c1, c2, _⟩ := h.facts3
  simp only [Array.getD_eq_getD_getElem?] at h8 h9
  simp [results, Tryd.results50, go_sem, h8, h9, c0, c1, c2]
theorem res_nb {W : World} {b : Nat} {x0 x1 x2 v : Value} {tm : Array Value} (h : Has W b 38 #[x0, x1, x2]) (h8 : tm.getD 4 undef = .pointer (some ⟨b, 0, none⟩)) (h9 : tm.getD 5 undef = v) :
    (results Tryd.f22 tm).run Tryd.prog W = .ok (.tuple #[.agg #[x0, x1, x2], v]) W := by
  obtain ⟨c0, c1, c2, _⟩ := h.facts3
  simp only [Array.getD_eq_getD_getElem?] at h8 h9
  simp [results, Tryd.results22, go_sem, h8, h9, c0, c1, c2]

set_option maxRecDepth 100000 in
set_option maxHeartbeats 2000000 in
theorem q_failed (w : World) (s : ByteArray) (q : Q8) (c : Int) : Calls Tryd.prog 36 #[.agg (q.cells s), .int .i64 c] w fun x w' => x = .returned (.agg ((q.fail c).cells s)) ∧ Only (fun _ => False) w w' := by
  obtain ⟨a, e⟩ := q
  unfold Q8.fail
  simp only [Q8.cells]
  by_cases he : e = 0
  · subst he
    rw [if_pos rfl]
    go_enter Tryd.func36, Tryd.ntmps36
    go_wp2_with fail
    refine bodyPost_ret (v := .agg #[.string s, .int .i64 a, .int .i64 c]) ?hr rfl ?hp
    case hr => exact res_fl (b := w.heap.size + 1) (has_new2 _ _ _ _) rfl
    case hp => exact ⟨rfl, ((Only.refl _ _).alloc _).alloc _⟩
  · rw [if_neg he]
    have he' : (e == 0) = false := by simpa using he
    clear he
    go_enter Tryd.func36, Tryd.ntmps36
    go_wp2_with fail
    refine bodyPost_ret (v := .agg #[.string s, .int .i64 a, .int .i64 e]) ?hr rfl ?hp
    case hr => exact res_fl (b := w.heap.size + 1) (has_new2 _ _ _ _) rfl
    case hp => exact ⟨rfl, ((Only.refl _ _).alloc _).alloc _⟩

set_option maxRecDepth 100000 in
set_option maxHeartbeats 2000000 in
theorem q_take (w : World) (s : ByteArray) (q : Q8) (n : Nat) (hs : s.size ≤ 140737488351232) (hn : n ≤ 4611686018427387904) (hat : q.at_ ≤ s.size) : Calls Tryd.prog 50 #[.agg (q.cells s), .int .i64 n] w fun x w' => x = .returned (.tuple #[.agg ((q.take s n).1.cells s), .string (q.take s n).2]) ∧ Only (fun _ => False) w w' := by
  obtain ⟨a, e⟩ := q
  have hat : a ≤ s.size := hat
  have HF := Lib.hid (fun W => q_failed W s ⟨a, 0⟩ 12)
  by_cases he : e = 0
  · subst he
    by_cases h1 : a + n ≤ s.size
    · rw [Q8.take_ok rfl h1]
      simp only [Q8.cells]
      have e1 : IntKind.i64.wrap ((s.size : Int) - a) = (s.size : Int) - a := by rw [IntKind.wrap_i64]; omega
      have e2 : IntKind.i64.wrap ((a : Int) + n) = ((a + n : Nat) : Int) := by rw [IntKind.wrap_i64]; omega
      have e3 : ¬ (s.size : Int) - a < (n : Int) := by omega
      have e4 : (a : Int) + n ≤ (s.size : Int) := by omega
      have e5 : (a : Int) ≤ (s.size : Int) := by omega
      go_enter Tryd.func50, Tryd.ntmps50
      go_wp2_with fail
      refine bodyPost_ret (v := .tuple #[.agg #[.string s, .int .i64 ((a + n : Nat) : Int), .int .i64 0], .string (s.extract a (a + n))]) ?hr rfl ?hp
      case hr => exact res_tk (b := w.heap.size + 1) (has_new2 _ _ _ _) rfl rfl
      case hp => exact ⟨rfl, ((Only.refl _ _).alloc _).alloc _⟩
    · have h2 : s.size < a + n := by omega
      rw [Q8.take_short rfl h2]
      have hf : Q8.fail ⟨a, 0⟩ 12 = ⟨a, 12⟩ := rfl
      rw [hf] at HF
      simp only [Q8.cells] at HF ⊢
      clear hf
      have e1 : IntKind.i64.wrap ((s.size : Int) - a) = (s.size : Int) - a := by rw [IntKind.wrap_i64]; omega
      have e3 : (s.size : Int) - a < (n : Int) := by omega
      go_enter Tryd.func50, Tryd.ntmps50
      go_wp2_with fail
      refine (HF.out _).mono ?_; rintro e w1 ⟨rfl, o1⟩
      have R1 := o1.has (has_new2 w (.cells #[.string s, .int .i64 (a : Int), .int .i64 0] 38) 38 #[.string ⟨#[]⟩, .int .i64 0, .int .i64 0]) (fun f => f)
      obtain ⟨z0, z1, z2, zf⟩ := Has.facts3 R1
      go_wp2_with fail
      refine bodyPost_ret (v := .tuple #[.agg #[.string s, .int .i64 (a : Int), .int .i64 12], .string ⟨#[]⟩]) ?hr rfl ?hp
      case hr => exact res_tk (b := w.heap.size + 1) (Has.put3 R1 rfl _ _ _) rfl rfl
      case hp => exact ⟨rfl, Only.then_ ((((Only.refl (fun _ => False) _).alloc _).alloc _).trans o1) (Only.put3 _ (w.heap.size + 1) (.string s) (.int .i64 (a : Int)) (.int .i64 12)) (fun i hi e => absurd hi (by have : i = w.heap.size + 1 := e; omega))⟩
  · rw [Q8.take_had he]
    simp only [Q8.cells]
    have he' : (e == 0) = false := by simpa using he
    have he2 : (e != 0) = true := by simpa using he
    clear he HF
    go_enter Tryd.func50, Tryd.ntmps50
    go_wp2_with fail
    refine bodyPost_ret (v := .tuple #[.agg #[.string s, .int .i64 (a : Int), .int .i64 e], .string ⟨#[]⟩]) ?hr rfl ?hp
    case hr => exact res_tk (b := w.heap.size + 1) (has_new2 _ _ _ _) rfl rfl
    case hp => exact ⟨rfl, ((Only.refl _ _).alloc _).alloc _⟩

set_option maxRecDepth 100000 in
set_option maxHeartbeats 2000000 in
theorem q_number (w : World) (s : ByteArray) (q : Q8) (n : Nat) (hs : s.size ≤ 140737488351232) (hn : n ≤ 8) (hat : q.at_ ≤ s.size) : Calls Tryd.prog 22 #[.agg (q.cells s), .int .i64 n] w fun x w' => x = .returned (.tuple #[.agg ((q.number s n).1.cells s), .int .u64 (q.number s n).2]) ∧ Only (fun _ => False) w w' := by
  have HT := Lib.hid (fun W => q_take W s q n hs (by omega) hat)
  have hv := fun W => value_ref W (q.take s n).2 (Nat.le_trans (q.take_size s n) hn)
  have HV := Lib.hid hv
  clear hv
  unfold Q8.number
  simp only
  generalize (q.take s n).2 = t at *
  generalize (q.take s n).1 = y at *
  generalize beV (ofStr t) = x at *
  obtain ⟨a, e⟩ := q
  obtain ⟨a1, e1⟩ := y
  simp only [Q8.cells] at HT ⊢
  go_enter Tryd.func22, Tryd.ntmps22
  go_wp2_with fail
  refine (HT.out _).mono ?_; rintro x w1 ⟨rfl, o1⟩
  have R1 := o1.has (has_new2 w (.cells #[.string s, .int .i64 a, .int .i64 e] 38) 38 #[.string ⟨#[]⟩, .int .i64 0, .int .i64 0]) (fun f => f)
  have O1 := ((((Only.refl (fun _ => False) w).alloc (.cells #[.string s, .int .i64 a, .int .i64 e] 38)).alloc (.cells #[.string ⟨#[]⟩, .int .i64 0, .int .i64 0] 38)).trans o1).alloc (.cells #[.string s, .int .i64 a1, .int .i64 e1] 38)
  have N1 := Has.new w1 38 #[.string s, .int .i64 a1, .int .i64 e1]
  have R2 := R1.alloc (.cells #[.string s, .int .i64 a1, .int .i64 e1] 38)
  go_wp2_with fail
  clear o1 R1
  generalize w1.heap.size = b6 at *
  generalize w1.alloc (.cells #[.string s, .int .i64 a1, .int .i64 e1] 38) = w2 at *
  obtain ⟨y0, y1, y2, yf⟩ := Has.facts3 N1
  obtain ⟨z0, z1, z2, zf⟩ := Has.facts3 R2
  go_region_with (go_at_call 9; (with_reducible refine (HV.out _).mono ?_); rintro e w9 ⟨rfl, rfl⟩)
  all_goals
    go_wp2_with fail
    refine bodyPost_ret (v := .tuple #[.agg #[.string s, .int .i64 a1, .int .i64 e1], .int .u64 x]) ?hr rfl ?hp
    case hr => first | exact res_nb (b := w.heap.size + 1) (Has.put3 R2.drew rfl _ _ _) rfl rfl | exact res_nb (b := w.heap.size + 1) (Has.put3 R2 rfl _ _ _).drew rfl rfl
    case hp => exact ⟨rfl, Only.then_ O1.drew (Only.put3 _ (w.heap.size + 1) (.string s) (.int .i64 a1) (.int .i64 e1)) (fun i hi e => absurd hi (by have : i = w.heap.size + 1 := e; omega))⟩
end Go.Proofs.YtkafnkkipflbbaaDoor
