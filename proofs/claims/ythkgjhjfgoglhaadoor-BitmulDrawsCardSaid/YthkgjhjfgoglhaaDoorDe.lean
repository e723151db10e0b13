/- bitmul.Draw: where it draws nothing. -/
import Derived.Test.YthkgjhjfgoglhaaDoorDd
set_option linter.unusedSimpArgs false
set_option linter.unusedVariables false
namespace Go.Proofs.YthkgjhjfgoglhaaDoor
open Go.RowKit

theorem ck_ok (w : World) (n : Nat) (h1 : 1 ≤ n) (h2 : n ≤ 4096) : Calls Tryd.prog 17 #[.int .i64 n] w fun e w' => e = .returned (.int .i64 0) ∧ w = w' := by
  have g1 : ¬ (n : Int) < 1 := by omega
  have g2 : ¬ (n : Int) > 4096 := by omega
  clear h1 h2
  go_enter Tryd.func17, Tryd.ntmps17
  go_wp2_with fail
  go_ret
  exact ⟨rfl, rfl⟩
theorem ck_bad (w : World) (n : Int) (h : n < 1 ∨ n > 4096) : Calls Tryd.prog 17 #[.int .i64 n] w fun e w' => e = .returned (.int .i64 2) ∧ w = w' := by
  rcases h with h | h
  · go_enter Tryd.func17, Tryd.ntmps17
    go_wp2_with fail
    go_ret
    exact ⟨rfl, rfl⟩
  · have g : ¬ n < 1 := by omega
    go_enter Tryd.func17, Tryd.ntmps17
    go_wp2_with fail
    go_ret
    exact ⟨rfl, rfl⟩
theorem gd_ok (w : World) (n : Nat) (h1 : 1 ≤ n) (h2 : n ≤ 4096) : Calls Tryd.prog 21 #[.int .i64 n] w fun e w' => e = .returned (.bool true) ∧ w = w' := by
  have g1 : (n : Int) ≥ 1 := by omega
  have g2 : (n : Int) ≤ 4096 := by omega
  clear h1 h2
  go_enter Tryd.func21, Tryd.ntmps21
  go_wp2_with fail
  go_ret
  exact ⟨rfl, rfl⟩
theorem gd_bad (w : World) (n : Int) (h : n < 1 ∨ n > 4096) : Calls Tryd.prog 21 #[.int .i64 n] w fun e w' => e = .returned (.bool false) ∧ w = w' := by
  rcases h with h | h
  · have g : decide (n ≥ 1) = false := by
      have : ¬ n ≥ 1 := by omega
      simpa using this
    have g' : ¬ n ≥ 1 := by omega
    clear h
    go_enter Tryd.func21, Tryd.ntmps21
    go_wp2_with fail
    go_ret
    exact ⟨rfl, rfl⟩
  · have g1 : n ≥ 1 := by omega
    have g : decide (n ≤ 4096) = false := by
      have : ¬ n ≤ 4096 := by omega
      simpa using this
    have g' : ¬ n ≤ 4096 := by omega
    clear h
    go_enter Tryd.func21, Tryd.ntmps21
    go_wp2_with fail
    go_ret
    exact ⟨rfl, rfl⟩
def zero6 : Value := .agg #[.int .i64 0, .slice none 0 0, .int .i64 0, .slice none 0 0, .int .i64 0, .slice none 0 0]
theorem res_dr {W : World} {b : Nat} {x0 x1 x2 x3 x4 x5 v : Value} {tm : Array Value} (h : Has W b 32 #[x0, x1, x2, x3, x4, x5]) (h4 : tm.getD 4 undef = .pointer (some ⟨b, 0, none⟩)) (h5 : tm.getD 5 undef = v) :
    (results Tryd.f6 tm).run Tryd.prog W = .ok (.tuple #[.agg #[x0, x1, x2, x3, x4, x5], v]) W := by
  obtain ⟨c0, c1, c2, c3, c4, c5, _⟩ := h.facts6
  simp only [Array.getD_eq_getD_getElem?] at h4 h5
  simp [results, Tryd.results6, go_sem, h4, h5, c0, c1, c2, c3, c4, c5]
/-- An error's post of Draw. -/
def DrawBad (c : Int) (w : World) (e : Ending) (w' : World) : Prop := (∃ b, e = .returned (.tuple #[zero6, .iface 70 (.pointer (some ⟨b, 0, none⟩))]) ∧ Er w' b c) ∧ Only (fun _ => False) w w'
set_option maxRecDepth 100000 in
set_option maxHeartbeats 2000000 in
theorem draw_bad2 (w : World) (n : Int) (v : Value) (h : n < 1 ∨ n > 4096) : Calls Tryd.prog 6 #[.int .i64 n, v] w (DrawBad 2 w) := by
  have HC := Lib.hid (fun W => ck_bad W n h)
  have R1 : Has (w.alloc (.cells #[.int .i64 0, .slice none 0 0, .int .i64 0, .slice none 0 0, .int .i64 0, .slice none 0 0] 32)) w.heap.size 32 #[.int .i64 0, .slice none 0 0, .int .i64 0, .slice none 0 0, .int .i64 0, .slice none 0 0] := Has.new _ _ _
  have O1 : Only (fun _ => False) w (w.alloc (.cells #[.int .i64 0, .slice none 0 0, .int .i64 0, .slice none 0 0, .int .i64 0, .slice none 0 0] 32)) := (Only.refl _ _).alloc _
  clear h
  go_enter Tryd.func6, Tryd.ntmps6
  go_wp2_with fail
  refine (HC.out _).mono ?_; rintro e w2 ⟨rfl, rfl⟩
  go_wp2_with fail
  refine (fnew_any _ 2 _ (by decide)).mono ?_; rintro e w3 ⟨rfl, rfl⟩
  have R2 := R1.alloc (.cells #[.int .i64 2, .string ⟨#[98, 105, 116, 109, 117, 108]⟩, .nilIface] 72)
  obtain ⟨y0, y1, y2, y3, y4, y5, yf⟩ := Has.facts6 R2
  go_wp2_with fail
  refine bodyPost_ret (v := .tuple #[zero6, .iface 70 (.pointer (some ⟨w.heap.size + 1, 0, none⟩))]) ?hr rfl ?hp
  case hr => exact res_dr (b := w.heap.size) R2 rfl rfl
  case hp =>
    have hE := Er.new (w.alloc (.cells #[.int .i64 0, .slice none 0 0, .int .i64 0, .slice none 0 0, .int .i64 0, .slice none 0 0] 32)) 2 ⟨#[98, 105, 116, 109, 117, 108]⟩
    rw [show (w.alloc (.cells #[.int .i64 0, .slice none 0 0, .int .i64 0, .slice none 0 0, .int .i64 0, .slice none 0 0] 32)).heap.size = w.heap.size + 1 by simp] at hE
    exact ⟨⟨_, rfl, hE⟩, O1.alloc _⟩
theorem TapeAt.inner {w w' : World} {T : Nat} {A : Option Addr} {c a : Nat} {l : List Int} (h : TapeAt w T A c l a) (o : Only (fun _ => False) w w') : TapeAt w' T A c l a := ⟨o.has h.1 (fun f => f), o.own h.2 (fun _ _ f => f)⟩
set_option maxRecDepth 100000 in
set_option maxHeartbeats 2000000 in
theorem draw_bad10 (w : World) (T n : Nat) (A : Option Addr) (c : Nat) (l : List Int) (h : TapeAt w T A c l 0) (hl : l.length ≤ 1000000) (h1 : 1 ≤ n) (h2 : n ≤ 4096) (hm : l.length < 2 * n) : Calls Tryd.prog 6 #[.int .i64 n, .pointer (some ⟨T, 0, none⟩)] w (DrawBad 10 w) := by
  have HC := Lib.hid (fun W => ck_ok W n h1 h2)
  have HB := Lib.hid (fun W (o : Only (fun _ => False) w W) => (show Calls Tryd.prog 18 #[.pointer (some ⟨T, 0, none⟩), .int .i64 (2 * (n : Int))] W fun x w' => (∃ b, x = .returned (.tuple #[.slice none 0 0, .iface 70 (.pointer (some ⟨b, 0, none⟩))]) ∧ Er w' b 10) ∧ Only (fun _ => False) W w' by
    have := bits_bad W T (2 * n) A c l (h.inner o) hl hm (by omega)
    rwa [show ((2 * n : Nat) : Int) = 2 * (n : Int) by omega] at this))
  have R1 : Has (w.alloc (.cells #[.int .i64 0, .slice none 0 0, .int .i64 0, .slice none 0 0, .int .i64 0, .slice none 0 0] 32)) w.heap.size 32 #[.int .i64 0, .slice none 0 0, .int .i64 0, .slice none 0 0, .int .i64 0, .slice none 0 0] := Has.new _ _ _
  have O1 : Only (fun _ => False) w (w.alloc (.cells #[.int .i64 0, .slice none 0 0, .int .i64 0, .slice none 0 0, .int .i64 0, .slice none 0 0] 32)) := (Only.refl _ _).alloc _
  clear h hl hm
  go_enter Tryd.func6, Tryd.ntmps6
  go_wp2_with fail
  refine (HC.out _).mono ?_; rintro e w2 ⟨rfl, rfl⟩
  go_wp2_with fail
  refine (HB.out _ O1).mono ?_; rintro e w3 ⟨⟨b, rfl, hb⟩, o3⟩
  have HE := Lib.hid hb
  have R3 := o3.has R1 (fun f => f)
  have O3 := O1.trans o3
  clear hb o3 R1 O1
  go_wp2_with fail
  refine (fwrap_any _ _ _ _).mono ?_; rintro e w4 ⟨rfl, rfl⟩
  have R4 := R3.alloc (.cells #[.int .i64 0, .string ⟨#[98, 105, 116, 109, 117, 108]⟩, .iface 70 (.pointer (some ⟨b, 0, none⟩))] 72)
  have O4 := O3.alloc (.cells #[.int .i64 0, .string ⟨#[98, 105, 116, 109, 117, 108]⟩, .iface 70 (.pointer (some ⟨b, 0, none⟩))] 72)
  have HE4 := Lib.hid (HE.out.wrap ⟨#[98, 105, 116, 109, 117, 108]⟩)
  obtain ⟨y0, y1, y2, y3, y4, y5, yf⟩ := Has.facts6 R4
  go_wp2_with fail
  refine bodyPost_ret (v := .tuple #[zero6, .iface 70 (.pointer (some ⟨w3.heap.size, 0, none⟩))]) ?hr rfl ?hp
  case hr => exact res_dr (b := w.heap.size) (Has.put6 R4 rfl _ _ _ _ _ _) rfl rfl
  case hp =>
    obtain ⟨s, hs⟩ := HE4.out
    exact ⟨⟨_, rfl, s, hs.only (Only.put6 _ w.heap.size (.int .i64 0) (.slice none 0 0) (.int .i64 0) (.slice none 0 0) (.int .i64 0) (.slice none 0 0)) (fun k cs hk e => by have e : k = w.heap.size := e; subst e; have := Option.some.inj (Eq.trans (Eq.symm hk) R4); injection this with _ ht _; exact absurd ht (by decide))⟩, O4.then_ (Only.put6 _ w.heap.size (.int .i64 0) (.slice none 0 0) (.int .i64 0) (.slice none 0 0) (.int .i64 0) (.slice none 0 0)) (fun i hi e => absurd hi (by have : i = w.heap.size := e; omega))⟩
end Go.Proofs.YthkgjhjfgoglhaaDoor
