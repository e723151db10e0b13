/- The law trefoillaw24.BitmulComes: its walk. -/
import Derived.Test.YthkgjhjfgoglhaaTf
import Derived.Test.YthkgjhjfgoglhaaPa
set_option linter.unusedSimpArgs false
set_option linter.unusedVariables false
namespace Go.Proofs.Ythkgjhjfgoglhaa
open Go.RowKit Go.ChangeShapes Go.WideShapes Go.Deep

theorem bools_cap {H : Type} {enc : TypeId × Value → H} {w : World} {n : Nat} {v : Value} {y : DataW H × List MemPlace} (h : DataW.trod enc Try.prog w 0 (fun _ => true) true n 22 [v] = some y) :
    ∃ (l : List Bool) (A : Option Addr) (c : Nat), v = .slice A l.length c ∧ l.length ≤ c ∧ Reads w v (bcellsB l) := by
  rcases open_bools Try.underlying22 Try.underlying4 (by kernel_rfl) h with ⟨h0, _⟩ | ⟨a, len, cap, B, h0, h1, hl, hm, h2, hc⟩
  · simp only [List.cons.injEq, and_true] at h0
    subst h0
    exact ⟨[], none, 0, rfl, Nat.le_refl _, none, 0, rfl, .inl rfl⟩
  · simp only [List.cons.injEq, and_true] at h0
    subst h0
    refine ⟨(List.range len).map B, some a, cap, by simp, by simp; omega, some a, cap, by simp [bcellsB], .inr ⟨a, rfl, fun k x hx => ?_⟩⟩
    have hk : k < len := by
      have := (List.getElem?_eq_some_iff.1 hx).1
      simpa [bcellsB] using this
    rw [hc k (by omega)]
    simpa [bcellsB, hk] using hx
theorem reads_some {w : World} {A : Option Addr} {n c : Nat} {l : List Bool} (h : Reads w (.slice A n c) (bcellsB l)) (hl : l.length = n) (h1 : 1 ≤ n) : ∃ g, A = some g := by
  obtain ⟨A', c', e, hk⟩ := h.shape
  obtain ⟨g, hg, _⟩ := hk 0 _ (bcellsB_at (by omega))
  injection e with e1
  exact ⟨g, e1.trans hg⟩
set_option maxRecDepth 100000 in
set_option maxHeartbeats 4000000 in
theorem comesBad_any (w : World) (n nb nc nd m k1 k2 k3 k4 k5 : Nat) (A1 A2 A3 A4 A5 : Option Addr) (h : n = 0 ∨ n > 200 ∨ nb ≠ n ∨ nc ≠ n ∨ nd ≠ n ∨ m < 4 * n) :
    Calls Try.prog 5 #[.slice A1 n k1, .slice A2 nb k2, .slice A3 nc k3, .slice A4 nd k4, .slice A5 m k5] w fun x w' => x = .returned (.bool true) ∧ Only (fun _ => False) w w' := by
  by_cases h0 : n = 0
  · subst h0
    clear h
    go_enter Try.func5, Try.ntmps5
    go_wp2_with fail
    refine (awake_any _).mono ?_; rintro e w9 ⟨rfl, o9⟩
    go_wp2_with fail
    go_ret
    exact ⟨rfl, o9⟩
  have g1 : ((n : Int) == 0) = false := by
    have : (n : Int) ≠ 0 := by omega
    simpa using this
  have g1' : (n == 0) = false := by simpa using h0
  by_cases h1 : n > 200
  · have g2 : decide ((n : Int) > 200) = true := by
      have : (n : Int) > 200 := by omega
      simpa using this
    have g2' : (n : Int) > 200 := by omega
    clear h h0 h1
    go_enter Try.func5, Try.ntmps5
    go_wp2_with fail
    refine (awake_any _).mono ?_; rintro e w9 ⟨rfl, o9⟩
    go_wp2_with fail
    go_ret
    exact ⟨rfl, o9⟩
  have g2 : decide ((n : Int) > 200) = false := by
    have : ¬ (n : Int) > 200 := by omega
    simpa using this
  have g2' : ¬ (n : Int) > 200 := by omega
  have h5 : n ≤ 200 := by omega
  clear h1
  by_cases enb : nb = n
  rotate_left
  · have fnb := ne_nat enb
    have fnb' := ne_nat2 enb
    clear h h0 enb
    go_enter Try.func5, Try.ntmps5
    go_wp2_with fail
    refine (awake_any _).mono ?_; rintro e w9 ⟨rfl, o9⟩
    go_wp2_with fail
    go_ret
    exact ⟨rfl, o9⟩
  have qnb : ((nb : Int) != (n : Int)) = false := by rw [enb]; simp
  have qnb' : (nb != n) = false := by rw [enb]; simp
  by_cases enc : nc = n
  rotate_left
  · have fnc := ne_nat enc
    have fnc' := ne_nat2 enc
    clear h h0 enc
    go_enter Try.func5, Try.ntmps5
    go_wp2_with fail
    refine (awake_any _).mono ?_; rintro e w9 ⟨rfl, o9⟩
    go_wp2_with fail
    go_ret
    exact ⟨rfl, o9⟩
  have qnc : ((nc : Int) != (n : Int)) = false := by rw [enc]; simp
  have qnc' : (nc != n) = false := by rw [enc]; simp
  by_cases end0 : nd = n
  rotate_left
  · have fnd := ne_nat end0
    have fnd' := ne_nat2 end0
    clear h h0 end0
    go_enter Try.func5, Try.ntmps5
    go_wp2_with fail
    refine (awake_any _).mono ?_; rintro e w9 ⟨rfl, o9⟩
    go_wp2_with fail
    go_ret
    exact ⟨rfl, o9⟩
  have qnd : ((nd : Int) != (n : Int)) = false := by rw [end0]; simp
  have qnd' : (nd != n) = false := by rw [end0]; simp
  have hm : m < 4 * n := by omega
  have b4 : IntKind.i64.wrap (4 * (n : Int)) = 4 * (n : Int) := IntWalk.i64_in _ (by omega)
  have hm' : (m : Int) < 4 * (n : Int) := by omega
  have hm'' : decide ((m : Int) < 4 * (n : Int)) = true := by simpa using hm'
  clear h h0 hm enb enc end0
  go_enter Try.func5, Try.ntmps5
  go_wp2_with fail
  refine (awake_any _).mono ?_; rintro e w9 ⟨rfl, o9⟩
  go_wp2_with fail
  go_ret
  exact ⟨rfl, o9⟩
theorem comesLaw_any (w : World) (v0 v1 v2 v3 : Value) (k5 : Nat) (A5 : Option Addr) (a b c d N : List Bool) (ra : Reads w v0 (bcellsB a)) (rb : Reads w v1 (bcellsB b)) (rc : Reads w v2 (bcellsB c)) (rd : Reads w v3 (bcellsB d)) (rn : Reads w (.slice A5 N.length k5) (bcellsB N)) (h5 : N.length ≤ k5) :
    Calls Try.prog 5 #[v0, v1, v2, v3, .slice A5 N.length k5] w fun x w' => x = .returned (.bool true) ∧ Only (fun _ => False) w w' := by
  obtain ⟨A1, k1, rfl, -⟩ := ra.shape
  obtain ⟨A2, k2, rfl, -⟩ := rb.shape
  obtain ⟨A3, k3, rfl, -⟩ := rc.shape
  obtain ⟨A4, k4, rfl, -⟩ := rd.shape
  simp only [bcellsB_length] at *
  by_cases hbad : a.length = 0 ∨ a.length > 200 ∨ b.length ≠ a.length ∨ c.length ≠ a.length ∨ d.length ≠ a.length ∨ N.length < 4 * a.length
  · exact comesBad_any w a.length b.length c.length d.length N.length k1 k2 k3 k4 k5 A1 A2 A3 A4 A5 hbad
  · have hn : 1 ≤ a.length ∧ a.length ≤ 200 ∧ b.length = a.length ∧ c.length = a.length ∧ d.length = a.length ∧ 4 * a.length ≤ N.length := by omega
    obtain ⟨h1, h2, hb, hc, hd, h4⟩ := hn
    rw [hb] at rb ⊢
    rw [hc] at rc ⊢
    rw [hd] at rd ⊢
    obtain ⟨g1, rfl⟩ := reads_some ra rfl h1
    obtain ⟨g2, rfl⟩ := reads_some rb hb h1
    obtain ⟨g3, rfl⟩ := reads_some rc hc h1
    obtain ⟨g4, rfl⟩ := reads_some rd hd h1
    obtain ⟨g5, rfl⟩ := reads_some rn rfl (by omega)
    exact comesMain_any w a.length N.length k1 k2 k3 k4 k5 g1 g2 g3 g4 g5 a b c d N rfl hb hc hd rfl ra rb rc rd rn h1 h2 h4 h5
end Go.Proofs.Ythkgjhjfgoglhaa
