/- Chapter 1: the reference's nodes; kind, at, At, Text. -/
import Derived.Test.YthagbbeppklpmaaDoorEm
import Derived.Test.YthagbbeppklpmaaDoorEx
set_option linter.unusedSimpArgs false
set_option linter.unusedVariables false
namespace Go.Proofs.YthagbbeppklpmaaDoor
open Go.RowKit

def kindN (l : List Nd) (n : Int) : Int := if 0 ≤ n ∧ n < l.length then (l.getD n.toNat ⟨0, 0, ⟨#[]⟩, 0, 0⟩).kind else 0
def atN (l : List Nd) (n : Int) : Int := if 0 ≤ n ∧ n < l.length then n else -1
theorem kindN_at {l : List Nd} {i : Nat} {x : Nd} (h : l[i]? = some x) : kindN l i = x.kind := by
  have hi : i < l.length := (List.getElem?_eq_some_iff.1 h).1
  unfold kindN
  rw [if_pos ⟨by omega, by omega⟩]
  simp [List.getD_eq_getElem?_getD, h]
set_option maxRecDepth 100000 in
theorem kind_any (w : World) (v : Value) (l : List Nd) (n : Int) (hv : SlN w v l) (hl : l.length ≤ 1000000) :
    Calls Tryd.prog 28 #[v, .int .i64 n] w fun e w' => e = .returned (.int .i64 (kindN l n)) ∧ w = w' := by
  obtain ⟨A, c, rfl, hA⟩ := hv
  unfold kindN
  by_cases hn : 0 ≤ n ∧ n < l.length
  · rw [if_pos hn]
    obtain ⟨h0, h1⟩ := hn
    obtain ⟨i, rfl⟩ := Int.eq_ofNat_of_zero_le h0
    have hi : i < l.length := by omega
    obtain ⟨ad, rfl, x0, -, -, -, -⟩ := hA i hi
    have e1 : (l.getD (Int.toNat (i : Int)) ⟨0, 0, ⟨#[]⟩, 0, 0⟩).kind = l[i].kind := by simp [List.getD_eq_getElem?_getD, List.getElem?_eq_getElem hi]
    rw [e1]
    have h2 : ¬ (i : Int) < 0 := by omega
    have h3 : ¬ (l.length : Int) ≤ (i : Int) := by omega
    clear e1 hA hl
    generalize l[i].kind = k at *
    go_enter Tryd.func28, Tryd.ntmps28
    go_wp2_with fail
    go_ret
    exact ⟨rfl, rfl⟩
  · rw [if_neg hn]
    have h2 : n < 0 ∨ (¬ n < 0 ∧ (l.length : Int) ≤ n) := by omega
    clear hn hA
    rcases h2 with h2 | ⟨h2, h3⟩
    all_goals
      go_enter Tryd.func28, Tryd.ntmps28
      go_wp2_with fail
      go_ret
      exact ⟨rfl, rfl⟩
set_option maxRecDepth 100000 in
theorem rat_any (w : World) (v : Value) (l : List Nd) (n : Int) (hv : SlN w v l) (hl : l.length ≤ 1000000) :
    Calls Tryd.prog 27 #[v, .int .i64 n] w fun e w' => e = .returned (.int .i64 (atN l n)) ∧ w = w' := by
  obtain ⟨A, c, rfl, hA⟩ := hv
  unfold atN
  by_cases hn : 0 ≤ n ∧ n < l.length
  · rw [if_pos hn]
    obtain ⟨h0, h1⟩ := hn
    have h2 : ¬ n < 0 := by omega
    have h3 : ¬ (l.length : Int) ≤ n := by omega
    clear hA hl
    go_enter Tryd.func27, Tryd.ntmps27
    go_wp2_with fail
    go_ret
    exact ⟨rfl, rfl⟩
  · rw [if_neg hn]
    have h2 : n < 0 ∨ (¬ n < 0 ∧ (l.length : Int) ≤ n) := by omega
    clear hn hA
    rcases h2 with h2 | ⟨h2, h3⟩
    all_goals
      go_enter Tryd.func27, Tryd.ntmps27
      go_wp2_with fail
      go_ret
      exact ⟨rfl, rfl⟩

/-- The node is this tree's. -/
def NodeX (l : List Nd) : Tr → Nd → Prop
  | .none, x => x.kind = 0
  | .root c s, x => x.kind = 1 ∧ x.code = c ∧ x.wh = s
  | .num c, x => x.kind = 2 ∧ x.code = c
  | .wrap s t, x => x.kind = 3 ∧ x.wh = s ∧ t.some = true ∧ ∃ (j : Nat) (y : Nd), x.a = j ∧ l[j]? = some y ∧ NodeX l t y
  | .both t u, x => x.kind = 4 ∧ t.some = true ∧ u.some = true ∧ ∃ (j k : Nat) (y z : Nd), x.a = j ∧ x.b = k ∧ l[j]? = some y ∧ l[k]? = some z ∧ NodeX l t y ∧ NodeX l u z
theorem NodeX.kind {l : List Nd} : ∀ {t : Tr} {x : Nd}, NodeX l t x → (t.some = true ↔ x.kind ≠ 0)
  | .none, x, h => by have h : x.kind = 0 := h; simp [Tr.some, h]
  | .root c s, x, h => by have h := h.1; simp [Tr.some, h]
  | .num c, x, h => by have h := h.1; simp [Tr.some, h]
  | .wrap s t, x, h => by have h := h.1; simp [Tr.some, h]
  | .both t u, x, h => by have h := h.1; simp [Tr.some, h]
theorem getElem?_pre {α : Type} {l r : List α} {i : Nat} {x : α} (h : l[i]? = some x) : (l ++ r)[i]? = some x := by
  have hi : i < l.length := (List.getElem?_eq_some_iff.1 h).1
  rw [List.getElem?_append_left hi, h]
theorem NodeX.mono {l r : List Nd} : ∀ {t : Tr} {x : Nd}, NodeX l t x → NodeX (l ++ r) t x
  | .none, x, h => h
  | .root c s, x, h => h
  | .num c, x, h => h
  | .wrap s t, x, ⟨a, b, hs, j, y, e, hy, ht⟩ => ⟨a, b, hs, j, y, e, getElem?_pre hy, ht.mono⟩
  | .both t u, x, ⟨a, h1, h2, j, k, y, z, e1, e2, hy, hz, ht, hu⟩ => ⟨a, h1, h2, j, k, y, z, e1, e2, getElem?_pre hy, getElem?_pre hz, ht.mono, hu.mono⟩
def NodeT (l : List Nd) (t : Tr) (i : Nat) : Prop := ∃ x, l[i]? = some x ∧ NodeX l t x

theorem SlN.at_ {w : World} {A : Option Addr} {n c : Nat} {l : List Nd} (h : SlN w (.slice A n c) l) {i : Nat} {x : Nd} (hx : l[i]? = some x) : n = l.length ∧ i < l.length ∧ ∃ ad, A = some ad ∧ w.cell? (ad.add (i * 5)) = some (.int .i64 x.kind) ∧ w.cell? (ad.add (i * 5 + 1)) = some (.int .i64 x.code) ∧ w.cell? (ad.add (i * 5 + 2)) = some (.string x.wh) ∧ w.cell? (ad.add (i * 5 + 3)) = some (.int .i64 x.a) ∧ w.cell? (ad.add (i * 5 + 4)) = some (.int .i64 x.b) := by
  obtain ⟨A', c', e, hA⟩ := h
  injection e with e1 e2 e3
  subst e1
  obtain ⟨hi, rfl⟩ := List.getElem?_eq_some_iff.1 hx
  exact ⟨e2, hi, hA i hi⟩

set_option maxRecDepth 100000 in
set_option maxHeartbeats 4000000 in
theorem rat_tr : ∀ (t : Tr) (w : World) (v : Value) (l : List Nd) (i : Nat), SlN w v l → NodeT l t i → l.length ≤ 1000000 →
    Calls Tryd.prog 11 #[v, .int .i64 i] w fun e w' => e = .returned (.tuple #[.string t.placeS, .bool t.placeB]) ∧ w = w' := by
  intro t
  induction t with
  | none =>
    rintro w v l i hv ⟨x, hx, h⟩ hl
    have HK := Lib.hid (kind_any w v l i hv hl)
    rw [kindN_at hx, show x.kind = 0 from h] at HK
    clear hx h hv
    go_enter Tryd.func11, Tryd.ntmps11
    go_wp2_with fail
    refine (HK.out).mono ?_
    rintro e w1 ⟨rfl, rfl⟩
    go_wp2_with fail
    refine bodyPost_ret (v := .tuple #[.string ⟨#[]⟩, .bool false]) (by simp [results, Tryd.results11, go_sem]) rfl ⟨rfl, rfl⟩
  | num c =>
    rintro w v l i hv ⟨x, hx, h⟩ hl
    have HK := Lib.hid (kind_any w v l i hv hl)
    rw [kindN_at hx, h.1] at HK
    clear hx h hv
    go_enter Tryd.func11, Tryd.ntmps11
    go_wp2_with fail
    refine (HK.out).mono ?_
    rintro e w1 ⟨rfl, rfl⟩
    go_wp2_with fail
    refine bodyPost_ret (v := .tuple #[.string ⟨#[]⟩, .bool false]) (by simp [results, Tryd.results11, go_sem]) rfl ⟨rfl, rfl⟩
  | root c s =>
    rintro w v l i hv ⟨x, hx, h⟩ hl
    have HK := Lib.hid (kind_any w v l i hv hl)
    rw [kindN_at hx, h.1] at HK
    obtain ⟨A, cc, rfl, -⟩ := id hv
    obtain ⟨-, hi, ad, rfl, x0, x1, x2, x3, x4⟩ := hv.at_ hx
    rw [h.2.2] at x2
    have c2 := row_cell (by decide) x2
    have hi0 : (0 : Int) ≤ (i : Int) := by omega
    have hi1 : (i : Int) < (l.length : Int) := by omega
    clear hx h hv x0 x1 x2 x3 x4
    go_enter Tryd.func11, Tryd.ntmps11
    go_wp2_with fail
    refine (HK.out).mono ?_
    rintro e w1 ⟨rfl, rfl⟩
    go_wp2_with fail
    refine bodyPost_ret (v := .tuple #[.string s, .bool true]) (by simp [results, Tryd.results11, go_sem]) rfl ⟨rfl, rfl⟩
  | wrap s t ih =>
    rintro w v l i hv ⟨x, hx, h⟩ hl
    have HK := Lib.hid (kind_any w v l i hv hl)
    rw [kindN_at hx, h.1] at HK
    obtain ⟨A, cc, rfl, -⟩ := id hv
    obtain ⟨-, hi, ad, rfl, x0, x1, x2, x3, x4⟩ := hv.at_ hx
    rw [h.2.1] at x2
    have c2 := row_cell (by decide) x2
    have hi0 : (0 : Int) ≤ (i : Int) := by omega
    have hi1 : (i : Int) < (l.length : Int) := by omega
    clear hx h hv x0 x1 x2 x3 x4 ih
    go_enter Tryd.func11, Tryd.ntmps11
    go_wp2_with fail
    refine (HK.out).mono ?_
    rintro e w1 ⟨rfl, rfl⟩
    go_wp2_with fail
    refine bodyPost_ret (v := .tuple #[.string s, .bool true]) (by simp [results, Tryd.results11, go_sem]) rfl ⟨rfl, rfl⟩
  | both t u iht ihu =>
    rintro w v l i hv ⟨x, hx, hk, h1, h2, j, k, y, z, e1, e2, hy, hz, ht, hu⟩ hl
    have HK := Lib.hid (kind_any w v l i hv hl)
    rw [kindN_at hx, hk] at HK
    have I1 := Lib.hid (iht w v l j hv ⟨y, hy, ht⟩ hl)
    have I2 := Lib.hid (ihu w v l k hv ⟨z, hz, hu⟩ hl)
    obtain ⟨A, cc, rfl, -⟩ := id hv
    obtain ⟨-, hi, ad, rfl, x0, x1, x2, x3, x4⟩ := hv.at_ hx
    rw [e1] at x3
    rw [e2] at x4
    have c3 := row_cell (by decide) x3
    have c4 := row_cell (by decide) x4
    have hi0 : (0 : Int) ≤ (i : Int) := by omega
    have hi1 : (i : Int) < (l.length : Int) := by omega
    have hj0 : (0 : Int) ≤ (j : Int) := by omega
    have hPS : (Tr.both t u).placeS = if t.placeB = true then t.placeS else u.placeS := by
      unfold Tr.placeS Tr.placeB
      show (match (match t.place with | .some s => some s | .none => u.place) with | .some s => s | .none => _) = _
      cases t.place <;> rfl
    have hPB : (Tr.both t u).placeB = if t.placeB = true then true else u.placeB := by
      unfold Tr.placeB
      show (match (match t.place with | .some s => some s | .none => u.place) with | .some s => true | .none => false) = _
      cases t.place <;> rfl
    rw [hPS, hPB]
    generalize t.placeB = bt at *
    generalize t.placeS = st at *
    generalize u.placeB = bu at *
    generalize u.placeS = su at *
    clear hx hk h1 h2 e1 e2 hy hz ht hu hv x0 x1 x2 x3 x4 iht ihu hPS hPB
    cases bt
    · rw [if_neg (by decide), if_neg (by decide)]
      go_enter Tryd.func11, Tryd.ntmps11
      go_wp2_with fail
      refine (HK.out).mono ?_
      rintro e w1 ⟨rfl, rfl⟩
      go_wp2_with fail
      refine (I1.out).mono ?_
      rintro e w1 ⟨rfl, rfl⟩
      go_wp2_with fail
      refine (I2.out).mono ?_
      rintro e w1 ⟨rfl, rfl⟩
      go_wp2_with fail
      refine bodyPost_ret (v := .tuple #[.string su, .bool bu]) (by simp [results, Tryd.results11, go_sem]) rfl ⟨rfl, rfl⟩
    · rw [if_pos rfl, if_pos rfl]
      go_enter Tryd.func11, Tryd.ntmps11
      go_wp2_with fail
      refine (HK.out).mono ?_
      rintro e w1 ⟨rfl, rfl⟩
      go_wp2_with fail
      refine (I1.out).mono ?_
      rintro e w1 ⟨rfl, rfl⟩
      go_wp2_with fail
      refine bodyPost_ret (v := .tuple #[.string st, .bool true]) (by simp [results, Tryd.results11, go_sem]) rfl ⟨rfl, rfl⟩
end Go.Proofs.YthagbbeppklpmaaDoor
