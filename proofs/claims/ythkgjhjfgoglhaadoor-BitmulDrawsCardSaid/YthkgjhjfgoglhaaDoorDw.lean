/- Layer 24: both Draws, told alike. -/
import Derived.Test.YthkgjhjfgoglhaaDoorDv
import Derived.Test.YthkgjhjfgoglhaaDoorDo
import Derived.Test.YthkgjhjfgoglhaaDoorTc
import Derived.Test.YthkgjhjfgoglhaaDoorCc
set_option linter.unusedSimpArgs false
set_option linter.unusedVariables false
namespace Go.Proofs.YthkgjhjfgoglhaaDoor
open Go.RowKit

/-- An error, told by its number. -/
def CodeAt (w : World) (v : Value) (c : Int) : Prop := (v = .nilIface ∧ c = 0) ∨ ∃ b, v = .iface 70 (.pointer (some ⟨b, 0, none⟩)) ∧ Er w b c
theorem CodeAt.inner {w w' : World} {v : Value} {c : Int} (h : CodeAt w v c) (o : Only (fun _ => False) w w') : CodeAt w' v c := by
  rcases h with h | ⟨b, h, e⟩
  · exact .inl h
  · exact .inr ⟨b, h, e.inner o⟩
theorem code_at (w : World) (v : Value) (c : Int) (h : CodeAt w v c) (hE : Et w) : Calls Tryd.prog 9 #[v] w fun e w' => e = .returned (.int .i64 c) ∧ Only (fun _ => False) w w' := by
  rcases h with ⟨rfl, rfl⟩ | ⟨b, rfl, s, hs⟩
  · exact code_nil w
  · exact code_chain w b s c hs hE
def drawC (n : Int) (l : List Int) : Int := if n < 1 ∨ n > 4096 then 2 else if (l.length : Int) < 2 * n then 10 else 0
def drawA (n : Int) (l : List Int) : Int := if n < 1 ∨ n > 4096 then 0 else if (l.length : Int) < 2 * n then 0 else 2 * n
def drawQ (n : Int) (l : List Int) : Pt := if n < 1 ∨ n > 4096 then ⟨[], [], []⟩ else if (l.length : Int) < 2 * n then ⟨[], [], []⟩ else drawP l n.toNat
theorem part_zero (w : World) : PartV w 0 zero6 ⟨[], [], []⟩ := ⟨none, 0, 0, none, 0, 0, none, 0, 0, rfl, VL.zero _ _, VL.zero _ _, VL.zero _ _⟩
theorem ref_zero (w : World) (B C : Option Addr) (c d : Nat) : RefP w (.agg #[.slice B 0 c, .slice C 0 d, .slice none 0 0]) ⟨[], [], []⟩ := ⟨_, _, _, rfl, ⟨B, c, rfl, .inl rfl⟩, ⟨C, d, rfl, .inl rfl⟩, ⟨none, 0, rfl, .inl rfl⟩⟩
theorem draw_all (w : World) (T : Nat) (n : Int) (A : Option Addr) (c : Nat) (l : List Int) (h : TapeAt w T A c l 0) (hl : l.length ≤ 1000000) (hx : ∀ x ∈ l, 0 ≤ x ∧ x < 2 ^ 64) : Calls Tryd.prog 6 #[.int .i64 n, .pointer (some ⟨T, 0, none⟩)] w fun e w' =>
    (∃ u v, e = .returned (.tuple #[u, v]) ∧ PartV w' 0 u (drawQ n l) ∧ CodeAt w' v (drawC n l)) ∧ (∃ x y, Has w' T 54 #[x, .int .i64 (drawA n l), y]) ∧ Only (· = T) w w' := by
  by_cases hb : n < 1 ∨ n > 4096
  · rw [show drawQ n l = ⟨[], [], []⟩ from if_pos hb, show drawC n l = 2 from if_pos hb, show drawA n l = 0 from if_pos hb]
    refine (draw_bad2 w n _ hb).mono ?_
    rintro e w' ⟨⟨b, rfl, her⟩, o⟩
    exact ⟨⟨zero6, _, rfl, part_zero _, .inr ⟨b, rfl, her⟩⟩, ⟨_, _, o.has h.1 (fun f => f)⟩, o.mono (fun _ _ f => f.elim)⟩
  · obtain ⟨m, rfl⟩ := Int.eq_ofNat_of_zero_le (show 0 ≤ n by omega)
    by_cases hs : (l.length : Int) < 2 * (m : Int)
    · rw [show drawQ m l = ⟨[], [], []⟩ from (if_neg hb).trans (if_pos hs), show drawC m l = 10 from (if_neg hb).trans (if_pos hs), show drawA m l = 0 from (if_neg hb).trans (if_pos hs)]
      refine (draw_bad10 w T m A c l h hl (by omega) (by omega) (by omega)).mono ?_
      rintro e w' ⟨⟨b, rfl, her⟩, o⟩
      exact ⟨⟨zero6, _, rfl, part_zero _, .inr ⟨b, rfl, her⟩⟩, ⟨_, _, o.has h.1 (fun f => f)⟩, o.mono (fun _ _ f => f.elim)⟩
    · rw [show drawQ m l = drawP l m from (if_neg hb).trans (if_neg hs), show drawC m l = 0 from (if_neg hb).trans (if_neg hs), show drawA m l = ((2 * m : Nat) : Int) from ((if_neg hb).trans (if_neg hs)).trans (by omega)]
      refine (draw_ok w T m A c l h hl hx (by omega) (by omega) (by omega)).mono ?_
      rintro e w' ⟨⟨u, rfl, hu⟩, ht, o⟩
      exact ⟨⟨u, _, rfl, hu, .inl ⟨rfl, rfl⟩⟩, ⟨_, _, ht⟩, o⟩
theorem rdraw_all (w : World) (n : Int) (v : Value) (l : List Int) (h : RU w v l) (hl : l.length ≤ 1000000) (hx : ∀ x ∈ l, 0 ≤ x ∧ x < 2 ^ 64) : Calls Tryd.prog 7 #[.int .i64 n, .agg #[v, .int .i64 0]] w fun e w' =>
    (∃ A' k' c' u, e = .returned (.tuple #[.agg #[.slice A' k' c', .int .i64 (drawA n l)], u, .int .i64 (drawC n l)]) ∧ RefP w' u (drawQ n l)) ∧ Only (fun _ => False) w w' := by
  obtain ⟨A, c, rfl⟩ := h.len0
  by_cases hb : n < 1 ∨ n > 4096
  · rw [show drawQ n l = ⟨[], [], []⟩ from if_pos hb, show drawC n l = 2 from if_pos hb, show drawA n l = 0 from if_pos hb]
    refine (rdraw_bad2 w n A _ c hb).mono ?_
    rintro e w' ⟨rfl, o⟩
    exact ⟨⟨_, _, _, _, rfl, ref_zero _ _ _ _ _⟩, o⟩
  · obtain ⟨m, rfl⟩ := Int.eq_ofNat_of_zero_le (show 0 ≤ n by omega)
    by_cases hs : (l.length : Int) < 2 * (m : Int)
    · rw [show drawQ m l = ⟨[], [], []⟩ from (if_neg hb).trans (if_pos hs), show drawC m l = 10 from (if_neg hb).trans (if_pos hs), show drawA m l = 0 from (if_neg hb).trans (if_pos hs)]
      refine (rdraw_any w m A l.length c 0 [] 10 (by omega) (by omega) (by simp) (by simp) (fun W o => ?_)).mono ?_
      · have := rtake_bad W A l.length c (2 * m) hl (by omega) (by omega)
        rw [show ((2 * m : Nat) : Int) = 2 * (m : Int) by omega] at this
        refine this.mono ?_
        rintro e w' ⟨rfl, o⟩
        exact ⟨⟨none, 0, rfl, ⟨none, 0, rfl, .inl rfl⟩⟩, o⟩
      · rintro e w' ⟨⟨BU, cu, BV, cv, rfl, _, _⟩, o⟩
        exact ⟨⟨_, _, _, _, rfl, ref_zero _ _ _ _ _⟩, o⟩
    · rw [show drawQ m l = drawP l m from (if_neg hb).trans (if_neg hs), show drawC m l = 0 from (if_neg hb).trans (if_neg hs), show drawA m l = ((2 * m : Nat) : Int) from ((if_neg hb).trans (if_neg hs)).trans (by omega)]
      rcases h with ⟨_, rfl⟩ | ⟨a, c', e, hc, hk⟩
      · simp at hs hb; omega
      · injection e with e1 e2 e3
        subst e1 e3
        have hlen : (l.take (2 * m)).length = 2 * m := by rw [List.length_take]; omega
        have hup : up (l.take (2 * m)).length = m := by rw [hlen]; unfold up; omega
        have hdn : dn (l.take (2 * m)).length = m := by rw [hlen]; unfold dn; omega
        refine (rdraw_any w m (some a) l.length c ((2 * m : Nat) : Int) (l.take (2 * m)) 0 (by omega) (by omega) (by omega) (fun x hx' => hx x (List.mem_of_mem_take hx')) (fun W o => ?_)).mono ?_
        · have := rtake_ok W a l c (2 * m) (fun k x hx => o.cell (hk k x hx) (fun f => f)) hc hl (by omega) (by omega)
          rw [show ((2 * m : Nat) : Int) = 2 * (m : Int) by omega] at this ⊢
          refine this.mono ?_
          rintro e w' ⟨⟨B, c', rfl, hr⟩, o⟩
          exact ⟨⟨B, c', by rw [hlen], by rw [hlen]; exact hr⟩, o⟩
        · rintro e w' ⟨⟨BU, cu, BV, cv, rfl, hu, hv⟩, o⟩
          refine ⟨⟨_, _, _, _, rfl, ?_⟩, o⟩
          rw [hup] at hu ⊢
          rw [hdn] at hv ⊢
          rw [(ev_take l m).1] at hu
          rw [(ev_take l m).2] at hv
          exact ⟨_, _, _, rfl, hu, hv, ⟨none, 0, rfl, .inl rfl⟩⟩
end Go.Proofs.YthkgjhjfgoglhaaDoor
