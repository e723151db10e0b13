/- The reference of layer 34: Tear, joined. -/
import Derived.Test.YtebamcmcmojneaaDoorRef34f
set_option linter.unusedSimpArgs false
set_option linter.unusedVariables false
namespace Go.Proofs.YtebamcmcmojneaaDoor
open Go.RowKit Go.Lib

def Sto.ref (s : Sto) : Value := .agg #[.string s.a, .string s.b, .int .i64 s.last, .string s.old]
theorem torn_y (t old : ByteArray) (k : Nat) (ho : old.size = 12) (hk : k < 12) : torn t old k = t.extract 0 k ++ old.extract k old.size := by unfold torn; rw [if_pos ⟨ho, hk⟩]
theorem torn_n (t old : ByteArray) (k : Nat) (h : ¬ (old.size = 12 ∧ k < 12)) : torn t old k = t.extract 0 k := by unfold torn; rw [if_neg h, ext_nil]
theorem ref_torn_a (s : Sto) (k : Nat) (hl : s.last = 0) (V : ByteArray) (hV : torn s.a s.old k = V) : (s.torn k).ref = .agg #[.string V, .string s.b, .int .i64 0, .string V] := by
  unfold Sto.torn Sto.ref
  rw [if_neg (by omega)]
  simp only [hV, hl]
theorem ref_torn_b (s : Sto) (k : Nat) (hl : s.last = 1) (V : ByteArray) (hV : torn s.b s.old k = V) : (s.torn k).ref = .agg #[.string s.a, .string V, .int .i64 1, .string V] := by
  unfold Sto.torn Sto.ref
  rw [if_pos hl]
  simp only [hV, hl]

theorem rtear_any (w : World) (s : Sto) (K : Int) (hs : s.short) : Calls Tryd.prog 12 #[s.ref, .int .i64 K] w fun e w' => e = .returned (s.torn (s.kept K)).ref ∧ Only (fun _ => False) w w' := by
  have ha := hs.a
  have hb := hs.b
  have hold := hs.old
  rcases hs.last with hl | hl
  · have hx : (if s.last = 1 then s.b else s.a) = s.a := by rw [if_neg (by omega)]
    have hk : s.kept K = min K.toNat s.a.size := by unfold Sto.kept; rw [hx]
    by_cases h0 : K < 0
    · rw [hk, show min K.toNat s.a.size = 0 by omega]
      by_cases ho : s.old.size = 12
      · exact (by rw [ref_torn_a s _ hl s.old (by rw [torn_y _ _ _ ho (by omega), ext_zero, nil_ext, ext_all])]; have h := rtear_a_lo_y w s.a s.b s.old K h0 ha hold ho (by omega); unfold Sto.ref; rw [hl]; exact h)
      · exact (by rw [ref_torn_a s _ hl ByteArray.empty (by rw [torn_n _ _ _ (fun x => ho x.1), ext_zero]; rfl)]; have h := rtear_a_lo_n w s.a s.b s.old K h0 ha hold ho; unfold Sto.ref; rw [hl]; exact h)
    · by_cases h1 : K ≤ (s.a.size : Int)
      · obtain ⟨k, rfl⟩ := Int.eq_ofNat_of_zero_le (show 0 ≤ K by omega)
        rw [hk, show min (Int.toNat (k : Int)) s.a.size = k by omega]
        by_cases ho : s.old.size = 12
        · by_cases h2 : k < 12
          · exact (by rw [ref_torn_a s _ hl (s.a.extract 0 k ++ s.old.extract k s.old.size) (torn_y _ _ _ ho h2)]; have h := rtear_a_mid_y w s.a s.b s.old k (by omega) ha hold ho h2; unfold Sto.ref; rw [hl]; exact h)
          · exact (by rw [ref_torn_a s _ hl (s.a.extract 0 k) (torn_n _ _ _ (fun x => h2 x.2))]; have h := rtear_a_mid_m w s.a s.b s.old k (by omega) ha hold ho (by omega); unfold Sto.ref; rw [hl]; exact h)
        · exact (by rw [ref_torn_a s _ hl (s.a.extract 0 k) (torn_n _ _ _ (fun x => ho x.1))]; have h := rtear_a_mid_n w s.a s.b s.old k (by omega) ha hold ho; unfold Sto.ref; rw [hl]; exact h)
      · rw [hk, show min K.toNat s.a.size = s.a.size by omega]
        by_cases ho : s.old.size = 12
        · by_cases h2 : s.a.size < 12
          · exact (by rw [ref_torn_a s _ hl (s.a ++ s.old.extract s.a.size s.old.size) (by rw [torn_y _ _ _ ho h2, ext_all])]; have h := rtear_a_hi_y w s.a s.b s.old K (by omega) ha hold ho h2; unfold Sto.ref; rw [hl]; exact h)
          · exact (by rw [ref_torn_a s _ hl s.a (by rw [torn_n _ _ _ (fun x => h2 x.2), ext_all])]; have h := rtear_a_hi_m w s.a s.b s.old K (by omega) ha hold ho (by omega); unfold Sto.ref; rw [hl]; exact h)
        · exact (by rw [ref_torn_a s _ hl s.a (by rw [torn_n _ _ _ (fun x => ho x.1), ext_all])]; have h := rtear_a_hi_n w s.a s.b s.old K (by omega) ha hold ho; unfold Sto.ref; rw [hl]; exact h)
  · have hx : (if s.last = 1 then s.b else s.a) = s.b := by rw [if_pos hl]
    have hk : s.kept K = min K.toNat s.b.size := by unfold Sto.kept; rw [hx]
    by_cases h0 : K < 0
    · rw [hk, show min K.toNat s.b.size = 0 by omega]
      by_cases ho : s.old.size = 12
      · exact (by rw [ref_torn_b s _ hl s.old (by rw [torn_y _ _ _ ho (by omega), ext_zero, nil_ext, ext_all])]; have h := rtear_b_lo_y w s.a s.b s.old K h0 hb hold ho (by omega); unfold Sto.ref; rw [hl]; exact h)
      · exact (by rw [ref_torn_b s _ hl ByteArray.empty (by rw [torn_n _ _ _ (fun x => ho x.1), ext_zero]; rfl)]; have h := rtear_b_lo_n w s.a s.b s.old K h0 hb hold ho; unfold Sto.ref; rw [hl]; exact h)
    · by_cases h1 : K ≤ (s.b.size : Int)
      · obtain ⟨k, rfl⟩ := Int.eq_ofNat_of_zero_le (show 0 ≤ K by omega)
        rw [hk, show min (Int.toNat (k : Int)) s.b.size = k by omega]
        by_cases ho : s.old.size = 12
        · by_cases h2 : k < 12
          · exact (by rw [ref_torn_b s _ hl (s.b.extract 0 k ++ s.old.extract k s.old.size) (torn_y _ _ _ ho h2)]; have h := rtear_b_mid_y w s.a s.b s.old k (by omega) hb hold ho h2; unfold Sto.ref; rw [hl]; exact h)
          · exact (by rw [ref_torn_b s _ hl (s.b.extract 0 k) (torn_n _ _ _ (fun x => h2 x.2))]; have h := rtear_b_mid_m w s.a s.b s.old k (by omega) hb hold ho (by omega); unfold Sto.ref; rw [hl]; exact h)
        · exact (by rw [ref_torn_b s _ hl (s.b.extract 0 k) (torn_n _ _ _ (fun x => ho x.1))]; have h := rtear_b_mid_n w s.a s.b s.old k (by omega) hb hold ho; unfold Sto.ref; rw [hl]; exact h)
      · rw [hk, show min K.toNat s.b.size = s.b.size by omega]
        by_cases ho : s.old.size = 12
        · by_cases h2 : s.b.size < 12
          · exact (by rw [ref_torn_b s _ hl (s.b ++ s.old.extract s.b.size s.old.size) (by rw [torn_y _ _ _ ho h2, ext_all])]; have h := rtear_b_hi_y w s.a s.b s.old K (by omega) hb hold ho h2; unfold Sto.ref; rw [hl]; exact h)
          · exact (by rw [ref_torn_b s _ hl s.b (by rw [torn_n _ _ _ (fun x => h2 x.2), ext_all])]; have h := rtear_b_hi_m w s.a s.b s.old K (by omega) hb hold ho (by omega); unfold Sto.ref; rw [hl]; exact h)
        · exact (by rw [ref_torn_b s _ hl s.b (by rw [torn_n _ _ _ (fun x => ho x.1), ext_all])]; have h := rtear_b_hi_n w s.a s.b s.old K (by omega) hb hold ho; unfold Sto.ref; rw [hl]; exact h)
end Go.Proofs.YtebamcmcmojneaaDoor
