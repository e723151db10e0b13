/- Frames and their bytes: what is encoded is decoded as it was, and what is decoded encoded (plain). -/
import Derived.Test.YtnaacpopaccjpaaDoorFrD
import Derived.Lib.Strings
set_option linter.unusedSimpArgs false
set_option linter.unusedVariables false
namespace Go.Proofs.YtnaacpopaccjpaaDoor
open Go.RowKit Go.Lib

theorem ofStr_strOfNums (l : List Int) (h : ∀ x ∈ l, 0 ≤ x ∧ x ≤ 255) : ofStr (strOfNums l) = l := by
  simp only [ofStr, strOfNums_data, List.map_map]
  have : ∀ x ∈ l, ((fun b : UInt8 => (b.toNat : Int)) ∘ fun n : Int => UInt8.ofNat n.toNat) x = x := by
    intro x hx
    have := h x hx
    simp only [Function.comp, UInt8.toNat_ofNat']
    omega
  rw [List.map_congr_left this, List.map_id']
theorem strOfNums_ofStr (s : ByteArray) : strOfNums (ofStr s) = s := by
  apply ByteArray.ext
  apply Array.ext'
  rw [strOfNums_data, ofStr, List.map_map]
  have : ((fun n : Int => UInt8.ofNat n.toNat) ∘ fun b : UInt8 => (b.toNat : Int)) = id := by
    funext b
    simp
  rw [this, List.map_id]
theorem ofStr_inj {s t : ByteArray} (h : ofStr s = ofStr t) : s = t := by rw [← strOfNums_ofStr s, h, strOfNums_ofStr]
theorem ofStr_extract (s : ByteArray) (a b : Nat) : ofStr (s.extract a b) = ((ofStr s).take b).drop a := by
  simp only [ofStr]
  rw [Lib.extract_data]
  simp [List.map_take, List.map_drop, List.drop_take]
theorem beB_range (x : Int) : ∀ (n : Nat), ∀ y ∈ beB x n, 0 ≤ y ∧ y ≤ 255
  | 0, y, h => by simp [beB] at h
  | n + 1, y, h => by
    rcases List.mem_cons.1 h with rfl | h
    · omega
    · exact beB_range x n y h
theorem beV4 (x : Int) (h0 : 0 ≤ x) (h1 : x ≤ 4294967295) : beV (beB x 4) = x := by
  simp [beV, beB]
  omega
theorem beB4 (a b c d : Int) (ha : 0 ≤ a ∧ a ≤ 255) (hb : 0 ≤ b ∧ b ≤ 255) (hc : 0 ≤ c ∧ c ≤ 255) (hd : 0 ≤ d ∧ d ≤ 255) : beB (beV [a, b, c, d]) 4 = [a, b, c, d] := by
  simp [beV, beB]
  omega
theorem beB_beV4 (l : List Int) (hl : l.length = 4) (h : ∀ x ∈ l, 0 ≤ x ∧ x ≤ 255) : beB (beV l) 4 = l := by
  match l, hl with
  | [a, b, c, d], _ => exact beB4 a b c d (h a (by simp)) (h b (by simp)) (h c (by simp)) (h d (by simp))

theorem bytes_range (f : Fr) (hk : 1 ≤ f.kind ∧ f.kind ≤ 3) : ∀ x ∈ f.bytes, 0 ≤ x ∧ x ≤ 255 := by
  intro x hx
  simp only [Fr.bytes, List.mem_append, List.mem_singleton] at hx
  rcases hx with ((((rfl | h) | h) | h) | h) | h
  · omega
  · exact beB_range _ _ _ h
  · exact beB_range _ _ _ h
  · exact beB_range _ _ _ h
  · exact beB_range _ _ _ h
  · exact ofStr_range _ _ h
theorem bytes_length (f : Fr) : f.bytes.length = 17 + f.body.size := by
  simp [Fr.bytes, beB_length, ofStr_length]
  omega
theorem check_kind {f : Fr} (h : f.check = 0) : 1 ≤ f.kind ∧ f.kind ≤ 3 ∧ f.body.size ≤ 65536 := by
  unfold Fr.check Fr.late at h
  repeat' (split at h)
  all_goals (first | omega | (simp at h))

/-- What is encoded is decoded as it was. -/
theorem frOf_bytes (f : Fr) (hok : f.ok) (hk : 1 ≤ f.kind ∧ f.kind ≤ 3) : frOf (strOfNums f.bytes) = f := by
  have hr := ofStr_strOfNums f.bytes (bytes_range f hk)
  have hlen : (strOfNums f.bytes).size = 17 + f.body.size := by rw [strOfNums_size, bytes_length]
  obtain ⟨kind, own, peer, seq, ack, body⟩ := f
  obtain ⟨ho, hp, hs, ha⟩ := hok
  simp only at ho hp hs ha hk
  have l4 : ∀ x : Int, (beB x 4).length = 4 := fun x => beB_length x 4
  have e : ofStr (strOfNums (Fr.bytes ⟨kind, own, peer, seq, ack, body⟩)) = [kind] ++ (beB own 4 ++ (beB peer 4 ++ (beB seq 4 ++ (beB ack 4 ++ ofStr body)))) := by
    rw [hr]
    simp [Fr.bytes]
  have hN : ∀ a n, num (strOfNums (Fr.bytes ⟨kind, own, peer, seq, ack, body⟩)) a n = beV ((([kind] ++ (beB own 4 ++ (beB peer 4 ++ (beB seq 4 ++ (beB ack 4 ++ ofStr body))))).take (a + n)).drop a) := by
    intro a n
    rw [num, ofStr_extract, e]
  have n0 : num (strOfNums (Fr.bytes ⟨kind, own, peer, seq, ack, body⟩)) 0 1 = kind := by rw [hN]; simp [beV]
  have n1 : num (strOfNums (Fr.bytes ⟨kind, own, peer, seq, ack, body⟩)) 1 4 = own := by
    rw [hN, show (([kind] ++ (beB own 4 ++ (beB peer 4 ++ (beB seq 4 ++ (beB ack 4 ++ ofStr body))))).take (1 + 4)).drop 1 = beB own 4 by simp [beB]]
    exact beV4 _ ho.1 ho.2
  have n2 : num (strOfNums (Fr.bytes ⟨kind, own, peer, seq, ack, body⟩)) 5 4 = peer := by
    rw [hN, show (([kind] ++ (beB own 4 ++ (beB peer 4 ++ (beB seq 4 ++ (beB ack 4 ++ ofStr body))))).take (5 + 4)).drop 5 = beB peer 4 by simp [beB]]
    exact beV4 _ hp.1 hp.2
  have n3 : num (strOfNums (Fr.bytes ⟨kind, own, peer, seq, ack, body⟩)) 9 4 = seq := by
    rw [hN, show (([kind] ++ (beB own 4 ++ (beB peer 4 ++ (beB seq 4 ++ (beB ack 4 ++ ofStr body))))).take (9 + 4)).drop 9 = beB seq 4 by simp [beB]]
    exact beV4 _ hs.1 hs.2
  have n4 : num (strOfNums (Fr.bytes ⟨kind, own, peer, seq, ack, body⟩)) 13 4 = ack := by
    rw [hN, show (([kind] ++ (beB own 4 ++ (beB peer 4 ++ (beB seq 4 ++ (beB ack 4 ++ ofStr body))))).take (13 + 4)).drop 13 = beB ack 4 by simp [beB]]
    exact beV4 _ ha.1 ha.2
  have hb : (strOfNums (Fr.bytes ⟨kind, own, peer, seq, ack, body⟩)).extract 17 (strOfNums (Fr.bytes ⟨kind, own, peer, seq, ack, body⟩)).size = body := by
    apply ofStr_inj
    rw [ofStr_extract, List.take_of_length_le (by rw [ofStr_length]; exact Nat.le_refl _), e]
    simp [beB]
  unfold frOf
  rw [n0, n1, n2, n3, n4, hb]

/-- What is decoded is encoded as it was. -/
theorem bytes_frOf (s : ByteArray) (hs : 17 ≤ s.size) : strOfNums (frOf s).bytes = s := by
  have hl : 17 ≤ (ofStr s).length := by rw [ofStr_length]; exact hs
  have hx := ofStr_range s
  have hN : ∀ a n, num s a n = beV (((ofStr s).take (a + n)).drop a) := fun a n => by rw [num, ofStr_extract]
  have h4 : ∀ a, a + 4 ≤ 17 → beB (num s a 4) 4 = ((ofStr s).take (a + 4)).drop a := by
    intro a ha
    rw [hN]
    refine beB_beV4 _ ?_ ?_
    · rw [List.length_drop, List.length_take]; omega
    · intro x h; exact hx x (List.mem_of_mem_take (List.mem_of_mem_drop h))
  have h1 : [num s 0 1] = ((ofStr s).take 1).drop 0 := by
    rw [hN]
    match hm : ofStr s, hl with
    | a :: l, _ => simp [beV]
  have hb : ofStr (s.extract 17 s.size) = (ofStr s).drop 17 := by
    rw [ofStr_extract, List.take_of_length_le (by rw [ofStr_length]; exact Nat.le_refl _)]
  have e : (frOf s).bytes = ofStr s := by
    simp only [Fr.bytes, frOf]
    rw [h1, h4 1 (by omega), h4 5 (by omega), h4 9 (by omega), h4 13 (by omega), hb]
    have step : ∀ a n : Nat, ∀ l : List Int, (l.take (a + n)).drop a ++ l.drop (a + n) = l.drop a := by
      intro a n l
      rw [List.drop_take, ← List.drop_drop, Nat.add_sub_cancel_left]
      exact List.take_append_drop n (l.drop a)
    simp only [List.append_assoc]
    rw [step 13 4, step 9 4, step 5 4, step 1 4, step 0 1]
    rfl
  rw [e, strOfNums_ofStr]
theorem frOf_ok (s : ByteArray) : (frOf s).ok := by
  have h : ∀ a, 0 ≤ num s a 4 ∧ num s a 4 ≤ 4294967295 := by
    intro a
    have hb := beV_bound (ofStr (s.extract a (a + 4))) (ofStr_range _)
    have hl : (ofStr (s.extract a (a + 4))).length ≤ 4 := by rw [ofStr_length]; simp; omega
    have h2 := Int.ofNat_le.2 (Nat.pow_le_pow_right (show 0 < 256 by decide) hl)
    rw [Int.natCast_pow, Int.natCast_pow] at h2
    have h3 : ((256 : Nat) : Int) ^ 4 = 4294967296 := by decide
    rw [h3] at h2
    have h4 : (256 : Int) ^ (ofStr (s.extract a (a + 4))).length ≤ 4294967296 := h2
    unfold num
    omega
  exact ⟨h 1, h 5, h 9, h 13⟩
end Go.Proofs.YtnaacpopaccjpaaDoor
