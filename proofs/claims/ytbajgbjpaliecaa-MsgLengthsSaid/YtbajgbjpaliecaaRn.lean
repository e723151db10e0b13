/- wire.Reader as a state: take, number, U8, U32, U64, Fail, Err. -/
import Derived.Test.YtbajgbjpaliecaaRd
import Derived.Deep.LoopGhost
set_option linter.unusedSimpArgs false
set_option linter.unusedVariables false
namespace Go.Proofs.Ytbajgbjpaliecaa
open Go.RowKit Go.Lib

/-- How many bytes are read, and the first fault: the places it came by, and its number. -/
structure Rs8 where
  at_ : Nat
  err : Option (List ByteArray × Int)

def RS (w : World) (p : Nat) (s : ByteArray) (r : Rs8) : Prop :=
  ∃ e, RAt w p s r.at_ e ∧ r.at_ ≤ s.size ∧ match r.err with
    | none => e = none
    | some x => e ≠ none ∧ ErrAt w e x.1 x.2

def Rs8.fail (r : Rs8) (f : ByteArray) (c : Int) : Rs8 := match r.err with
  | none => { r with err := some ([wireName, f], c) }
  | some _ => r
def Rs8.take (r : Rs8) (s f : ByteArray) (n : Nat) : Rs8 × ByteArray := match r.err with
  | some _ => (r, ⟨#[]⟩)
  | none => if s.size < r.at_ + n then (r.fail f 12, ⟨#[]⟩) else ({ r with at_ := r.at_ + n }, s.extract r.at_ (r.at_ + n))
/-- Bytes as a number, the highest first. -/
def beV : List Int → Int := List.foldl (fun x b => x * 256 + b) 0
def Rs8.number (r : Rs8) (s f : ByteArray) (n : Nat) : Rs8 × Int := ((r.take s f n).1, beV (ofStr (r.take s f n).2))

theorem RS.only {w w' : World} {p : Nat} {s : ByteArray} {r : Rs8} {S : Nat → Prop} (h : RS w p s r) (o : Only S w w') (hp : ¬ S p) (hS : ∀ k cs, Has w k 86 cs → ¬ S k) : RS w' p s r := by
  obtain ⟨e, h1, h2, h3⟩ := h
  refine ⟨e, o.has h1 hp, h2, ?_⟩
  cases hr : r.err with
  | none => rw [hr] at h3; exact h3
  | some x => rw [hr] at h3; exact ⟨h3.1, h3.2.only o hS⟩
theorem RS.inner {w w' : World} {p : Nat} {s : ByteArray} {r : Rs8} (h : RS w p s r) (o : Only (fun _ => False) w w') : RS w' p s r := h.only o (fun f => f) (fun _ _ _ f => f)

theorem fail_any (w : World) (p : Nat) (s f : ByteArray) (r : Rs8) (c : Int) (hc : c ≠ 0) (h : RS w p s r) : Calls Try.prog 54 #[.pointer (some ⟨p, 0, none⟩), .string f, .int .i64 c] w fun x w' =>
    x = .returned (.tuple #[]) ∧ RS w' p s (r.fail f c) ∧ Only (· = p) w w' := by
  obtain ⟨e, h1, h2, h3⟩ := h
  obtain ⟨at_, err⟩ := r
  cases err with
  | none =>
    obtain rfl := h3
    refine (fail_new w p s f at_ c hc h1).mono ?_
    rintro x w1 ⟨rfl, b, hr, he, ho⟩
    exact ⟨rfl, ⟨some b, hr, h2, by simp, he⟩, ho⟩
  | some y =>
    obtain ⟨hne, he⟩ := h3
    cases e with
    | none => exact absurd rfl hne
    | some b =>
      refine (fail_had w p s f at_ b c h1).mono ?_
      rintro x w1 ⟨rfl, rfl⟩
      exact ⟨rfl, ⟨some b, h1, h2, hne, he⟩, Only.refl _ _⟩

theorem take_any (w : World) (p : Nat) (s f : ByteArray) (r : Rs8) (n : Nat) (hs : s.size ≤ 140737488351232) (hn : n ≤ 4611686018427387904) (h : RS w p s r) : Calls Try.prog 62 #[.pointer (some ⟨p, 0, none⟩), .string f, .int .i64 n] w fun x w' =>
    x = .returned (.string (r.take s f n).2) ∧ RS w' p s (r.take s f n).1 ∧ Only (· = p) w w' := by
  obtain ⟨e, h1, h2, h3⟩ := h
  obtain ⟨at_, err⟩ := r
  cases err with
  | none =>
    obtain rfl := h3
    simp only at h1 h2
    by_cases hl : s.size < at_ + n
    · refine (take_short w p s f at_ n hs h2 hl hn h1).mono ?_
      rintro x w1 ⟨rfl, b, hr, he, ho⟩
      simp only [Rs8.take, if_pos hl, Rs8.fail]
      exact ⟨trivial, ⟨some b, hr, h2, by simp, he⟩, ho⟩
    · refine (take_ok w p s f at_ n hs (by omega) h1).mono ?_
      rintro x w1 ⟨rfl, hr, ho⟩
      simp only [Rs8.take, if_neg hl]
      exact ⟨trivial, ⟨none, hr, by simp only; omega, rfl⟩, ho⟩
  | some y =>
    obtain ⟨hne, he⟩ := h3
    cases e with
    | none => exact absurd rfl hne
    | some b =>
      refine (take_had w p s f at_ b n h1).mono ?_
      rintro x w1 ⟨rfl, rfl⟩
      exact ⟨rfl, ⟨some b, h1, h2, hne, he⟩, Only.refl _ _⟩

theorem errs_any (w : World) (p : Nat) (s : ByteArray) (r : Rs8) (h : RS w p s r) : Calls Try.prog 34 #[.pointer (some ⟨p, 0, none⟩)] w fun x w' =>
    w = w' ∧ ((r.err = none ∧ x = .returned .nilIface) ∨ ∃ y b, r.err = some y ∧ x = .returned (ev (some b)) ∧ ErrAt w (some b) y.1 y.2) := by
  obtain ⟨e, h1, h2, h3⟩ := h
  refine (err_any w p s _ e h1).mono ?_
  rintro x w1 ⟨rfl, rfl⟩
  refine ⟨rfl, ?_⟩
  cases hr : r.err with
  | none => rw [hr] at h3; subst h3; exact .inl ⟨rfl, rfl⟩
  | some y =>
    rw [hr] at h3
    cases e with
    | none => exact absurd rfl h3.1
    | some b => exact .inr ⟨y, b, rfl, rfl, h3.2⟩

theorem Only.bytesWorld (w : World) (e : TypeId) (s : ByteArray) : Only (fun _ => False) w (bytesWorld w e s) := by
  refine ⟨?_, ?_, ?_, by rw [bytesWorld_size]; omega, fun k hk _ => bytesWorld_at_old w e s k hk⟩ <;> simp [Lib.bytesWorld, World.freeze, World.alloc, World.drew, -World.alloc_eq, -World.drew_eq]

theorem beV_snoc (l : List Int) (b : Int) : beV (l ++ [b]) = beV l * 256 + b := by simp [beV]
theorem ofStr_range (s : ByteArray) : ∀ x ∈ ofStr s, 0 ≤ x ∧ x ≤ 255 := by
  intro x hx
  obtain ⟨b, _, rfl⟩ := List.mem_map.1 hx
  have := b.toNat_lt
  omega
theorem foldl_bound : ∀ (l : List Int) (a : Int), (∀ x ∈ l, 0 ≤ x ∧ x ≤ 255) → 0 ≤ a → 0 ≤ l.foldl (fun x b => x * 256 + b) a ∧ l.foldl (fun x b => x * 256 + b) a < (a + 1) * 256 ^ l.length := by
  intro l
  induction l with
  | nil => intro a _ ha; simp; omega
  | cons b l ih =>
    intro a h ha
    have hb := h b (by simp)
    obtain ⟨h1, h2⟩ := ih (a * 256 + b) (fun x hx => h x (by simp [hx])) (by omega)
    refine ⟨h1, Int.lt_of_lt_of_le h2 ?_⟩
    rw [List.length_cons, Int.pow_succ, Int.mul_comm (256 ^ l.length) 256, ← Int.mul_assoc]
    refine Int.mul_le_mul_of_nonneg_right (by omega) (Int.pow_nonneg (by decide))
theorem beV_bound (l : List Int) (h : ∀ x ∈ l, 0 ≤ x ∧ x ≤ 255) : 0 ≤ beV l ∧ beV l < 256 ^ l.length := by
  have := foldl_bound l 0 h (by decide)
  simpa [beV] using this
theorem pow7 : ∀ k : Nat, k ≤ 7 → (256 : Int) ^ k ≤ 72057594037927936
  | 0, _ => by decide
  | 1, _ => by decide
  | 2, _ => by decide
  | 3, _ => by decide
  | 4, _ => by decide
  | 5, _ => by decide
  | 6, _ => by decide
  | 7, _ => by decide
  | _ + 8, h => by omega
theorem u64_or8 {x b : Int} (hx : 0 ≤ x) (hx' : x < 72057594037927936) (hb : 0 ≤ b) (hb' : b ≤ 255) : bits .or .u64 (x * 256) b = x * 256 + b := by
  refine bits_join .u64 64 (by decide) (fun n h0 h1 => ?_) 8 (x * 256) b (by omega) (by omega) (by omega) hb (by omega) (by omega)
  simp only [IntKind.wrap, IntKind.bits, IntKind.signed]
  simp
  omega

theorem number_any (w : World) (p : Nat) (s f : ByteArray) (r : Rs8) (n : Nat) (hs : s.size ≤ 140737488351232) (hn : n ≤ 8) (h : RS w p s r) : Calls Try.prog 50 #[.pointer (some ⟨p, 0, none⟩), .string f, .int .i64 n] w fun x w' =>
    x = .returned (.int .u64 (r.number s f n).2) ∧ RS w' p s (r.number s f n).1 ∧ Only (· = p) w w' := by
  have kc := fun (w : World) (s : ByteArray) => Go.Lib.run_convert_string_bytes (P := Try.prog) w 9 66 5 s Try.underlying9 Try.underlying66 Try.underlying5
  have ht := take_any w p s f r n hs (by omega) h
  have hl : (r.take s f n).2.size ≤ n := by
    unfold Rs8.take
    split
    · simp [ByteArray.size]
    · split
      · simp [ByteArray.size]
      · simp; omega
  simp only [Rs8.number]
  generalize (r.take s f n).2 = t at *
  generalize (r.take s f n).1 = r' at *
  have HT := Lib.hid ht
  clear ht h
  go_enter Try.func50, Try.ntmps50
  go_wp2_with fail
  refine HT.out.mono ?_
  rintro e w1 ⟨rfl, h1, o1⟩
  go_wp2_with fail
  have hcell : ∀ k, k < t.size → (bytesWorld w1 5 t).cell? ⟨w1.heap.size, k, none⟩ = some (.int .u8 ((ofStr t).getD k 0)) := fun k hk => by
    have ht : k < t.data.toList.length := by rw [Array.length_toList]; exact hk
    rw [bytesWorld_cell w1 _ t k hk]
    simp [ofStr, List.getD_eq_getElem?_getD, List.getElem?_eq_getElem ht]
  have o2 := o1.then_ (Only.bytesWorld w1 5 t) (fun _ _ f => f.elim)
  have h2 := h1.inner (Only.bytesWorld w1 5 t)
  have HCL := Lib.hid hcell
  clear hcell kc
  generalize bytesWorld w1 5 t = w2 at *
  go_loop [7, 16] (fun x i => ∃ k : Nat, k ≤ t.size ∧ i = .int .i64 k ∧ x = .int .u64 (beV ((ofStr t).take k))) (fun _ i => t.size - (intOf i).toNat)
  case atStart => exact ⟨0, Nat.zero_le _, rfl, rfl⟩
  case round =>
    obtain ⟨k, hk, rfl, rfl⟩ := hrel
    by_cases hlt : k < t.size
    · have hc := HCL.out k hlt
      have hlen : k < (ofStr t).length := by rw [ofStr_length]; exact hlt
      have hb := ofStr_range t ((ofStr t).getD k 0) (by simp [List.getD_eq_getElem?_getD, List.getElem?_eq_getElem hlen])
      have hx := beV_bound ((ofStr t).take k) (fun x hx => ofStr_range t x (List.mem_of_mem_take hx))
      have hxl : ((ofStr t).take k).length = k := by rw [List.length_take]; omega
      rw [hxl] at hx
      have hp := pow7 k (by omega)
      have hsn : beV ((ofStr t).take (k + 1)) = beV ((ofStr t).take k) * 256 + (ofStr t).getD k 0 := by
        rw [List.take_succ_eq_append_getElem hlen, beV_snoc]
        simp [List.getD_eq_getElem?_getD, List.getElem?_eq_getElem hlen]
      have hor := u64_or8 hx.1 (by omega) hb.1 hb.2
      generalize beV ((ofStr t).take k) = x at *
      generalize (ofStr t).getD k 0 = b at *
      have HS := Lib.hid hsn
      have HO := Lib.hid hor
      clear hsn hor
      obtain ⟨hx0, hx1⟩ := hx
      obtain ⟨hb0, hb1⟩ := hb
      have hx2 : x < 72057594037927936 := by omega
      clear hp hx1
      go_wp2
      go_round
      case rel => exact ⟨k + 1, by omega, by go_num, by rw [HS.out]; first | rw [HO.out] | (go_num; done)⟩
      case measure => simp [intOf]; omega
    · obtain rfl : k = t.size := by omega
      have hfin : (ofStr t).take t.size = ofStr t := List.take_of_length_le (by rw [ofStr_length]; exact Nat.le_refl _)
      have HF := Lib.hid hfin
      clear hfin
      go_wp2
      go_ret
      rw [HF.out]
      exact ⟨rfl, h2, o2⟩
end Go.Proofs.Ytbajgbjpaliecaa
