/- Chapter 34: awake. -/
import Derived.Test.YtebamcmcmojneaaBoP
import Derived.Test.YtebamcmcmojneaaArg
import Derived.Deep.LoopGhost
import Derived.LoopTactic
set_option linter.unusedSimpArgs false
set_option linter.unusedVariables false
namespace Go.Proofs.Ytebamcmcmojneaa
open Go.RowKit Go.Lib

def nexts : Nat → Sto
  | 0 => s0
  | n + 1 => (nexts n).next
theorem nexts_inv : ∀ n : Nat, n ≤ 100 → Inv (nexts n) n
  | 0, _ => inv0
  | n + 1, h => by
    have := (next_inv (nexts_inv n (by omega)) (by omega)).1
    rw [show ((n + 1 : Nat) : Int) = (n : Int) + 1 by omega]
    exact this

set_option maxHeartbeats 1000000 in
theorem awake_any (w : World) : Calls Try.prog 8 #[] w fun e w' => e = .returned (.bool true) ∧ Only (fun _ => False) w w' := by
  go_enter Try.func8, Try.ntmps8
  go_wp2_with fail
  refine (snew_any _).mono ?_; rintro e w1 ⟨rfl, a1, o1⟩
  go_wp2_with fail
  go_loopw [2] (fun i W => ∃ (k : Nat), k ≤ 3 ∧ i = .int .u32 ((k : Int) + 1) ∧ SAt W w.heap.size (nexts k) ∧ Only (fun _ => False) w W) (fun i _ => 4 - (intOf i).toNat)
  case atStart => exact ⟨0, by omega, rfl, a1, o1⟩
  case round =>
    obtain ⟨k, hk, rfl, hat, ho⟩ := hrel
    have hlt' : k < 3 ∨ k = 3 := by omega
    rcases hlt' with hlt | rfl
    · have hi := nexts_inv k (by omega)
      have hst := start_any wr w.heap.size (nexts k) hi.short hat (by rw [hi.count]; omega)
      rw [hi.count] at hst
      have HST := Lib.hid hst
      clear hst
      go_wp2_with fail
      refine (HST.out).mono ?_
      rintro e w2 ⟨rfl, a2, o2⟩
      go_wp2_with fail
      go_roundw
      case rel => exact ⟨k + 1, by omega, by go_num, a2, ho.then_ o2 (fun i hi e => absurd hi (by omega))⟩
      case measure => simp only [intOf]; omega
    · have h3 : nexts 3 = s0.next.next.next := rfl
      have hi := nexts_inv 3 (by omega)
      have hl : (nexts 3).last = 0 := by rw [h3, three]
      have hz : (nexts 3).a.size = 12 := by rw [h3, three]; exact rec_size 3
      have ht := tear_some wr w.heap.size (nexts 3) 5 hi.short hat (by rw [hl, if_neg (by decide), hz]; decide)
      rw [show (nexts 3).torn ((5 : Int).toNat) = s3 from three_torn] at ht
      have HT := Lib.hid ht
      have HC := Lib.hid (fun W hW => count_any W w.heap.size s3 s3_short hW)
      rw [s3_count] at HC
      have HS := Lib.hid (fun W hW => start_any W w.heap.size s3 s3_short hW (by rw [s3_count]; decide))
      rw [s3_count] at HS
      clear ht hi hl hz h3
      go_wp2_with fail
      refine (HT.out).mono ?_
      rintro e w2 ⟨rfl, a2, o2⟩
      go_wp2_with fail
      refine (HC.out _ a2).mono ?_
      rintro e w3 ⟨rfl, o3⟩
      have a3 := o3.has a2 (fun f => f)
      go_wp2_with fail
      refine (HS.out _ a3).mono ?_
      rintro e w4 ⟨rfl, a4, o4⟩
      go_wp2_with fail
      go_ret
      exact ⟨rfl, ((ho.then_ o2 (fun i hi e => absurd hi (by omega))).then_ o3 (fun _ _ f => f)).then_ o4 (fun i hi e => absurd hi (by omega))⟩

structure Act where
  torn : Bool
  keep : Int
instance : Inhabited Act := ⟨⟨false, 0⟩⟩

/-- The i-th of a slice of acts. -/
def ActAt (w : World) (A : Option Addr) (i : Nat) (a : Act) : Prop :=
  ∃ ad, A = some ad ∧ ad.block < w.heap.size ∧ w.cell? (ad.add (i * 2)) = some (.bool a.torn) ∧ w.cell? ⟨(ad.add (i * 2)).block, (ad.add (i * 2)).off + 1, none⟩ = some (.int .i64 a.keep)
def Acts (w : World) (A : Option Addr) (l : List Act) : Prop := ∀ i, i < l.length → ActAt w A i (l.getD i default)

theorem block_add (a : Addr) (n : Nat) : (a.add n).block = a.block := by unfold Addr.add; split <;> rfl
theorem Acts.only {w w' : World} {A : Option Addr} {l : List Act} {S : Nat → Prop} (h : Acts w A l) (o : Only S w w') (hS : ∀ k, k < w.heap.size → ¬ S k) : Acts w' A l := by
  intro i hi
  obtain ⟨ad, e, hb, h0, h1⟩ := h i hi
  have q : ∀ p : Addr, p.block = ad.block → ∀ v, w.cell? p = some v → w'.cell? p = some v := fun p hp v hc => o.cell hc (by rw [hp]; exact hS _ hb)
  exact ⟨ad, e, Nat.lt_of_lt_of_le hb o.size, q _ (block_add ad _) _ h0, q ⟨_, _, none⟩ (block_add ad _) _ h1⟩

set_option maxHeartbeats 2000000 in
theorem rises_any (w : World) (A : Option Addr) (l : List Act) (cA : Nat) (hl : l.length ≤ 9223372036854775807) (ha : Acts w A l) :
    Calls Try.prog 3 #[.slice A l.length cA] w fun e w' => e = .returned (.bool true) ∧ Only (fun _ => False) w w' := by
  have HAW := Lib.hid awake_any
  go_enter Try.func3, Try.ntmps3
  go_wp2_with fail
  refine (snew_any _).mono ?_; rintro e w1 ⟨rfl, a1, o1⟩
  go_wp2_with fail
  go_loopw [4, 5] (fun la i W => ∃ (k : Nat) (s : Sto) (c L : Int), k ≤ l.length ∧ k ≤ 100 ∧ i = .int .i64 k ∧ la = .int .u32 L ∧ Inv s c ∧ 0 ≤ L ∧ L ≤ c ∧ c ≤ k ∧ SAt W w.heap.size s ∧ Only (fun _ => False) w W) (fun _ i _ => 100 - (intOf i).toNat)
  case atStart => exact ⟨0, s0, 0, 0, by omega, by omega, rfl, rfl, inv0, by omega, by omega, by omega, a1, o1⟩
  case round =>
    obtain ⟨k, s, c, L, hk, hk100, rfl, rfl, hi, hL0, hLc, hck, hat, ho⟩ := hrel
    have hlt' : k < l.length ∧ k < 100 ∨ (k = l.length ∨ k = 100 ∧ 100 < l.length) := by omega
    rcases hlt' with ⟨hlt, hlt40⟩ | hend
    · obtain ⟨ad, hA, hadb, c0_, c1_⟩ := ha k hlt
      have c0 := ho.cell c0_ (fun f => f)
      have c1 := ho.cell c1_ (fun f => f)
      clear c0_ c1_
      generalize l.getD k default = a at c0 c1
      subst hA
      have hbl := hat.lt
      have hne : (ad.add (k * 2)).block ≠ w.heap.size := by rw [block_add]; exact Nat.ne_of_lt hadb
      have hst := start_any wr w.heap.size s hi.short hat (by rw [hi.count]; omega)
      rw [hi.count] at hst
      have HST := Lib.hid hst
      obtain ⟨hi2, hz, _, _, _⟩ := next_inv hi (by omega)
      have hgt : ¬ (c + 1 ≤ L) := by omega
      have hti := torn_inv hi (by omega)
      clear hst
      by_cases hcase : a.torn = true ∧ a.keep < 12
      · obtain ⟨b1, b2⟩ := hcase
        rw [b1] at c0
        obtain ⟨d, hd1, hd2, hid_⟩ := hti a.keep.toNat (by omega)
        have HTE := Lib.hid (fun W hW => tear_some W w.heap.size s.next a.keep hi2.short hW (.inl (by omega)))
        have HC := Lib.hid (fun W hW => count_any W w.heap.size (s.next.torn a.keep.toNat) hid_.short hW)
        rw [hid_.count] at HC
        have HID := Lib.hid hid_
        have HI := Lib.hid hi
        have g1 : ¬ (d < L) := by omega
        have g2 : ¬ (c + 1 < d) := by omega
        clear hi2 hz hid_ hti hi
        go_wp2_with fail
        refine (HST.out).mono ?_
        rintro e w2 ⟨rfl, a2, o2⟩
        have c0' := o2.cell c0 hne
        have c1' := o2.cell c1 hne
        clear c0 c1
        go_wp2_with fail
        refine (HTE.out _ a2).mono ?_
        rintro e w3 ⟨rfl, a3, o3⟩
        go_wp2_with fail
        refine (HC.out _ a3).mono ?_
        rintro e w4 ⟨rfl, o4⟩
        have a4 := o4.has a3 (fun f => f)
        go_wp2_with fail
        refine (HC.out _ a4).mono ?_
        rintro e w5 ⟨rfl, o5⟩
        have a5 := o5.has a4 (fun f => f)
        go_wp2_with fail
        go_roundw
        case rel => exact ⟨k + 1, s.next.torn a.keep.toNat, d, L, by omega, by omega, by go_num, rfl, HID.out, by omega, by omega, by omega, a5, (((ho.then_ o2 (fun i hi e => absurd hi (by omega))).then_ o3 (fun i hi e => absurd hi (by omega))).then_ o4 (fun _ _ f => f)).then_ o5 (fun _ _ f => f)⟩
        case measure => simp only [intOf]; omega
      · have HI := Lib.hid hi
        have HI2 := Lib.hid hi2
        have HC := Lib.hid (fun W hW => count_any W w.heap.size s.next hi2.short hW)
        rw [hi2.count] at HC
        have hca : a.torn = false ∨ a.torn = true ∧ 12 ≤ a.keep := by cases h : a.torn <;> simp_all
        clear hi2 hz hti hi hcase
        rcases hca with b1 | ⟨b1, b2⟩
        · rw [b1] at c0
          go_wp2_with fail
          refine (HST.out).mono ?_
          rintro e w2 ⟨rfl, a2, o2⟩
          have c0' := o2.cell c0 hne
          have c1' := o2.cell c1 hne
          clear c0 c1
          go_wp2_with fail
          refine (HC.out _ a2).mono ?_
          rintro e w3 ⟨rfl, o3⟩
          have a3 := o3.has a2 (fun f => f)
          go_wp2_with fail
          go_roundw
          case rel => exact ⟨k + 1, s.next, c + 1, c + 1, by omega, by omega, by go_num, rfl, HI2.out, by omega, by omega, by omega, a3, (ho.then_ o2 (fun i hi e => absurd hi (by omega))).then_ o3 (fun _ _ f => f)⟩
          case measure => simp only [intOf]; omega
        · rw [b1] at c0
          go_wp2_with fail
          refine (HST.out).mono ?_
          rintro e w2 ⟨rfl, a2, o2⟩
          have c0' := o2.cell c0 hne
          have c1' := o2.cell c1 hne
          clear c0 c1
          go_wp2_with fail
          refine (HC.out _ a2).mono ?_
          rintro e w3 ⟨rfl, o3⟩
          have a3 := o3.has a2 (fun f => f)
          go_wp2_with fail
          go_roundw
          case rel => exact ⟨k + 1, s.next, c + 1, c + 1, by omega, by omega, by go_num, rfl, HI2.out, by omega, by omega, by omega, a3, (ho.then_ o2 (fun i hi e => absurd hi (by omega))).then_ o3 (fun _ _ f => f)⟩
          case measure => simp only [intOf]; omega
    · rcases hend with rfl | ⟨rfl, hlong⟩
      · go_wp2_with fail
        refine (HAW.out _).mono ?_; rintro e w2 ⟨rfl, o2⟩
        go_wp2_with fail
        go_ret
        exact ⟨rfl, ho.trans o2⟩
      · go_wp2_with fail
        refine (HAW.out _).mono ?_; rintro e w2 ⟨rfl, o2⟩
        go_wp2_with fail
        go_ret
        exact ⟨rfl, ho.trans o2⟩
end Go.Proofs.Ytebamcmcmojneaa
