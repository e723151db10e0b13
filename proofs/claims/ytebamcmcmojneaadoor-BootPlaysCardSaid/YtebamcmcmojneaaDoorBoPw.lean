/- Chapter 34: BootPlays walked. -/
import Derived.Test.YtebamcmcmojneaaDoorBoL
import Derived.Test.YtebamcmcmojneaaDoorBoA
import Derived.Test.YtebamcmcmojneaaDoorArg
import Derived.Deep.LoopGhost
import Derived.LoopTactic
set_option linter.unusedSimpArgs false
set_option linter.unusedVariables false
namespace Go.Proofs.YtebamcmcmojneaaDoor
open Go.RowKit Go.Lib

structure Act where
  torn : Bool
  keep : Int
instance : Inhabited Act := ⟨⟨false, 0⟩⟩

/-- The i-th of a slice of acts. -/
def ActAt (w : World) (A : Option Addr) (i : Nat) (a : Act) : Prop :=
  ∃ ad, A = some ad ∧ ad.block < w.heap.size ∧ w.cell? (ad.add (i * 2)) = some (.bool a.torn) ∧ w.cell? ⟨(ad.add (i * 2)).block, (ad.add (i * 2)).off + 1, none⟩ = some (.int .i64 a.keep)
def Acts (w : World) (A : Option Addr) (l : List Act) : Prop := ∀ i, i < l.length → ActAt w A i (l.getD i default)

theorem block_add (a : Addr) (n : Nat) : (a.add n).block = a.block := by unfold Addr.add; split <;> rfl
theorem Acts.only {w w' : World} {A : Option Addr} {l : List Act} {S : Nat → Prop} (h : Acts w A l) (o : Only S w w') (hS : ∀ k, k < w.heap.size → ¬ S k) : Acts w' A l := by
  intro i hi
  obtain ⟨ad, e, hb, h0, h1⟩ := h i hi
  have q : ∀ p : Addr, p.block = ad.block → ∀ v, w.cell? p = some v → w'.cell? p = some v := fun p hp v hc => o.cell hc (by rw [hp]; exact hS _ hb)
  exact ⟨ad, e, Nat.lt_of_lt_of_le hb o.size, q _ (block_add ad _) _ h0, q ⟨_, _, none⟩ (block_add ad _) _ h1⟩


/-- A store of the law's. -/
structure Sm (s : Sto) : Prop where
  a : s.a.size ≤ 100
  b : s.b.size ≤ 100
  old : s.old.size ≤ 100
  made : s.made = true
  last : s.last = 0 ∨ s.last = 1
theorem Sm.short {s : Sto} (h : Sm s) : s.short := ⟨by have := h.a; omega, by have := h.b; omega, by have := h.old; omega, h.made, h.last⟩
theorem Sm.next {s : Sto} (h : Sm s) : Sm s.next := by
  have hr := rec_size (s.count + 1)
  unfold Sto.next
  split
  · exact ⟨h.a, by show (recS _).size ≤ 100; omega, h.b, h.made, .inr rfl⟩
  · exact ⟨by show (recS _).size ≤ 100; omega, h.b, h.a, h.made, .inl rfl⟩
theorem torn_le (t old : ByteArray) (k : Nat) (ht : t.size ≤ 100) : (torn t old k).size ≤ 100 := by
  unfold torn
  split
  · rw [ByteArray.size_append, ByteArray.size_extract, ByteArray.size_extract]; omega
  · rw [ext_nil, ByteArray.size_extract]; omega
theorem Sm.torn {s : Sto} (h : Sm s) (k : Nat) : Sm (s.torn k) := by
  unfold Sto.torn
  split
  · rename_i e
    exact ⟨h.a, torn_le _ _ _ h.b, torn_le _ _ _ h.b, h.made, .inr e⟩
  · rename_i e
    exact ⟨torn_le _ _ _ h.a, h.b, torn_le _ _ _ h.a, h.made, h.last⟩

abbrev Hd (w W : World) (p q : Nat) (S' S : Sto) : Prop :=
  (W.cell? ⟨q, 0, none⟩ = some (.string S.a) ∧ W.cell? ⟨q, 1, none⟩ = some (.string S.b) ∧ W.cell? ⟨q, 2, none⟩ = some (.int .i64 S.last) ∧ W.cell? ⟨q, 3, none⟩ = some (.string S.old)) ∧ SAt W p S' ∧ RAtS W q S.a S.b S.old S.last ∧ Only (fun _ => False) w W
theorem hd_new {w X : World} {p q : Nat} {S' S : Sto} (a : SAt X p S') (r : RAtS X q S.a S.b S.old S.last) (o : Only (fun _ => False) w X) : Hd w X p q S' S := ⟨⟨r.cell 0, r.cell 1, r.cell 2, r.cell 3⟩, a, r, o⟩
theorem hd_next {w X W : World} {p q : Nat} {S' S : Sto} (o : Only (fun _ => False) X W) (h : Hd w X p q S' S) : Hd w W p q S' S := hd_new (o.has h.2.1 (fun f => f)) (o.has h.2.2.1 (fun f => f)) (h.2.2.2.trans o)

set_option maxRecDepth 100000 in
set_option maxHeartbeats 2000000 in
theorem bplays_any (w : World) (a b : ByteArray) (A : Option Addr) (l : List Act) (cA : Nat) (hza : a.size ≤ 9223372036854775807) (hzb : b.size ≤ 9223372036854775807) (hl : l.length ≤ 9223372036854775807) (ha : Acts w A l) (hE : Et w) :
    Calls Tryd.prog 4 #[.string a, .string b, .slice A l.length cA] w fun e w' => e = .returned (.bool true) ∧ Only (fun _ => False) w w' := by
  have HAW := Lib.hid awake_any
  by_cases h1 : 100 < a.size
  · have h1' : (100 : Int) < (a.size : Int) := by omega
    go_enter Tryd.func4, Tryd.ntmps4
    go_wp2_with fail
    refine (HAW.out _).mono ?_; rintro e w2 ⟨rfl, o2⟩
    go_wp2_with fail
    go_ret
    exact ⟨rfl, o2⟩
  have h1' : ¬ (100 : Int) < (a.size : Int) := by omega
  by_cases h2 : 100 < b.size
  · have h2' : (100 : Int) < (b.size : Int) := by omega
    go_enter Tryd.func4, Tryd.ntmps4
    go_wp2_with fail
    refine (HAW.out _).mono ?_; rintro e w2 ⟨rfl, o2⟩
    go_wp2_with fail
    go_ret
    exact ⟨rfl, o2⟩
  have h2' : ¬ (100 : Int) < (b.size : Int) := by omega
  have HH1 := Lib.hid h1
  have HH2 := Lib.hid h2
  clear h1 h2
  go_enter Tryd.func4, Tryd.ntmps4
  go_wp2_with fail
  refine (load_any _ _ _).mono ?_; rintro e w1 ⟨rfl, a1, o1⟩
  go_wp2_with fail
  go_loopw [9] (fun i W => ∃ (k : Nat) (s : Sto), k ≤ l.length ∧ k ≤ 60 ∧ i = .int .i64 k ∧ Sm s ∧ SAt W w.heap.size s ∧ RAtS W w1.heap.size s.a s.b s.old s.last ∧ Only (fun _ => False) w W) (fun i _ => 60 - (intOf i).toNat)
  case atStart => exact ⟨0, ⟨a, b, 0, ⟨#[]⟩, true⟩, by omega, by omega, rfl, ⟨by have := HH1.out; show a.size ≤ 100; omega, by have := HH2.out; show b.size ≤ 100; omega, by show (0 : Nat) ≤ 100; omega, rfl, .inl rfl⟩, a1.alloc _, Has.new _ _ _, o1.alloc _⟩
  case round =>
    obtain ⟨k, s, hk, hk60, rfl, hsm, hat, hrt, ho⟩ := hrel
    have hlt' : k < l.length ∧ k < 60 ∨ (k = l.length ∨ k = 60 ∧ 60 < l.length) := by omega
    rcases hlt' with ⟨hlt, hlt40⟩ | hend
    · obtain ⟨ad, hA, hadb, c0_, c1_⟩ := ha k hlt
      have c0 := ho.cell c0_ (fun f => f)
      have c1 := ho.cell c1_ (fun f => f)
      clear c0_ c1_
      generalize l.getD k default = act at c0 c1
      subst hA
      have hbl := hat.lt
      have hrl := hrt.lt
      have o1s := o1.size
      have hpr : w.heap.size ≠ w1.heap.size := by have := a1.lt; omega
      obtain ⟨t0, t1, t2, t3, tf⟩ : wr.cell? ⟨w1.heap.size, 0, none⟩ = some (.string s.a) ∧ wr.cell? ⟨w1.heap.size, 1, none⟩ = some (.string s.b) ∧ wr.cell? ⟨w1.heap.size, 2, none⟩ = some (.int .i64 s.last) ∧ wr.cell? ⟨w1.heap.size, 3, none⟩ = some (.string s.old) ∧ (∀ i, wr.frozen? ⟨w1.heap.size, i, none⟩ = false) := ⟨hrt.cell 0, hrt.cell 1, hrt.cell 2, hrt.cell 3, hrt.free⟩
      cases hto : act.torn
      · rw [hto] at c0
        by_cases hm : s.count < 1048575
        · have HS := Lib.hid (fun W hW => start_any W w.heap.size s hsm.short hW hm)
          have HR := Lib.hid (fun W => rstart_any W s hsm.short hm)
          unfold Sto.ref at HR
          have HN := Lib.hid hsm.next
          have HSM := Lib.hid hsm
          clear hm hsm
          go_wp2_with fail
          refine (HS.out _ hat).mono ?_
          rintro e w2 ⟨rfl, a2, o2⟩
          have hr2 := o2.has hrt (Ne.symm hpr)
          have t0 : w2.cell? ⟨w1.heap.size, 0, none⟩ = some (.string s.a) := hr2.cell 0
          have t1 : w2.cell? ⟨w1.heap.size, 1, none⟩ = some (.string s.b) := hr2.cell 1
          have t2 : w2.cell? ⟨w1.heap.size, 2, none⟩ = some (.int .i64 s.last) := hr2.cell 2
          have t3 : w2.cell? ⟨w1.heap.size, 3, none⟩ = some (.string s.old) := hr2.cell 3
          go_wp2_with fail
          refine (HR.out _).mono ?_
          rintro e w3 ⟨rfl, o3⟩
          have hr3 := o3.has hr2 (fun f => f)
          have a3 := o3.has a2 (fun f => f)
          have t0 : w3.cell? ⟨w1.heap.size, 0, none⟩ = some (.string s.a) := hr3.cell 0
          have t1 : w3.cell? ⟨w1.heap.size, 1, none⟩ = some (.string s.b) := hr3.cell 1
          have t2 : w3.cell? ⟨w1.heap.size, 2, none⟩ = some (.int .i64 s.last) := hr3.cell 2
          have t3 : w3.cell? ⟨w1.heap.size, 3, none⟩ = some (.string s.old) := hr3.cell 3
          have tf := hr3.free
          have q0 : ∀ o, (w3.alloc o).cell? ⟨w1.heap.size, 0, none⟩ = some (.string s.a) := fun o => (hr3.alloc o).cell 0
          have q1 : ∀ o, (w3.alloc o).cell? ⟨w1.heap.size, 1, none⟩ = some (.string s.b) := fun o => (hr3.alloc o).cell 1
          have q2 : ∀ o, (w3.alloc o).cell? ⟨w1.heap.size, 2, none⟩ = some (.int .i64 s.last) := fun o => (hr3.alloc o).cell 2
          have q3 : ∀ o, (w3.alloc o).cell? ⟨w1.heap.size, 3, none⟩ = some (.string s.old) := fun o => (hr3.alloc o).cell 3
          have qf : ∀ o i, (w3.alloc o).frozen? ⟨w1.heap.size, i, none⟩ = false := fun o i => (hr3.alloc o).free i
          go_wp2_with fail
          have rX := (hr3.alloc (.cells #[.string s.next.a, .string s.next.b, .int .i64 s.next.last, .string s.next.old] 43)).put4 rfl (.string s.next.a) (.string s.next.b) (.int .i64 s.next.last) (.string s.next.old)
          have aX := (a3.alloc (.cells #[.string s.next.a, .string s.next.b, .int .i64 s.next.last, .string s.next.old] 43)).off4 hpr (.string s.next.a) (.string s.next.b) (.int .i64 s.next.last) (.string s.next.old)
          have oX := (((ho.then_ o2 (fun i hi e => absurd hi (by have : i = w.heap.size := e; omega))).trans o3).alloc (.cells #[.string s.next.a, .string s.next.b, .int .i64 s.next.last, .string s.next.old] 43)).then_ (Only.put4 _ w1.heap.size (.string s.next.a) (.string s.next.b) (.int .i64 s.next.last) (.string s.next.old)) (fun i hi e => absurd hi (by have : i = w1.heap.size := e; omega))
          refine (code_nil _).mono ?_
          rintro e w4 ⟨rfl, o4⟩
          have aY := o4.has aX (fun f => f)
          have rY := o4.has rX (fun f => f)
          have oY := oX.trans o4
          clear rX aX oX q0 q1 q2 q3 qf t0 t1 t2 t3 tf
          go_wp2_with fail
          refine (records_any _ _ _ _ _ _ _ aY).mono ?_
          rintro e w5 ⟨rfl, o5⟩
          have a5 := o5.has aY (fun f => f)
          have r5 := o5.has rY (fun f => f)
          have k1 := a5.drew
          have k2 := r5.drew
          have k3 := (oY.trans o5).drew
          have HN1 := HN.out
          have HC1 := Lib.hid (fun W hW => count_any W w.heap.size s.next HN1.short hW)
          have HC2 := Lib.hid (fun W => rcount_any W s.next HN1.short)
          unfold Sto.ref at HC2
          clear HN1
          go_wp2_with fail
          go_region_held3 (fun W => (W.cell? ⟨w1.heap.size, 0, none⟩ = some (.string s.next.a) ∧ W.cell? ⟨w1.heap.size, 1, none⟩ = some (.string s.next.b) ∧ W.cell? ⟨w1.heap.size, 2, none⟩ = some (.int .i64 s.next.last) ∧ W.cell? ⟨w1.heap.size, 3, none⟩ = some (.string s.next.old)) ∧ SAt W w.heap.size s.next ∧ RAtS W w1.heap.size s.next.a s.next.b s.next.old s.next.last ∧ Only (fun _ => False) w W) (first | exact hd_new k1 k2 k3 | exact hd_next (by assumption) (hd_new k1 k2 k3) | exact hd_next (by assumption) (hd_next (by assumption) (hd_new k1 k2 k3))) (first | (go_at_call 9; with_reducible refine (HC1.out _ k1).mono ?_; rintro e w6 ⟨rfl, o6⟩) | (go_at_call 9; with_reducible refine (HC1.out _ (Only.has (by assumption) k1 (fun f => f))).mono ?_; rintro e w6 ⟨rfl, o6⟩) | (go_at_call 14; refine (HC2.out _).mono ?_; rintro e w6 ⟨rfl, o6⟩))
          rename_i hS
          obtain ⟨_, a7, r7, o7⟩ := hS
          go_wp2_with fail
          go_roundw
          case rel => exact ⟨k + 1, s.next, by omega, by omega, by go_num, HN.out, a7, r7, o7⟩
          case measure => simp only [intOf]; omega
        · have HS := Lib.hid (fun W hW => start_over W w.heap.size s hsm.short hW (by omega))
          have HR := Lib.hid (fun W => rover_any W s hsm.short (by omega))
          unfold Sto.ref at HR
          have HN := Lib.hid hsm
          clear hm hsm
          go_wp2_with fail
          refine (HS.out _ hat).mono ?_
          rintro e w2 ⟨g, tx, rfl, hg, a2, o2⟩
          have hr2 := o2.has hrt (fun f => f)
          have t0 : w2.cell? ⟨w1.heap.size, 0, none⟩ = some (.string s.a) := hr2.cell 0
          have t1 : w2.cell? ⟨w1.heap.size, 1, none⟩ = some (.string s.b) := hr2.cell 1
          have t2 : w2.cell? ⟨w1.heap.size, 2, none⟩ = some (.int .i64 s.last) := hr2.cell 2
          have t3 : w2.cell? ⟨w1.heap.size, 3, none⟩ = some (.string s.old) := hr2.cell 3
          go_wp2_with fail
          refine (HR.out _).mono ?_
          rintro e w3 ⟨rfl, o3⟩
          have hr3 := o3.has hr2 (fun f => f)
          have a3 := o3.has a2 (fun f => f)
          have hg3 := o3.has hg (fun f => f)
          have hgp : g ≠ w1.heap.size := hg3.apart hr3 (by decide)
          have t0 : w3.cell? ⟨w1.heap.size, 0, none⟩ = some (.string s.a) := hr3.cell 0
          have t1 : w3.cell? ⟨w1.heap.size, 1, none⟩ = some (.string s.b) := hr3.cell 1
          have t2 : w3.cell? ⟨w1.heap.size, 2, none⟩ = some (.int .i64 s.last) := hr3.cell 2
          have t3 : w3.cell? ⟨w1.heap.size, 3, none⟩ = some (.string s.old) := hr3.cell 3
          have tf := hr3.free
          have q0 : ∀ o, (w3.alloc o).cell? ⟨w1.heap.size, 0, none⟩ = some (.string s.a) := fun o => (hr3.alloc o).cell 0
          have q1 : ∀ o, (w3.alloc o).cell? ⟨w1.heap.size, 1, none⟩ = some (.string s.b) := fun o => (hr3.alloc o).cell 1
          have q2 : ∀ o, (w3.alloc o).cell? ⟨w1.heap.size, 2, none⟩ = some (.int .i64 s.last) := fun o => (hr3.alloc o).cell 2
          have q3 : ∀ o, (w3.alloc o).cell? ⟨w1.heap.size, 3, none⟩ = some (.string s.old) := fun o => (hr3.alloc o).cell 3
          have qf : ∀ o i, (w3.alloc o).frozen? ⟨w1.heap.size, i, none⟩ = false := fun o i => (hr3.alloc o).free i
          go_wp2_with fail
          have rX := (hr3.alloc (.cells #[.string s.a, .string s.b, .int .i64 s.last, .string s.old] 43)).put4 rfl (.string s.a) (.string s.b) (.int .i64 s.last) (.string s.old)
          have aX := (a3.alloc (.cells #[.string s.a, .string s.b, .int .i64 s.last, .string s.old] 43)).off4 hpr (.string s.a) (.string s.b) (.int .i64 s.last) (.string s.old)
          have gX := (hg3.alloc (.cells #[.string s.a, .string s.b, .int .i64 s.last, .string s.old] 43)).off4 hgp (.string s.a) (.string s.b) (.int .i64 s.last) (.string s.old)
          have oX := (((ho.trans o2).trans o3).alloc (.cells #[.string s.a, .string s.b, .int .i64 s.last, .string s.old] 43)).then_ (Only.put4 _ w1.heap.size (.string s.a) (.string s.b) (.int .i64 s.last) (.string s.old)) (fun i hi e => absurd hi (by have : i = w1.heap.size := e; omega))
          have hEX := hE.only oX (fun f => f)
          refine (code_new _ g 20 tx gX hEX).mono ?_
          rintro e w4 ⟨rfl, o4⟩
          have aY := o4.has aX (fun f => f)
          have rY := o4.has rX (fun f => f)
          have oY := oX.trans o4
          clear rX aX oX gX hEX q0 q1 q2 q3 qf t0 t1 t2 t3 tf hg hg3
          go_wp2_with fail
          refine (records_any _ _ _ _ _ _ _ aY).mono ?_
          rintro e w5 ⟨rfl, o5⟩
          have a5 := o5.has aY (fun f => f)
          have r5 := o5.has rY (fun f => f)
          have k1 := a5.drew
          have k2 := r5.drew
          have k3 := (oY.trans o5).drew
          have HN1 := HN.out
          have HC1 := Lib.hid (fun W hW => count_any W w.heap.size s HN1.short hW)
          have HC2 := Lib.hid (fun W => rcount_any W s HN1.short)
          unfold Sto.ref at HC2
          clear HN1
          go_wp2_with fail
          go_region_held3 (fun W => (W.cell? ⟨w1.heap.size, 0, none⟩ = some (.string s.a) ∧ W.cell? ⟨w1.heap.size, 1, none⟩ = some (.string s.b) ∧ W.cell? ⟨w1.heap.size, 2, none⟩ = some (.int .i64 s.last) ∧ W.cell? ⟨w1.heap.size, 3, none⟩ = some (.string s.old)) ∧ SAt W w.heap.size s ∧ RAtS W w1.heap.size s.a s.b s.old s.last ∧ Only (fun _ => False) w W) (first | exact hd_new k1 k2 k3 | exact hd_next (by assumption) (hd_new k1 k2 k3) | exact hd_next (by assumption) (hd_next (by assumption) (hd_new k1 k2 k3))) (first | (go_at_call 9; with_reducible refine (HC1.out _ k1).mono ?_; rintro e w6 ⟨rfl, o6⟩) | (go_at_call 9; with_reducible refine (HC1.out _ (Only.has (by assumption) k1 (fun f => f))).mono ?_; rintro e w6 ⟨rfl, o6⟩) | (go_at_call 14; refine (HC2.out _).mono ?_; rintro e w6 ⟨rfl, o6⟩))
          rename_i hS
          obtain ⟨_, a7, r7, o7⟩ := hS
          go_wp2_with fail
          go_roundw
          case rel => exact ⟨k + 1, s, by omega, by omega, by go_num, HN.out, a7, r7, o7⟩
          case measure => simp only [intOf]; omega
      · rw [hto] at c0
        have HS := Lib.hid (fun W hW => tear_any W w.heap.size s act.keep hsm.short hW)
        have HR := Lib.hid (fun W => rtear_any W s act.keep hsm.short)
        unfold Sto.ref at HR
        have HN := Lib.hid (hsm.torn (s.kept act.keep))
        clear hsm
        generalize s.torn (s.kept act.keep) = S at HS HR HN
        go_wp2_with fail
        refine (HS.out _ hat).mono ?_
        rintro e w2 ⟨rfl, a2, o2⟩
        have hr2 := o2.has hrt (Ne.symm hpr)
        have t0 : w2.cell? ⟨w1.heap.size, 0, none⟩ = some (.string s.a) := hr2.cell 0
        have t1 : w2.cell? ⟨w1.heap.size, 1, none⟩ = some (.string s.b) := hr2.cell 1
        have t2 : w2.cell? ⟨w1.heap.size, 2, none⟩ = some (.int .i64 s.last) := hr2.cell 2
        have t3 : w2.cell? ⟨w1.heap.size, 3, none⟩ = some (.string s.old) := hr2.cell 3
        have c1' : w2.cell? ⟨(ad.add (k * 2)).block, (ad.add (k * 2)).off + 1, none⟩ = some (.int .i64 act.keep) := by
          have hb2 : (ad.add (k * 2)).block ≠ w.heap.size := by rw [block_add]; omega
          exact o2.cell c1 hb2
        have oA := ho.then_ o2 (fun i hi e => absurd hi (by have : i = w.heap.size := e; omega))
        have k1 := a2.drew
        have k2 := hr2.drew
        have k3 := oA.drew
        have c1'' : w2.drew.cell? ⟨(ad.add (k * 2)).block, (ad.add (k * 2)).off + 1, none⟩ = some (.int .i64 act.keep) := c1'
        go_wp2_with fail
        have d0 : w2.drew.cell? ⟨w1.heap.size, 0, none⟩ = some (.string s.a) := k2.cell 0
        have d1 : w2.drew.cell? ⟨w1.heap.size, 1, none⟩ = some (.string s.b) := k2.cell 1
        have d2 : w2.drew.cell? ⟨w1.heap.size, 2, none⟩ = some (.int .i64 s.last) := k2.cell 2
        have d3 : w2.drew.cell? ⟨w1.heap.size, 3, none⟩ = some (.string s.old) := k2.cell 3
        clear t0 t1 t2 t3 tf
        go_region_with (go_at_call 12; (with_reducible refine (HR.out _).mono ?_); rintro e w6 ⟨rfl, o6⟩; have hr3 := o6.has k2 (fun f => f); have a3 := o6.has k1 (fun f => f); have o3 := k3.trans o6; have tf := hr3.free; have t0 : w6.cell? ⟨w1.heap.size, 0, none⟩ = some (.string s.a) := hr3.cell 0; have t1 : w6.cell? ⟨w1.heap.size, 1, none⟩ = some (.string s.b) := hr3.cell 1; have t2 : w6.cell? ⟨w1.heap.size, 2, none⟩ = some (.int .i64 s.last) := hr3.cell 2; have t3 : w6.cell? ⟨w1.heap.size, 3, none⟩ = some (.string s.old) := hr3.cell 3)
        go_wp2_with fail
        all_goals
          have rY := hr3.put4 rfl (.string S.a) (.string S.b) (.int .i64 S.last) (.string S.old)
          have aY := a3.off4 hpr (.string S.a) (.string S.b) (.int .i64 S.last) (.string S.old)
          have oY := o3.then_ (Only.put4 _ w1.heap.size (.string S.a) (.string S.b) (.int .i64 S.last) (.string S.old)) (fun i hi e => absurd hi (by have : i = w1.heap.size := e; omega))
          clear t0 t1 t2 t3 tf
          refine (records_any _ _ _ _ _ _ _ aY).mono ?_
          rintro e w5 ⟨rfl, o5⟩
          have a5 := o5.has aY (fun f => f)
          have r5 := o5.has rY (fun f => f)
          have k1 := a5.drew
          have k2 := r5.drew
          have k3 := (oY.trans o5).drew
          have HN1 := HN.out
          have HC1 := Lib.hid (fun W hW => count_any W w.heap.size S HN1.short hW)
          have HC2 := Lib.hid (fun W => rcount_any W S HN1.short)
          unfold Sto.ref at HC2
          clear HN1
          go_wp2_with fail
          go_region_held3 (fun W => (W.cell? ⟨w1.heap.size, 0, none⟩ = some (.string S.a) ∧ W.cell? ⟨w1.heap.size, 1, none⟩ = some (.string S.b) ∧ W.cell? ⟨w1.heap.size, 2, none⟩ = some (.int .i64 S.last) ∧ W.cell? ⟨w1.heap.size, 3, none⟩ = some (.string S.old)) ∧ SAt W w.heap.size S ∧ RAtS W w1.heap.size S.a S.b S.old S.last ∧ Only (fun _ => False) w W) (first | exact hd_new k1 k2 k3 | exact hd_next (by assumption) (hd_new k1 k2 k3) | exact hd_next (by assumption) (hd_next (by assumption) (hd_new k1 k2 k3))) (first | (go_at_call 9; with_reducible refine (HC1.out _ k1).mono ?_; rintro e w6 ⟨rfl, o6⟩) | (go_at_call 9; with_reducible refine (HC1.out _ (Only.has (by assumption) k1 (fun f => f))).mono ?_; rintro e w6 ⟨rfl, o6⟩) | (go_at_call 14; refine (HC2.out _).mono ?_; rintro e w6 ⟨rfl, o6⟩))
          rename_i hS
          obtain ⟨_, a7, r7, o7⟩ := hS
          go_wp2_with fail
          go_roundw
          case rel => exact ⟨k + 1, S, by omega, by omega, by go_num, HN.out, a7, r7, o7⟩
          case measure => simp only [intOf]; omega
    · rcases hend with rfl | ⟨rfl, hlong⟩
      · go_wp2_with fail
        refine (HAW.out _).mono ?_; rintro e w2 ⟨rfl, o2⟩
        go_wp2_with fail
        go_ret
        exact ⟨rfl, ho.trans o2⟩
      · go_wp2_with fail
        refine (HAW.out _).mono ?_; rintro e w2 ⟨rfl, o2⟩
        go_wp2_with fail
        go_ret
        exact ⟨rfl, ho.trans o2⟩
end Go.Proofs.YtebamcmcmojneaaDoor
