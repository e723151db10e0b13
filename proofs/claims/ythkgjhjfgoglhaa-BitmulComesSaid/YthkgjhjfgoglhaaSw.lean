/- bitmul: Shares. -/
import Derived.Test.YthkgjhjfgoglhaaAw
import Derived.Deep.DeepCutAuto
import Derived.Deep.CutBlock
set_option linter.unusedSimpArgs false
set_option linter.unusedVariables false
namespace Go.Proofs.Ythkgjhjfgoglhaa
open Go.RowKit

theorem Try.info_sh : (Try.prog.info? 45).map (fun i => (i.zero, i.size, i.bytes)) = some (some (.agg #[.slice none 0 0, .slice none 0 0, .slice none 0 0]), 3, 72) := by kernel_rfl
/-- A bit as a word of its own. -/
def sl1 (g : Nat) : Value := .slice (some ⟨g, 0, none⟩) 1 1
def Wd (W : World) (g : Nat) (b : Bool) : Prop := Has W g 70 #[.int .u64 (bitN b)]
def Third (W : World) (n i : Nat) (c : List Bool) (v : Value) : Prop := (n = 0 ∧ v = .slice none 0 0) ∨ (n ≠ 0 ∧ ∃ g, v = sl1 g ∧ Wd W g (lf c i))
def WordsAt (W : World) (xs : List Value) (i : Nat) (p : Pt) : Prop := ∃ ga gb vc, xs[i * 3]? = some (sl1 ga) ∧ xs[i * 3 + 1]? = some (sl1 gb) ∧ xs[i * 3 + 2]? = some vc ∧ Wd W ga (lf p.a i) ∧ Wd W gb (lf p.b i) ∧ Third W p.c.length i p.c vc
theorem has_ne {w : World} {g g' : Nat} {t t' : TypeId} {cs cs' : Array Value} (h : Has w g t cs) (h' : Has w g' t' cs') (hne : t ≠ t') : g ≠ g' := by
  rintro rfl
  have := Option.some.inj (Eq.trans (Eq.symm h) h')
  injection this with _ ht _
  exact hne ht
theorem has_keep {W W' : World} {g base k size : Nat} {e t : TypeId} {u : Value} {cs : Array Value} {xs : List Value} (h : Has W g t cs) (own : W.ownsRow base e size u k xs) (hne : e ≠ t) (hg : W.grownBy W' u.ownBlock) : Has W' g t cs :=
  Eq.trans (hg.block g h.lt (fun e1 => own_apart own h hne e1.symm)) h
theorem WordsAt.keep {W W' : World} {base k size : Nat} {u : Value} {xs ys : List Value} {i : Nat} {p : Pt} (h : WordsAt W xs i p) (own : W.ownsRow base 45 size u k xs) (hg : W.grownBy W' u.ownBlock) : WordsAt W' (xs ++ ys) i p := by
  obtain ⟨ga, gb, vc, h1, h2, h3, h4, h5, h6⟩ := h
  have app : ∀ j v, xs[j]? = some v → (xs ++ ys)[j]? = some v := fun j v hj => by
    rw [List.getElem?_append_left (List.getElem?_eq_some_iff.1 hj).1]; exact hj
  refine ⟨ga, gb, vc, app _ _ h1, app _ _ h2, app _ _ h3, has_keep h4 own (by decide) hg, has_keep h5 own (by decide) hg, ?_⟩
  rcases h6 with h6 | ⟨hn, g, rfl, h6⟩
  · exact .inl h6
  · exact .inr ⟨hn, g, rfl, has_keep h6 own (by decide) hg⟩
theorem WordsAt.inner {W W' : World} {xs : List Value} {i : Nat} {p : Pt} (h : WordsAt W xs i p) (o : Only (fun _ => False) W W') : WordsAt W' xs i p := by
  obtain ⟨ga, gb, vc, h1, h2, h3, h4, h5, h6⟩ := h
  refine ⟨ga, gb, vc, h1, h2, h3, o.has h4 (fun f => f), o.has h5 (fun f => f), ?_⟩
  rcases h6 with h6 | ⟨hn, g, rfl, h6⟩
  · exact .inl h6
  · exact .inr ⟨hn, g, rfl, o.has h6 (fun f => f)⟩
theorem cell_three_new (w : World) (x y z : Value) (t : TypeId) : ∀ j u, [x, y, z][j]? = some u → (w.alloc (.cells #[x, y, z] t)).cell? ((⟨w.heap.size, 0, none⟩ : Addr).add j) = some u := by
  intro j u hj
  match j, hj with
  | 0, hj => simp at hj; subst hj; simp [Addr.add]
  | 1, hj => simp at hj; subst hj; simp [Addr.add]
  | 2, hj => simp at hj; subst hj; simp [Addr.add]
theorem WordsAt.put {W W' : World} {xs : List Value} {i n1 : Nat} {p : Pt} {cs : Array Value} (h : WordsAt W xs i p) (Z : Has W n1 45 cs) (o : Only (· = n1) W W') : WordsAt W' xs i p := by
  obtain ⟨ga, gb, vc, h1, h2, h3, h4, h5, h6⟩ := h
  refine ⟨ga, gb, vc, h1, h2, h3, o.has h4 (has_ne h4 Z (by decide)), o.has h5 (has_ne h5 Z (by decide)), ?_⟩
  rcases h6 with h6 | ⟨hn, g, rfl, h6⟩
  · exact .inl h6
  · exact .inr ⟨hn, g, rfl, o.has h6 (has_ne h6 Z (by decide))⟩
/-- A slice whose elements of three cells read so. -/
def Reads3 (w : World) (A : Option Addr) (n c : Nat) (xs : List Value) : Prop := n = 0 ∨ ∃ g, A = some ⟨g, 0, none⟩ ∧ ∀ k x, xs[k]? = some x → w.cell? ⟨g, k, none⟩ = some x
theorem own_reads3 {w : World} {base n : Nat} {v : Value} {e : TypeId} {xs : List Value} (h : w.ownsRow base e 3 v n xs) : ∃ A c, v = .slice A n c ∧ Reads3 w A n c xs := by
  rcases h.2 with ⟨rfl, h2⟩ | ⟨g, cap, cur, rfl, _⟩
  · exact ⟨none, 0, by rw [h2], .inl h2⟩
  · refine ⟨some ⟨g, 0, none⟩, cap, rfl, .inr ⟨g, rfl, fun k x hx => ?_⟩⟩
    have h3 := h.cells (g := g) rfl k x hx
    rcases k with _ | k
    · simpa [Addr.add] using h3
    · simpa [Addr.add] using h3
theorem pf6 {w : World} {g : Nat} {t : TypeId} {x0 x1 x2 x3 x4 x5 : Value} (h : Has w g t #[x0, x1, x2, x3, x4, x5]) : w.cell? ⟨g, 0, none⟩ = some x0 ∧ w.cell? ⟨g, 1, none⟩ = some x1 ∧ w.cell? ⟨g, 2, none⟩ = some x2 ∧ w.cell? ⟨g, 3, none⟩ = some x3 := ⟨h.cell 0, h.cell 1, h.cell 2, h.cell 3⟩
theorem cell_three_at (w : World) (x y z : Value) (t : TypeId) (n : Nat) (hn : n = w.heap.size) : ∀ j u, [x, y, z][j]? = some u → (w.alloc (.cells #[x, y, z] t)).cell? ((⟨n, 0, none⟩ : Addr).add j) = some u := by
  subst hn
  exact cell_three_new w x y z t
theorem words_snoc {W W' : World} {base k : Nat} {u vc : Value} {xs : List Value} {ga gb : Nat} {p : Pt} (own : W.ownsRow base 45 3 u k xs) (hg : W.grownBy W' u.ownBlock) (h : ∀ j, j < k → WordsAt W xs j p) (Ga : Wd W ga (lf p.a k)) (Gb : Wd W gb (lf p.b k)) (T : Third W p.c.length k p.c vc) : ∀ j, j < k + 1 → WordsAt W' (xs ++ [.slice (some ⟨ga, 0, none⟩) 1 1, .slice (some ⟨gb, 0, none⟩) 1 1, vc]) j p := by
  intro j hj
  rcases Nat.lt_or_ge j k with h1 | h1
  · exact (h j h1).keep own hg
  · obtain rfl : j = k := by omega
    have hl : xs.length = j * 3 := own.1
    refine ⟨ga, gb, vc, ?_, ?_, ?_, has_keep Ga own (by decide) hg, has_keep Gb own (by decide) hg, ?_⟩
    · rw [List.getElem?_append_right (by omega), hl]; simp [sl1]
    · rw [List.getElem?_append_right (by omega), hl]; simp [sl1]
    · rw [List.getElem?_append_right (by omega), hl]; simp [sl1]
    · rcases T with T | ⟨hn, g, rfl, T⟩
      · exact .inl T
      · exact .inr ⟨hn, g, rfl, has_keep T own (by decide) hg⟩
def sharesOk (p : Pt) : Prop := p.b.length = p.a.length ∧ (p.c.length = p.a.length ∨ p.c.length = 0)
instance (p : Pt) : Decidable (sharesOk p) := by unfold sharesOk; infer_instance
def SharesPost (p : Pt) (e : Ending) (W : World) : Prop :=
  if sharesOk p then ∃ A c xs, e = .returned (.tuple #[.slice A p.a.length c, .int .i64 0]) ∧ Reads3 W A p.a.length c xs ∧ ∀ i, i < p.a.length → WordsAt W xs i p else e = .returned (.tuple #[.slice none 0 0, .int .i64 11])
set_option maxRecDepth 100000 in
set_option maxHeartbeats 8000000 in
theorem shares_any (w : World) (base : Nat) (v : Value) (p : Pt) (hv : PartV w base v p) (h1 : p.a.length ≤ 300) (h2 : p.b.length ≤ 300) (h3 : p.c.length ≤ 300) : Calls Try.prog 13 #[v] w fun x w' => SharesPost p x w' ∧ Only (fun _ => False) w w' := by
  obtain ⟨i0, hi, hz0, hz1, hz2⟩ := info_parts Try.info_sh
  obtain ⟨a, b, c⟩ := p
  obtain ⟨A1, m1, c1, A2, m2, c2, A3, m3, c3, rfl, ha, hb, hc⟩ := hv
  simp only at *
  have HLA := Lib.hid (fun W (o : Only (fun _ => False) w W) => blen_any W base _ a (ha.inner o))
  have HLB := Lib.hid (fun W (o : Only (fun _ => False) w W) => blen_any W base _ b (hb.inner o))
  have HLC := Lib.hid (fun W (o : Only (fun _ => False) w W) => blen_any W base _ c (hc.inner o))
  have HWA := Lib.hid (fun W i (o : Only (fun _ => False) w W) (hi : i < a.length) => bword_any W base i _ a (ha.inner o) (by omega) hi)
  have HWB := Lib.hid (fun W i (o : Only (fun _ => False) w W) (hi : i < b.length) => bword_any W base i _ b (hb.inner o) (by omega) hi)
  have HWC := Lib.hid (fun W i (o : Only (fun _ => False) w W) (hi : i < c.length) => bword_any W base i _ c (hc.inner o) (by omega) hi)
  obtain ⟨P, hP⟩ : ∃ P : Ending → World → Prop, P = fun e W => SharesPost ⟨a, b, c⟩ e W := ⟨_, rfl⟩
  have HP := Lib.hid (show ∀ e W, SharesPost ⟨a, b, c⟩ e W → P e W by intro e W h; rw [hP]; exact h)
  have hG : (fun (x : Ending) (w' : World) => SharesPost ⟨a, b, c⟩ x w' ∧ Only (fun _ => False) w w') = fun x w' => P x w' ∧ Only (fun _ => False) w w' := by rw [hP]
  rw [hG]
  clear hG hP
  have LA := Lib.hid h1
  have LB := Lib.hid h2
  have LC := Lib.hid h3
  clear ha hb hc h1 h2 h3
  have HBAD := Lib.hid (fun (W : World) (h : ¬ sharesOk ⟨a, b, c⟩) => (show P (.returned (.tuple #[.slice none 0 0, .int .i64 11])) W by apply HP.out; unfold SharesPost; rw [if_neg h]))
  have B1 : Has (w.alloc (.cells #[.int .i64 a.length, .slice A1 m1 c1, .int .i64 b.length, .slice A2 m2 c2, .int .i64 c.length, .slice A3 m3 c3] 34)) w.heap.size 34 #[.int .i64 a.length, .slice A1 m1 c1, .int .i64 b.length, .slice A2 m2 c2, .int .i64 c.length, .slice A3 m3 c3] := Has.new _ _ _
  have O1 : Only (fun _ => False) w (w.alloc (.cells #[.int .i64 a.length, .slice A1 m1 c1, .int .i64 b.length, .slice A2 m2 c2, .int .i64 c.length, .slice A3 m3 c3] 34)) := (Only.refl _ _).alloc _
  generalize hW : (w.alloc (.cells #[.int .i64 a.length, .slice A1 m1 c1, .int .i64 b.length, .slice A2 m2 c2, .int .i64 c.length, .slice A3 m3 c3] 34)) = W1 at B1 O1
  have HW := Lib.hid hW
  have HS1 := Lib.hid (show W1.heap.size = w.heap.size + 1 by rw [← hW]; simp)
  clear hW
  go_enter Try.func13, Try.ntmps13
  go_upto_region 1 with fail
  rw [HW.out]
  obtain ⟨p0, p1, p2, p3, p4, p5, _⟩ := Has.facts6 B1
  go_wp2_with fail
  refine (HLA.out _ O1).mono ?_; rintro e w2 ⟨rfl, o2⟩
  have B2 := o2.has B1 (fun f => f)
  have O2 := O1.trans o2
  have S2 := Lib.hid o2.size
  clear o2 B1
  obtain ⟨p0, p1, p2, p3, p4, p5, _⟩ := Has.facts6 B2
  go_upto_region 2 with fail
  go_cut [28] (fun s W => s = .bool (!decide (sharesOk ⟨a, b, c⟩)) ∧ Has W w.heap.size 34 #[.int .i64 a.length, .slice A1 m1 c1, .int .i64 b.length, .slice A2 m2 c2, .int .i64 c.length, .slice A3 m3 c3] ∧ Only (fun _ => False) w W)
  case first =>
    go_wp2_with fail
    refine (HLB.out _ O2).mono ?_; rintro e w3 ⟨rfl, o3⟩
    have B3 := o3.has B2 (fun f => f)
    have O3 := O2.trans o3
    clear o3 B2
    obtain ⟨p0, p1, p2, p3, p4, p5, _⟩ := Has.facts6 B3
    have HB3 := Lib.hid B3
    clear B3
    by_cases hb : b.length = a.length
    rotate_left
    · have hne : ((b.length : Int) != (a.length : Int)) = true := by
        have : (b.length : Int) ≠ (a.length : Int) := by omega
        simpa using this
      have HR := Lib.hid (show (!decide (sharesOk ⟨a, b, c⟩)) = true by simp [sharesOk, hb])
      clear hb
      go_wp2_with fail
      go_meet
      exact ⟨by rw [HR.out], HB3.out, O3⟩
    · have heq : ((b.length : Int) != (a.length : Int)) = false := by rw [hb]; simp
      have HBE := Lib.hid hb
      clear hb
      go_wp2_with fail
      refine (HLC.out _ O3).mono ?_; rintro e w4 ⟨rfl, o4⟩
      have B4 := o4.has HB3.out (fun f => f)
      have O4 := O3.trans o4
      obtain ⟨p0, p1, p2, p3, p4, p5, _⟩ := Has.facts6 B4
      have HB4 := Lib.hid B4
      clear B4 o4
      by_cases hc : c.length = a.length
      · have heqc : ((c.length : Int) != (a.length : Int)) = false := by rw [hc]; simp
        have HR := Lib.hid (show (!decide (sharesOk ⟨a, b, c⟩)) = false by have := HBE.out; simp [sharesOk, hc, this])
        clear hc
        go_wp2_with fail
        go_meet
        exact ⟨by rw [HR.out], HB4.out, O4⟩
      · have hnec : ((c.length : Int) != (a.length : Int)) = true := by
          have : (c.length : Int) ≠ (a.length : Int) := by omega
          simpa using this
        have HCN := Lib.hid hc
        clear hc
        go_wp2_with fail
        refine (HLC.out _ O4).mono ?_; rintro e w5 ⟨rfl, o5⟩
        have B5 := o5.has HB4.out (fun f => f)
        have O5 := O4.trans o5
        have HB5 := Lib.hid B5
        clear B5 o5
        by_cases hc0 : c.length = 0
        · have heqc0 : ((c.length : Int) != 0) = false := by rw [hc0]; rfl
          have HR := Lib.hid (show (!decide (sharesOk ⟨a, b, c⟩)) = false by have := HBE.out; simp [sharesOk, hc0, this])
          clear hc0
          go_wp2_with fail
          go_meet
          exact ⟨by rw [HR.out], HB5.out, O5⟩
        · have hnec0 : ((c.length : Int) != 0) = true := by
            have : (c.length : Int) ≠ 0 := by omega
            simpa using this
          have HR := Lib.hid (show (!decide (sharesOk ⟨a, b, c⟩)) = true by have h0 := HCN.out; rw [decide_eq_false (show ¬ sharesOk ⟨a, b, c⟩ by rintro ⟨_, h1 | h1⟩ <;> simp only at h1 <;> omega)]; rfl)
          clear hc0
          go_wp2_with fail
          go_meet
          exact ⟨by rw [HR.out], HB5.out, O5⟩
  case rest =>
  obtain ⟨rfl, B6, O6⟩ := hcut
  clear O2 B2 p0 p1 p2 p3 p4 p5
  by_cases hok : sharesOk ⟨a, b, c⟩
  rotate_left
  · have HOK := Lib.hid hok
    rw [decide_eq_false hok]
    clear hok
    go_wp2_with fail
    go_ret2
    exact ⟨HBAD.out _ HOK.out, O6⟩
  rw [decide_eq_true hok]
  have HOK := Lib.hid hok
  clear hok HBAD
  have HB6 := Lib.hid B6
  clear B6
  have hla := LA.out
  go_wp2_with (at_make; refine wpList_make_own _ rfl _ _ 40 rfl (w.heap.size + 1) 45 i0 (.agg #[.slice none 0 0, .slice none 0 0, .slice none 0 0]) 3 Try.underlying40 hi hz0 hz1 .i64 .i64 _ a.length rfl rfl rfl (by rw [hz2]; omega) (by unfold maxLen; omega) (by have h1 := O6.size; have h2 := HB6.out.lt; omega) ?_; intro w7 hown7 hg7; have O7 := Lib.hid (Only.grown O6 hg7 (fun k e _ => by cases e)); have B7 := Lib.hid (show Has w7 w.heap.size 34 #[.int .i64 a.length, .slice A1 m1 c1, .int .i64 b.length, .slice A2 m2 c2, .int .i64 c.length, .slice A3 m3 c3] from Eq.trans (hg7.block _ HB6.out.lt (fun e => by cases e)) HB6.out); clear hg7)
  go_loopw [5, 32] (fun u i W => ∃ (k : Nat) (u0 : Value) (xs : List Value), k ≤ a.length ∧ i = .int .i64 k ∧ u0 = u ∧ W.ownsRow (w.heap.size + 1) 45 3 u0 k xs ∧ Hid (∀ j, j < k → WordsAt W xs j ⟨a, b, c⟩) ∧ Hid (Has W w.heap.size 34 #[.int .i64 a.length, .slice A1 m1 c1, .int .i64 b.length, .slice A2 m2 c2, .int .i64 c.length, .slice A3 m3 c3]) ∧ Only (fun _ => False) w W) (fun _ i _ => a.length - (intOf i).toNat)
  case atStart => exact ⟨0, _, _, by omega, rfl, rfl, hown7, Lib.hid (fun j hj => absurd hj (Nat.not_lt_zero j)), B7, O7.out⟩
  case round =>
    obtain ⟨k, u, xs, hk, rfl, rfl, hown, hall, hB, ho⟩ := hrel
    have hk' : k < a.length ∨ k = a.length := by omega
    rcases hk' with hlt | heq
    · have hki : (k : Int) < (a.length : Int) := by omega
      have hltb : k < b.length := by have h := HOK.out; unfold sharesOk at h; simp only at h; omega
      have HLTB := Lib.hid hltb
      have HLT := Lib.hid hlt
      have HOWN := Lib.hid hown
      have HO := Lib.hid ho
      clear hown hltb ho
      go_wp2_with fail
      go_cut [7] (fun s W => ∃ n1 ga gb : Nat, s = .pointer (some ⟨n1, 0, none⟩) ∧ wr.heap.size ≤ n1 ∧ Has W n1 45 #[.slice (some ⟨ga, 0, none⟩) 1 1, .slice (some ⟨gb, 0, none⟩) 1 1, .slice none 0 0] ∧ Wd W ga (lf a k) ∧ Wd W gb (lf b k) ∧ Only (fun _ => False) wr W)
      case first =>
        have HNE : (34 : TypeId) ≠ 45 := by decide
        have hB0 := hB.out
        have hBr := hB.out.drew
        have HOR := HO.out
        have HOD := HO.out.drew
        have ORR0 := Only.refl (fun _ => False) wr
        have ORD := (Only.refl (fun _ => False) wr).drew
        go_region_held3 (fun W => (W.cell? ⟨w.heap.size, 0, none⟩ = some (.int .i64 a.length) ∧ W.cell? ⟨w.heap.size, 1, none⟩ = some (.slice A1 m1 c1) ∧ W.cell? ⟨w.heap.size, 2, none⟩ = some (.int .i64 b.length) ∧ W.cell? ⟨w.heap.size, 3, none⟩ = some (.slice A2 m2 c2))) (first | with_reducible exact pf6 hBr | with_reducible exact pf6 (Has.drew (Has.alloc hB0 _)) | with_reducible exact pf6 Ba | with_reducible exact pf6 (Has.alloc Ba _) | with_reducible exact pf6 Bb | with_reducible exact pf6 (Has.alloc Bb _) | with_reducible exact pf6 (Has.off3 Bb (has_ne Bb Zb HNE) _ _ _) | with_reducible exact pf6 (Has.off3 Bb (has_ne Bb Zc HNE) _ _ _)) (first
          | (go_at_call 31; (with_reducible refine (HWA.out _ k (by first | with_reducible exact HOD | with_reducible exact (Only.alloc HOR _).drew) HLT.out).mono ?_); rintro e wa ⟨⟨ga, rfl, hga, Ga⟩, oa⟩; have Oa : Only (fun _ => False) wr wa := Only.trans (by first | with_reducible exact ORD | with_reducible exact (Only.alloc ORR0 _).drew) oa; have Ba : Has wa w.heap.size 34 _ := Only.has oa (by first | with_reducible exact hBr | with_reducible exact (Has.alloc hB0 _).drew) (fun f => f); first | (have Za : Has wa wr.heap.size 45 #[.slice none 0 0, .slice none 0 0, .slice none 0 0] := Only.has oa (by with_reducible exact (Has.new _ _ _).drew) (fun f => f); obtain ⟨z0, z1, z2, zf⟩ := Has.facts3 Za) | skip)
          | (go_at_call 31; (with_reducible refine (HWB.out _ k (by exact Only.trans HO.out (by first | exact Oa | exact Oa.alloc _)) HLTB.out).mono ?_); rintro e wb ⟨⟨gb, rfl, hgb, Gb⟩, ob⟩; have Ob : Only (fun _ => False) wr wb := Only.trans (by first | exact Oa | exact Oa.alloc _) ob; have Bb : Has wb w.heap.size 34 _ := Only.has ob (by first | with_reducible exact Ba | with_reducible exact Has.alloc Ba _) (fun f => f); have Gab : Has wb ga 70 #[.int .u64 (bitN (lf a k))] := Only.has ob (by first | with_reducible exact Ga | with_reducible exact Has.alloc Ga _) (fun f => f); first | (have Zb : Has wb wr.heap.size 45 #[.slice none 0 0, .slice none 0 0, .slice none 0 0] := Only.has ob Za (fun f => f); obtain ⟨z0, z1, z2, zf⟩ := Has.facts3 Zb) | (have Zc : Has wb wa.heap.size 45 #[.slice none 0 0, .slice none 0 0, .slice none 0 0] := Only.has ob (Has.new _ _ _) (fun f => f); obtain ⟨z0, z1, z2, zf⟩ := Has.facts3 Zc) | skip))
        all_goals
          go_wp2_with fail
          go_meet
          first
            | exact ⟨wr.heap.size, ga, gb, rfl, Nat.le_refl _, Has.put3 Zb rfl _ _ _, Gab.off3 (has_ne Gab Zb (by decide)) _ _ _, Gb.off3 (has_ne Gb Zb (by decide)) _ _ _, Ob.then_ (Only.put3 _ wr.heap.size (.slice (some ⟨ga, 0, none⟩) 1 1) (.slice (some ⟨gb, 0, none⟩) 1 1) (.slice none 0 0)) (fun i hi e => absurd hi (by have : i = wr.heap.size := e; omega))⟩
            | exact ⟨wa.heap.size, ga, gb, rfl, Oa.size, Has.put3 Zc rfl _ _ _, Gab.off3 (has_ne Gab Zc (by decide)) _ _ _, Gb.off3 (has_ne Gb Zc (by decide)) _ _ _, Ob.then_ (Only.put3 _ wa.heap.size (.slice (some ⟨ga, 0, none⟩) 1 1) (.slice (some ⟨gb, 0, none⟩) 1 1) (.slice none 0 0)) (fun i hi e => absurd hi (by have : i = wa.heap.size := e; have := Oa.size; omega))⟩
            | exact ⟨wb.heap.size, ga, gb, rfl, Ob.size, Has.new _ _ _, Gab.alloc _, Gb.alloc _, Ob.alloc _⟩
      case rest =>
      obtain ⟨n1, ga, gb, rfl, hn1, Z8, Ga8, Gb8, O8⟩ := hcut
      have B8 : Has wc w.heap.size 34 #[.int .i64 a.length, .slice A1 m1 c1, .int .i64 b.length, .slice A2 m2 c2, .int .i64 c.length, .slice A3 m3 c3] := O8.has hB.out (fun f => f)
      have OWN8 := Lib.hid (O8.own HOWN.out (fun _ _ f => f))
      have ALL8 := Lib.hid (fun j hj => (hall.out j hj).inner O8)
      have HO8 := Lib.hid (HO.out.trans O8)
      obtain ⟨p0, p1, p2, p3, p4, p5, _⟩ := Has.facts6 B8
      have HGa8 := Lib.hid Ga8
      have HGb8 := Lib.hid Gb8
      have HZ8 := Lib.hid Z8
      have HB8 := Lib.hid B8
      clear Z8 Ga8 Gb8 B8 O8
      go_wp2_with fail
      refine (HLC.out _ HO8.out).mono ?_; rintro e w9 ⟨rfl, o9⟩
      have OWN9 := Lib.hid (o9.own OWN8.out (fun _ _ f => f))
      have ALL9 := Lib.hid (fun j hj => (ALL8.out j hj).inner o9)
      have HO9 := Lib.hid (HO8.out.trans o9)
      have HGa9 := Lib.hid (o9.has HGa8.out (fun f => f))
      have HGb9 := Lib.hid (o9.has HGb8.out (fun f => f))
      have HZ9 := Lib.hid (o9.has HZ8.out (fun f => f))
      have HB9 := Lib.hid (o9.has HB8.out (fun f => f))
      obtain ⟨p0, p1, p2, p3, p4, p5, _⟩ := Has.facts6 HB9.out
      obtain ⟨z0, z1, z2, zf⟩ := Has.facts3 HZ9.out
      clear OWN8 ALL8 HO8 HGa8 HGb8 HZ8 HB8 o9
      by_cases hc0 : c.length = 0
      · have HT9 : Hid (∀ o, Third (w9.alloc o) c.length k c (.slice none 0 0)) := Lib.hid (fun o => .inl ⟨hc0, rfl⟩)
        have hcI : ¬ (0 : Int) < (c.length : Int) := by omega
        clear hc0
        have FSZ := Lib.hid HB9.out.lt
        go_wp2_with (at_builtin; go_must ((refine wpList_append_own_at _ rfl _ _ 40 rfl (w.heap.size + 1) 45 i0 (.agg #[.slice none 0 0, .slice none 0 0, .slice none 0 0]) 3 72 Try.underlying40 hi hz0 hz1 hz2 rfl (by decide) u k xs ?hs0 (OWN9.out.alloc _) ⟨w9.heap.size, 0, none⟩ 1 1 [.slice (some ⟨ga, 0, none⟩) 1 1, .slice (some ⟨gb, 0, none⟩) 1 1, .slice none 0 0] ?hx0 rfl (cell_three_at _ _ _ _ _ _ (by simp)) ?c20 ?c30 ?c40 ?c50 ?_); (case hs0 => rfl); (case hx0 => rfl); (case c20 => intro y hy; rcases List.mem_cons.1 hy with rfl | hy; rfl; rcases List.mem_cons.1 hy with rfl | hy; rfl; obtain rfl := List.mem_singleton.1 hy; rfl); (case c30 => unfold maxLen; omega); (case c40 => have := LA.out; omega); (case c50 => have h1 := FSZ.out; simp; omega); intro v1 wz ho1 hg1 _ _; (have HA1 := Lib.hid (words_snoc (OWN9.out.alloc _) hg1 (fun j hj => (ALL9.out j hj).inner ((Only.refl _ _).alloc _)) (Has.alloc HGa9.out _) (Has.alloc HGb9.out _) (HT9.out _))); (have HB1 := Lib.hid (has_keep (HB9.out.alloc _) (OWN9.out.alloc _) (by decide) hg1)); (have HO1 := Lib.hid (Only.grown (HO9.out.alloc _) hg1 (fun j e hj => absurd hj (by have := own_ge2 HOWN.out e; omega)))); clear hg1))
        go_roundw
        case rel => exact ⟨k + 1, v1, _, by omega, by go_num, rfl, ho1, HA1, HB1, HO1.out⟩
        case measure => simp only [intOf]; omega
      · have hcI : (0 : Int) < (c.length : Int) := by omega
        have hkc : k < c.length := by have h := HOK.out; unfold sharesOk at h; simp only at h; have := HLT.out; omega
        have HC0 := Lib.hid hc0
        have HKC := Lib.hid hkc
        clear hc0 hkc
        go_wp2_with fail
        refine (HWC.out _ k HO9.out HKC.out).mono ?_; rintro e w10 ⟨⟨gc, rfl, hgc, Gc⟩, o10⟩
        have Z10 := o10.has HZ9.out (fun f => f)
        have hp : Only (· = n1) w10 (w10.setCell ⟨n1, 2, none⟩ (.slice (some ⟨gc, 0, none⟩) 1 1)) := (Only.refl _ _).setCell ⟨n1, 2, none⟩ _ (fun _ => rfl)
        have Ga10 := o10.has HGa9.out (fun f => f)
        have Gb10 := o10.has HGb9.out (fun f => f)
        have B10 := o10.has HB9.out (fun f => f)
        have OWN10 := Lib.hid (hp.own (o10.own OWN9.out (fun _ _ f => f)) (fun q e h => by have h : q = n1 := h; have h2 := (HOWN.out.lt q e).2; omega))
        have FSZ := Lib.hid B10.lt
        have FGA := Lib.hid (hp.has Ga10 (has_ne Ga10 Z10 (by decide)))
        have FGB := Lib.hid (hp.has Gb10 (has_ne Gb10 Z10 (by decide)))
        have FGC := Lib.hid (hp.has Gc (has_ne Gc Z10 (by decide)))
        have FB := Lib.hid (hp.has B10 (has_ne B10 Z10 (by decide)))
        have hws := wr.heap.size
        have FO := Lib.hid ((HO9.out.trans o10).then_ hp (fun i hi e => absurd hi (by have e : i = n1 := e; have := HO.out.size; omega)))
        have FALL := Lib.hid (fun j hj => ((ALL9.out j hj).inner o10).put Z10 hp)
        have FT : Hid (∀ o, Third ((w10.setCell ⟨n1, 2, none⟩ (.slice (some ⟨gc, 0, none⟩) 1 1)).alloc o) c.length k c (.slice (some ⟨gc, 0, none⟩) 1 1)) := Lib.hid (fun o => .inr ⟨HC0.out, gc, rfl, FGC.out.alloc o⟩)
        obtain ⟨z0, z1, z2, zf⟩ := Has.facts3 Z10
        clear hp Ga10 Gb10 B10 Gc Z10 o10
        go_wp2_with (at_builtin; go_must ((refine wpList_append_own_at _ rfl _ _ 40 rfl (w.heap.size + 1) 45 i0 (.agg #[.slice none 0 0, .slice none 0 0, .slice none 0 0]) 3 72 Try.underlying40 hi hz0 hz1 hz2 rfl (by decide) u k xs ?hs0 (OWN10.out.alloc _) ⟨w10.heap.size, 0, none⟩ 1 1 [.slice (some ⟨ga, 0, none⟩) 1 1, .slice (some ⟨gb, 0, none⟩) 1 1, .slice (some ⟨gc, 0, none⟩) 1 1] ?hx0 rfl (cell_three_at _ _ _ _ _ _ (by simp)) ?c20 ?c30 ?c40 ?c50 ?_); (case hs0 => rfl); (case hx0 => rfl); (case c20 => intro y hy; rcases List.mem_cons.1 hy with rfl | hy; rfl; rcases List.mem_cons.1 hy with rfl | hy; rfl; obtain rfl := List.mem_singleton.1 hy; rfl); (case c30 => unfold maxLen; omega); (case c40 => have := LA.out; omega); (case c50 => have h1 := FSZ.out; simp; omega); intro v1 wz ho1 hg1 _ _; (have HA1 := Lib.hid (words_snoc (OWN10.out.alloc _) hg1 (fun j hj => (FALL.out j hj).inner ((Only.refl _ _).alloc _)) (Has.alloc FGA.out _) (Has.alloc FGB.out _) (FT.out _))); (have HB1 := Lib.hid (has_keep (FB.out.alloc _) (OWN10.out.alloc _) (by decide) hg1)); (have HO1 := Lib.hid (Only.grown (FO.out.alloc _) hg1 (fun j e hj => absurd hj (by have := own_ge2 HOWN.out e; omega)))); clear hg1))
        go_roundw
        case rel => exact ⟨k + 1, v1, _, by omega, by go_num, rfl, ho1, HA1, HB1, HO1.out⟩
        case measure => simp only [intOf]; omega
    · obtain ⟨A, cc, rfl, hr⟩ := own_reads3 hown
      have HR3 := Lib.hid hr
      subst heq
      have hki : ¬ (a.length : Int) < (a.length : Int) := by omega
      clear hown hr
      go_wp2_with fail
      go_ret2
      refine ⟨HP.out _ _ ?_, ho⟩
      unfold SharesPost
      rw [if_pos HOK.out]
      exact ⟨A, cc, xs, rfl, HR3.out, hall.out⟩
end Go.Proofs.Ythkgjhjfgoglhaa
