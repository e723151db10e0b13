/- The law MsgLengths walked. -/
import Derived.Test.YtbajgbjpaliecaaMt
import Derived.Test.YtbajgbjpaliecaaMv
import Derived.Test.YtbajgbjpaliecaaMx
import Derived.Test.YtbajgbjpaliecaaMb
import Derived.Test.YtbajgbjpaliecaaMl
import Derived.Deep.AppendLies
import Derived.Deep.RegionLaw
set_option linter.unusedSimpArgs false
set_option linter.unnecessarySimpa false
set_option linter.unusedVariables false
namespace Go.Proofs.Ytbajgbjpaliecaa
open Go.RowKit

theorem Has.farSeg {g b : Nat} {t : TypeId} {cs : Array Value} (hp : g ≠ b) : ∀ (o : Nat) (l : List Value) {w : World}, Has w g t cs → Has (w.setCells b o l) g t cs
  | _, [], _, h => h
  | o, v :: r, w, h => Has.farSeg hp (o + 1) r (h.far (p := ⟨b, o, none⟩) hp v)
theorem Try.info_u64u : (Try.prog.info? 23).map (fun i => (i.zero, i.size, i.bytes)) = some (some (.int .u64 0), 1, 8) := by kernel_rfl
theorem own_ge3 {w : World} {base : Nat} {e : TypeId} {size n : Nat} {v : Value} {xs : List Value} (h : w.ownsRow base e size v n xs) {k : Nat} (q : v.ownBlock = some k) : base ≤ k := by
  rcases h.2 with ⟨rfl, _⟩ | ⟨g, cap, cur, rfl, hb, _⟩
  · cases q
  · cases q; exact hb
theorem own_own {w : World} {b1 b2 s1 s2 n1 n2 : Nat} {e1 e2 : TypeId} {v1 v2 : Value} {x1 x2 : List Value} (h1 : w.ownsRow b1 e1 s1 v1 n1 x1) (h2 : w.ownsRow b2 e2 s2 v2 n2 x2) (hne : e1 ≠ e2) : v1.ownBlock = none ∨ v1.ownBlock ≠ v2.ownBlock := by
  rcases h1.2 with ⟨rfl, _⟩ | ⟨g, cap, cur, rfl, _, hh, _⟩
  · exact .inl rfl
  · rcases h2.2 with ⟨rfl, _⟩ | ⟨g2, cap2, cur2, rfl, _, hh2, _⟩
    · exact .inr (by simp [Value.ownBlock])
    · refine .inr fun e => hne ?_
      obtain rfl : g = g2 := by simpa [Value.ownBlock] using e
      have := Option.some.inj (hh.symm.trans hh2)
      injection this with _ ht _
theorem own_slu {w : World} {base n : Nat} {v : Value} {l : List Int} (h : w.ownsRow base 23 1 v n (l.map (Value.int .u64))) (hl : l.length = n) : SlU w v l := by
  subst hl
  rcases h.2 with ⟨rfl, h2⟩ | ⟨g, cap, cur, rfl, _⟩
  · refine ⟨none, 0, by rw [h2], fun i hi => by omega⟩
  · refine ⟨some ⟨g, 0, none⟩, cap, rfl, fun i hi => ⟨_, rfl, h.cells (g := g) rfl i _ (by simp [List.getElem?_eq_getElem hi])⟩⟩
/-- Cells of three read as the shares, the last one first. -/
def Turned (w : World) (ss : List Sh) (k : Nat) (xs : List Value) : Prop := ∀ i, i < k → ∃ va vb vc, xs[i * 3]? = some va ∧ xs[i * 3 + 1]? = some vb ∧ xs[i * 3 + 2]? = some vc ∧ ∃ h : i < ss.reverse.length, ShU w va vb vc ss.reverse[i]
theorem Turned.snoc {w : World} {ss : List Sh} {k : Nat} {xs : List Value} (h : Turned w ss k xs) (hl : xs.length = k * 3) {va vb vc : Value} (hk : k < ss.length) (hs : ShU w va vb vc ss[ss.length - 1 - k]) : Turned w ss (k + 1) (xs ++ [va, vb, vc]) := by
  intro i hi
  by_cases e : i = k
  · subst e
    refine ⟨va, vb, vc, ?_, ?_, ?_, by simpa using hk, ?_⟩
    · rw [List.getElem?_append_right (by omega), show i * 3 - xs.length = 0 by omega]; rfl
    · rw [List.getElem?_append_right (by omega), show i * 3 + 1 - xs.length = 1 by omega]; rfl
    · rw [List.getElem?_append_right (by omega), show i * 3 + 2 - xs.length = 2 by omega]; rfl
    · rw [List.getElem_reverse]; exact hs
  · obtain ⟨a, b, c, h1, h2, h3, h4⟩ := h i (by omega)
    exact ⟨a, b, c, by rw [List.getElem?_append_left (by omega)]; exact h1, by rw [List.getElem?_append_left (by omega)]; exact h2, by rw [List.getElem?_append_left (by omega)]; exact h3, h4⟩
theorem own_slsh {w W : World} {base : Nat} {v : Value} {ss : List Sh} {xs : List Value} (h : W.ownsRow base 51 3 v ss.length xs) (ht : Turned w ss ss.length xs) (o : Only (fun _ => False) w W) : SlSh W v ss.reverse := by
  rcases h.2 with ⟨rfl, h2⟩ | ⟨g, cap, cur, rfl, _⟩
  · refine ⟨none, 0, by rw [List.length_reverse, h2], fun i hi => by rw [List.length_reverse] at hi; omega⟩
  · refine ⟨some ⟨g, 0, none⟩, cap, by rw [List.length_reverse], fun i hi => ?_⟩
    obtain ⟨a, b, c, h1, h2, h3, h4, h5⟩ := ht i (by simpa using hi)
    exact ⟨_, a, b, c, rfl, h.cells (g := g) rfl _ _ h1, h.cells (g := g) rfl _ _ h2, h.cells (g := g) rfl _ _ h3, h5.only o⟩
theorem Try.info_share : (Try.prog.info? 51).map (fun i => (i.zero, i.size, i.bytes)) = some (some (.agg #[.slice none 0 0, .slice none 0 0, .slice none 0 0]), 3, 72) := by kernel_rfl
theorem cell_three_new' (w : World) (x y z : Value) (t : TypeId) : ∀ j u, [x, y, z][j]? = some u → (w.alloc (.cells #[x, y, z] t)).cell? ((⟨w.heap.size, 0, none⟩ : Addr).add j) = some u := by
  intro j u hj
  match j, hj with
  | 0, hj => simp at hj; subst hj; simp [Addr.add]
  | 1, hj => simp at hj; subst hj; simp [Addr.add]
  | 2, hj => simp at hj; subst hj; simp [Addr.add]
/-- What Encode answers, as far as the law asks. -/
def EncR (m : Mg) (e : Ending) : Prop := ∃ (z : ByteArray) (v : Value), e = .returned (.tuple #[.string z, v]) ∧ ((v = .nilIface ∧ m.check = 0 ∧ z.size = m.body.length + 1) ∨ ∃ b, v = .iface 84 (.pointer (some ⟨b, 0, none⟩)))
theorem encode_r (w : World) (m : Mg) (vw vs : Value) (h : MgAt w m vw vs) : Calls Try.prog 14 #[.agg (m.cells vw vs).toArray] w fun e w' => EncR m e ∧ Only (fun _ => False) w w' := by
  by_cases hc : m.check = 0
  · refine (encode_ok w m vw vs h (short_of h.shares) hc).mono ?_
    rintro e w' ⟨rfl, o⟩
    exact ⟨⟨_, _, rfl, .inl ⟨rfl, hc, by simp [strOfNums, ByteArray.size]⟩⟩, o⟩
  · refine (encode_bad10 w m vw vs h (short_of h.shares) hc).mono ?_
    rintro e w' ⟨⟨b, b2, rfl, _, _⟩, o⟩
    exact ⟨⟨_, _, rfl, .inr ⟨b, rfl⟩⟩, o⟩
set_option maxRecDepth 100000 in
set_option maxHeartbeats 4000000 in
theorem lengths_law (w : World) (m : Mg) (vw vs : Value) (d : List Int) (x : Int) (h : MgAt w m vw vs) (hz : m.Sz) (hd : d.length = 32) (hdb : ∀ x ∈ d, 0 ≤ x ∧ x ≤ 255) (hx0 : 0 ≤ x) (hx1 : x ≤ 18446744073709551615) :
    Calls Try.prog 4 #[.agg (m.cells vw vs).toArray, .agg (u8s d).toArray, .int .u64 x] w fun e w' => e = .returned (.bool true) ∧ Only (fun _ => False) w w' := by
  obtain ⟨Aw, cw, rfl, -⟩ := h.words
  obtain ⟨As, cs, rfl, -⟩ := h.shares
  generalize hvw : Value.slice Aw m.words.length cw = vw at *
  generalize hvs : Value.slice As m.shares.length cs = vs at *
  have HVW := Lib.hid hvw
  have HVS := Lib.hid hvs
  clear hvw hvs
  have hsz : (m.cells vw vs).toArray.size = 82 := by simpa using Mg.cells_length h.ok vw vs
  generalize hW : ((w.alloc (.cells (m.cells vw vs).toArray 32)).alloc (.cells (u8s d).toArray 28)) = W2
  have B2 : Has W2 w.heap.size 32 (m.cells vw vs).toArray := by rw [← hW]; exact (Has.new _ _ _).alloc _
  have D2 : Has W2 (w.heap.size + 1) 28 (u8s d).toArray := by
    rw [← hW]
    have := Has.new (w.alloc (.cells (m.cells vw vs).toArray 32)) 28 (u8s d).toArray
    rwa [show (w.alloc (.cells (m.cells vw vs).toArray 32)).heap.size = w.heap.size + 1 by simp] at this
  have O2 : Only (fun _ => False) w W2 := by rw [← hW]; exact ((Only.refl _ _).alloc _).alloc _
  have HW := Lib.hid hW
  have HSM := Lib.hid (fun W (o : Only (fun _ => False) w W) => small_any W m vw vs (h.only o) hz)
  have HOF := Lib.hid (fun W (o : Only (fun _ => False) w W) => of_any W m vw vs (h.only o))
  have HEN := Lib.hid (fun W (o : Only (fun _ => False) w W) => encode_r W m vw vs (h.only o))
  have HI := Lib.hid (show (Try.prog.info? 32).map (·.size) = some (m.cells vw vs).toArray.size by rw [rmsg_info, hsz])
  have HONE := Lib.hid (show ∀ v ∈ m.cells vw vs, v.oneCell' = true from by
    obtain ⟨A, c, rfl, -⟩ := h.words
    obtain ⟨B, e, rfl, -⟩ := h.shares
    have := one_cells h.ok (.slice A m.words.length c) (.slice B m.shares.length e) ⟨rfl, rfl⟩
    intro v hv
    simpa using (Array.all_eq_true_iff_forall_mem.1 this) v (by simpa using hv))
  clear hW
  go_enter Try.func4, Try.ntmps4
  go_upto_region 1 with fail
  rw [HW.out]
  go_wp2_with fail
  refine wp_load_box rfl rfl B2 Try.underlying32 HI.out ?_
  go_wp2_with fail
  refine (HSM.out _ O2).mono ?_; rintro e w3 ⟨⟨b, rfl, hb⟩, o3⟩
  have B3 := o3.has B2 (fun f => f)
  have D3 := o3.has D2 (fun f => f)
  have O3 := O2.trans o3
  cases b
  · go_wp2_with fail
    refine (awake10_any _).mono ?_; rintro e w4 ⟨rfl, o4⟩
    go_wp2_with fail
    go_ret
    exact ⟨rfl, O3.trans o4⟩
  · obtain ⟨hb1, hb2⟩ := hb rfl
    go_wp2_with fail
    refine wp_load_box rfl rfl B3 Try.underlying32 HI.out ?_
    go_wp2_with fail
    refine (HOF.out _ O3).mono ?_; rintro e w4 ⟨rfl, o4⟩
    have B4 := o4.has B3 (fun f => f)
    have D4 := o4.has D3 (fun f => f)
    have O4 := O3.trans o4
    go_wp2_with fail
    refine (HEN.out _ O4).mono ?_; rintro e w5 ⟨⟨z, v, rfl, hv⟩, o5⟩
    have B5 := o5.has B4 (fun f => f)
    have D5 := o5.has D4 (fun f => f)
    have O5 := O4.trans o5
    have HV := Lib.hid hv
    clear hv B2 B3 B4 D2 D3 D4 O2 O3 O4 o3 o4 o5
    go_wp2_with fail
    refine wp_load_box rfl rfl B5 Try.underlying32 HI.out ?_
    go_wp2_with fail
    have HTH := Lib.hid (fun (W : World) (n : Nat) (h : Has W n 32 Try.zeroCells32) => h.there 82 (by kernel_rfl))
    have N0 := Has.new w5 32 Try.zeroCells32
    have hst := run_storeCells_cells (P := Try.prog) w5.heap.size 0 (m.cells vw vs) 0 (w5.alloc (.cells Try.zeroCells32 32))
      (fun j hj => by have := (HTH.out _ _ N0 j (by rw [Mg.cells_length h.ok] at hj; exact hj)).1; simpa using this) (fun j hj => by have := (HTH.out _ _ N0 j (by rw [Mg.cells_length h.ok] at hj; exact hj)).2; simpa using this) HONE.out
    rw [hst]
    have N1 := N0.setAll (new := (m.cells vw vs).toArray) (by rw [hsz]; kernel_rfl)
    have O6 := Only.setCells (S := fun _ => False) (a := w) w5.heap.size (fun hh => by have := O5.size; omega) (m.cells vw vs) 0 (O5.alloc (.cells Try.zeroCells32 32))
    go_wp2_with fail
    have hlt : w.heap.size + 1 < w5.heap.size := D5.lt
    have HTT := Lib.hid (fun (W : World) (m' : List Value) (hm : Has W w5.heap.size 32 m'.toArray) => fun (o : Nat) (ho : o + 32 ≤ m'.length) => show W.there w5.heap.size o (u8s d).toArray.size from fun j hj => by
      have hj' : j < 32 := by simpa [u8s, hd] using hj
      exact ⟨by rw [hm.cell, Array.getElem?_eq_getElem (by simp; omega)]; rfl, hm.free _⟩)
    have HUS := Lib.hid (show (u8s d).toArray.size = 32 by simp [u8s, hd])
    have HDI := Lib.hid (show (Try.prog.info? 28).map (·.size) = some (u8s d).length by rw [show (u8s d).length = 32 by simp [u8s, hd]]; kernel_rfl)
    have HDO := Lib.hid (show (u8s d).toArray.all (·.oneCell') = true from all_oneCell_toArray (fun v hv => by simp only [u8s, List.mem_map] at hv; obtain ⟨x, -, rfl⟩ := hv; rfl))
    have DD := (Has.farSeg (b := w5.heap.size) (by omega) 0 (m.cells vw vs) (D5.alloc (.cells Try.zeroCells32 32))).drew
    refine wp_region_held_drew (S := fun W => Has W (w.heap.size + 1) 28 (u8s d).toArray) (by kernel_rfl) DD (fun hHeld => ?_)
    refine wpAnyH_take (i := 0) (oi := _) (v := _) rfl (by kernel_rfl) (by kernel_rfl) (by kernel_rfl) (fun _ _ _ h => h) (yieldsIf_load_mid (by rfl) 28 _ rfl (w.heap.size + 1) 0 rfl (u8s d) _ (fun W h => h.range 0 (u8s d) (fun j v hv => by simpa using hv)) Try.underlying28 rfl HDI.out) hHeld ?_
    try simp only [Act.put, List.getElem_toArray, List.getElem_cons_succ, List.getElem_cons_zero, List.setIfInBounds_toArray, List.set_cons_zero, List.set_cons_succ]
    refine wpAnyH_take (i := 1) (oi := _) (v := _) rfl (by kernel_rfl) (by kernel_rfl) (by kernel_rfl) (fun _ _ _ h => h) (yieldsIf_load_mid (by rfl) 28 _ rfl (w.heap.size + 1) 0 rfl (u8s d) _ (fun W h => h.range 0 (u8s d) (fun j v hv => by simpa using hv)) Try.underlying28 rfl HDI.out) hHeld ?_
    try simp only [Act.put, List.getElem_toArray, List.getElem_cons_succ, List.getElem_cons_zero, List.setIfInBounds_toArray, List.set_cons_zero, List.set_cons_succ]
    refine wpAnyH_take (i := 2) (oi := _) (v := ?_) rfl (by kernel_rfl) (by kernel_rfl) (by kernel_rfl) (fun _ _ _ h => h) (Or.inl ⟨by rfl, ?_⟩) hHeld ?_
    rotate_left
    · intro w hSw
      try dsimp only at hSw
      go_simp
      try with_reducible rfl
    try simp only [Act.put, List.getElem_toArray, List.getElem_cons_succ, List.getElem_cons_zero, List.setIfInBounds_toArray, List.set_cons_zero, List.set_cons_succ]
    refine wpAnyH_ready (rs := [3]) (by kernel_rfl) (by simp) ?_
    refine AllReadyH.cons (o := _) rfl (fun K hK => ?_) AllReadyH.nil
    refine wp_store_mid 28 _ _ rfl w5.heap.size 17 (u8s d).toArray rfl rfl (HTT.out _ _ N1.drew 17 (by rw [Mg.cells_length (by first | exact h.ok | exact ({ h.ok with dig := hd, xd := hdb } : Mg.Ok { m with dig := d }))]; decide)) (by rw [HUS.out]; kernel_rfl) HDO.out ?_
    refine hK.out _ _ (Has.farSeg (by omega) _ _ hHeld) (fun hNext => ?_)
    clear hK K hHeld
    have hHeld := hNext
    clear hNext
    try simp only [Act.put, List.getElem_toArray, List.getElem_cons_succ, List.getElem_cons_zero, List.setIfInBounds_toArray, List.set_cons_zero, List.set_cons_succ]
    refine wpAnyH_take (i := 4) (oi := _) (v := ?_) rfl (by kernel_rfl) (by kernel_rfl) (by kernel_rfl) (fun _ _ _ h => h) (Or.inl ⟨by rfl, ?_⟩) hHeld ?_
    rotate_left
    · intro w hSw
      try dsimp only at hSw
      go_simp
      try with_reducible rfl
    try simp only [Act.put, List.getElem_toArray, List.getElem_cons_succ, List.getElem_cons_zero, List.setIfInBounds_toArray, List.set_cons_zero, List.set_cons_succ]
    refine wpAnyH_ready (rs := [5]) (by kernel_rfl) (by simp) ?_
    refine AllReadyH.cons (o := _) rfl (fun K hK => ?_) AllReadyH.nil
    refine wp_store_mid 29 _ _ rfl w5.heap.size 49 (u8s d).toArray rfl rfl (HTT.out _ _ (N1.drew.setDig d (by rw [hd, h.ok.dig])) 49 (by rw [Mg.cells_length (by first | exact h.ok | exact ({ h.ok with dig := hd, xd := hdb } : Mg.Ok { m with dig := d }))]; decide)) (by rw [HUS.out]; kernel_rfl) HDO.out ?_
    refine hK.out _ _ (Has.farSeg (by omega) _ _ hHeld) (fun hNext => ?_)
    clear hK K hHeld
    have hHeld := hNext
    clear hNext
    try simp only [Act.put, List.getElem_toArray, List.getElem_cons_succ, List.getElem_cons_zero, List.setIfInBounds_toArray, List.set_cons_zero, List.set_cons_succ]
    refine wpAnyH_done (by kernel_rfl) ?_ _
    have OK1 : Mg.Ok { m with dig := d } := { h.ok with dig := hd, xd := hdb }
    have OK2 : Mg.Ok { m with dig := d, seed := d } := { OK1 with seed := hd, xs := hdb }
    have N5 := (N1.drew.setDig d (by rw [hd, h.ok.dig])).setSeed hd d (by show d.length = m.seed.length; rw [hd, h.ok.seed])
    have O7 := Only.setCells (S := fun _ => False) (a := w) w5.heap.size (fun hh => by have := O5.size; omega) (u8s d) 49 (Only.setCells w5.heap.size (fun hh => by have := O5.size; omega) (u8s d) 17 O6.drew)
    try simp only [List.toList_toArray]
    have hn5 : w.heap.size ≠ w5.heap.size := by omega
    have B7 := Has.farSeg (b := w5.heap.size) hn5 49 (u8s d) (Has.farSeg (b := w5.heap.size) hn5 17 (u8s d) (Has.farSeg (b := w5.heap.size) hn5 0 (m.cells vw vs) (B5.alloc (.cells Try.zeroCells32 32))).drew)
    clear hHeld DD N1 N0 O6 hst D5 B5 O5 HSM HOF HTH
    generalize hnb : w5.heap.size = nb at *
    generalize hW6 : (((((w5.alloc (.cells Try.zeroCells32 32)).setCells nb 0 (m.cells vw vs)).drew).setCells nb 17 (u8s d)).setCells nb 49 (u8s d)) = w6 at N5 O7 B7 ⊢
    clear hW6
    have c16 : w6.cell? ⟨nb, 16, none⟩ = some vw := by rw [N5.cell]; rfl
    have z16 : w6.frozen? ⟨nb, 16, none⟩ = false := N5.free 16
    have N6 := (N5.setWords (.slice none 0 0)).setShares OK2 (.slice none 0 0)
    have c81 : w6.cell? ⟨nb, 81, none⟩ = some vs := by
      rw [N5.cell, Array.getElem?_eq_getElem (by simp [Mg.cells_length OK2])]
      have := OK2.dig; have := OK2.seed
      simp [Mg.cells, Mg.head, u8s, *]
    have z81 : w6.frozen? ⟨nb, 81, none⟩ = false := N5.free 81
    have hne : w.heap.size ≠ nb := by omega
    have hnlt : w.heap.size < nb := by omega
    have B8 := (B7.far (p := ⟨nb, 16, none⟩) hne (.slice none 0 0)).far (p := ⟨nb, 81, none⟩) hne (.slice none 0 0)
    have O8 := (O7.setCell ⟨nb, 16, none⟩ (.slice none 0 0) (fun hh => by have hh : nb < w.heap.size := hh; omega)).setCell ⟨nb, 81, none⟩ (.slice none 0 0) (fun hh => by have hh : nb < w.heap.size := hh; omega)
    have hb8 : nb < ((w6.setCell ⟨nb, 16, none⟩ (.slice none 0 0)).setCell ⟨nb, 81, none⟩ (.slice none 0 0)).heap.size := N6.lt
    clear N5 O7 B7 OK1 HTT HUS HDI HDO HONE
    go_wp2_with fail
    clear c16 z16 c81 z81
    generalize (w6.setCell ⟨nb, 16, none⟩ (.slice none 0 0)).setCell ⟨nb, 81, none⟩ (.slice none 0 0) = w7 at N6 B8 O8 hb8 ⊢
    obtain ⟨P, hP⟩ : ∃ P : Int, P = 2 ^ m.width.toNat := ⟨_, rfl⟩
    have hP0 : 0 < P := by rw [hP]; exact Int.pow_pos (by decide)
    obtain ⟨X, hX⟩ : ∃ X, X = (if 1 ≤ m.width ∧ m.width < 64 then x % P else x) := ⟨_, rfl⟩
    have HX := Lib.hid hX
    have hX0 : 0 ≤ X := by
      rw [hX]
      split
      · exact Int.emod_nonneg _ (by omega)
      · exact hx0
    have hX1 : X ≤ 18446744073709551615 := by
      rw [hX]
      split
      · have h0 := Int.emod_nonneg x (b := P) (by omega)
        have h1 := Int.ediv_nonneg hx0 (show 0 ≤ P by omega)
        have h2 := Int.mul_ediv_add_emod x P
        have h3 := Int.mul_nonneg (show 0 ≤ P by omega) h1
        omega
      · exact hx1
    have HPE := Lib.hid hP
    have HP0 := Lib.hid hP0
    clear hP hP0
    clear hX
    have HWH := Lib.hid h.ok.width
    have HWL := Lib.hid h.ok.lw
    obtain ⟨i0, hi, hz0, hz1, hz2⟩ := info_parts Try.info_u64u
    have LW := Lib.hid (show m.words.length ≤ 20000 by omega)
    have LS := Lib.hid (show m.shares.length ≤ 30 by omega)
    clear hb1 hb2
    go_loopw [10, 11] (fun i _ W => ∃ (k : Nat) (u : Value), k ≤ m.words.length ∧ i = .int .i64 k ∧ Has W nb 32 (({ m with dig := d, seed := d } : Mg).cells u (.slice none 0 0)).toArray ∧ W.ownsRow w7.heap.size 23 1 u k (List.replicate k (.int .u64 X)) ∧ Has W w.heap.size 32 (m.cells vw vs).toArray ∧ Only (fun _ => False) w W ∧ w7.heap.size ≤ W.heap.size) (fun i _ _ => m.words.length - (intOf i).toNat)
    case atStart => exact ⟨0, _, by omega, rfl, N6, World.ownsRow_nil _ _ _ _, B8, O8, Nat.le_refl _⟩
    case round =>
      obtain ⟨k, u, hk, rfl, hN, hown, hB, hO, hbs⟩ := hrel
      have hp1 : u.ownBlock ≠ some nb := own_apart hown hN (by decide)
      have hp2 : u.ownBlock ≠ some w.heap.size := own_apart hown hB (by decide)
      have c16 : wr.cell? ⟨w.heap.size, 16, none⟩ = some vw := by rw [hB.cell]; rfl
      rw [← HVW.out] at c16
      have c15 : wr.cell? ⟨w.heap.size, 15, none⟩ = some (.int .u8 m.width) := by rw [hB.cell]; rfl
      have n16 : wr.cell? ⟨nb, 16, none⟩ = some u := by rw [hN.cell]; rfl
      have z16 : wr.frozen? ⟨nb, 16, none⟩ = false := hN.free 16
      obtain ⟨Au, cu, rfl⟩ := own_shape hown
      have HN := Lib.hid hN
      have HB := Lib.hid hB
      have HO := Lib.hid hO
      have HOWN := Lib.hid hown
      clear hN hB hO hown
      by_cases hlt : k < m.words.length
      · have hl20 := LW.out
        have hl0 : (0 : Int) ≤ m.width := HWH.out.1
        have hl1 : m.width ≤ 255 := HWH.out.2
        have hcase : (∃ y, Hid (y = X) ∧ Hid (y = x % P) ∧ 1 ≤ m.width ∧ m.width < 64) ∨ (Hid (x = X) ∧ (¬ 1 ≤ m.width ∨ (1 ≤ m.width ∧ ¬ m.width < 64))) := by
          have e := HX.out
          by_cases hwd : 1 ≤ m.width ∧ m.width < 64
          · rw [if_pos hwd] at e
            exact .inl ⟨x % P, Lib.hid e.symm, Lib.hid rfl, hwd⟩
          · rw [if_neg hwd] at e
            exact .inr ⟨Lib.hid e.symm, by omega⟩
        rcases hcase with ⟨y, HE, HY, hw1, hw2⟩ | ⟨HE, hw1 | ⟨hw1, hw2⟩⟩
        · have hwr : IntKind.u64.wrap (2 ^ m.width.toNat) = P := by
            rw [← HPE.out]
            have h1 : P ≤ 2 ^ 63 := by rw [HPE.out]; exact_mod_cast Nat.pow_le_pow_right (show 0 < 2 by decide) (show m.width.toNat ≤ 63 by omega)
            have := HP0.out
            rw [IntKind.wrap_u64]
            exact Int.emod_eq_of_lt (by omega) (by omega)
          have hpn : ¬ P = 0 := by have := HP0.out; omega
          go_upto_region 13 with fail
          rw [← HY.out]
          clear hwr hpn
          go_wp2_with (at_builtin; go_must (refine wpList_append_own_at _ rfl _ _ 26 rfl w7.heap.size 23 i0 (.int .u64 0) 1 8 Try.underlying26 hi hz0 hz1 hz2 rfl (by decide) _ k (List.replicate k (.int .u64 X)) ?hs (HOWN.out.alloc _) ⟨wr.heap.size, 0, none⟩ 1 1 [.int .u64 y] ?hx rfl (cell_one_new _ _ _) ?c2 ?c3 ?c4 ?c5 ?_); (case hs => rfl); (case hx => rfl); (case c2 => intro y hy; obtain rfl := List.mem_singleton.1 hy; rfl); (case c3 => unfold maxLen; omega); (case c4 => omega); (case c5 => simp; omega); intro v1 w1 ho1 hg1 _ hat1; obtain ⟨A1, d1, hv1⟩ := own_shape ho1; subst hv1; have HP1 := Lib.hid ((HN.out.alloc _).grown hg1 (Ne.symm hp1)); have HB1 := Lib.hid ((HB.out.alloc _).grown hg1 (Ne.symm hp2)); have n16 : w1.cell? ⟨nb, 16, none⟩ = some (.slice Au k cu) := (by rw [HP1.out.cell]; rfl); have z16 := HP1.out.free 16)
          go_roundw
          case rel =>
            have hv1 : (Value.slice A1 (k + 1) d1).ownBlock ≠ some nb := own_apart ho1 HP1.out (by decide)
            rw [HE.out] at ho1
            refine ⟨k + 1, .slice A1 (k + 1) d1, by omega, by go_num, HP1.out.setWords _, ?_, HB1.out.far (p := ⟨nb, 16, none⟩) hne _, ?_, ?_⟩
            · have ho2 := ownsRow_setCell_other ho1 (a := ⟨nb, 16, none⟩) hv1 (.slice A1 (k + 1) d1)
              rw [List.replicate_succ']
              exact ho2
            · exact Only.setCell (Only.grown (HO.out.alloc _) hg1 (fun q e hq => by have := own_ge3 HOWN.out e; omega)) _ _ (fun hh => by have hh : nb < w.heap.size := hh; omega)
            · have := hg1.size
              simp [World.setCell] at this ⊢
              omega
          case measure => simp [intOf]; omega
        · go_upto_region 13 with fail
          go_wp2_with (at_builtin; go_must (refine wpList_append_own_at _ rfl _ _ 26 rfl w7.heap.size 23 i0 (.int .u64 0) 1 8 Try.underlying26 hi hz0 hz1 hz2 rfl (by decide) _ k (List.replicate k (.int .u64 X)) ?hs (HOWN.out.alloc _) ⟨wr.heap.size, 0, none⟩ 1 1 [.int .u64 x] ?hx rfl (cell_one_new _ _ _) ?c2 ?c3 ?c4 ?c5 ?_); (case hs => rfl); (case hx => rfl); (case c2 => intro y hy; obtain rfl := List.mem_singleton.1 hy; rfl); (case c3 => unfold maxLen; omega); (case c4 => omega); (case c5 => simp; omega); intro v1 w1 ho1 hg1 _ hat1; obtain ⟨A1, d1, hv1⟩ := own_shape ho1; subst hv1; have HP1 := Lib.hid ((HN.out.alloc _).grown hg1 (Ne.symm hp1)); have HB1 := Lib.hid ((HB.out.alloc _).grown hg1 (Ne.symm hp2)); have n16 : w1.cell? ⟨nb, 16, none⟩ = some (.slice Au k cu) := (by rw [HP1.out.cell]; rfl); have z16 := HP1.out.free 16)
          go_roundw
          case rel =>
            have hv1 : (Value.slice A1 (k + 1) d1).ownBlock ≠ some nb := own_apart ho1 HP1.out (by decide)
            rw [HE.out] at ho1
            refine ⟨k + 1, .slice A1 (k + 1) d1, by omega, by go_num, HP1.out.setWords _, ?_, HB1.out.far (p := ⟨nb, 16, none⟩) hne _, ?_, ?_⟩
            · have ho2 := ownsRow_setCell_other ho1 (a := ⟨nb, 16, none⟩) hv1 (.slice A1 (k + 1) d1)
              rw [List.replicate_succ']
              exact ho2
            · exact Only.setCell (Only.grown (HO.out.alloc _) hg1 (fun q e hq => by have := own_ge3 HOWN.out e; omega)) _ _ (fun hh => by have hh : nb < w.heap.size := hh; omega)
            · have := hg1.size
              simp [World.setCell] at this ⊢
              omega
          case measure => simp [intOf]; omega
        · go_upto_region 13 with fail
          go_wp2_with (at_builtin; go_must (refine wpList_append_own_at _ rfl _ _ 26 rfl w7.heap.size 23 i0 (.int .u64 0) 1 8 Try.underlying26 hi hz0 hz1 hz2 rfl (by decide) _ k (List.replicate k (.int .u64 X)) ?hs (HOWN.out.alloc _) ⟨wr.heap.size, 0, none⟩ 1 1 [.int .u64 x] ?hx rfl (cell_one_new _ _ _) ?c2 ?c3 ?c4 ?c5 ?_); (case hs => rfl); (case hx => rfl); (case c2 => intro y hy; obtain rfl := List.mem_singleton.1 hy; rfl); (case c3 => unfold maxLen; omega); (case c4 => omega); (case c5 => simp; omega); intro v1 w1 ho1 hg1 _ hat1; obtain ⟨A1, d1, hv1⟩ := own_shape ho1; subst hv1; have HP1 := Lib.hid ((HN.out.alloc _).grown hg1 (Ne.symm hp1)); have HB1 := Lib.hid ((HB.out.alloc _).grown hg1 (Ne.symm hp2)); have n16 : w1.cell? ⟨nb, 16, none⟩ = some (.slice Au k cu) := (by rw [HP1.out.cell]; rfl); have z16 := HP1.out.free 16)
          go_roundw
          case rel =>
            have hv1 : (Value.slice A1 (k + 1) d1).ownBlock ≠ some nb := own_apart ho1 HP1.out (by decide)
            rw [HE.out] at ho1
            refine ⟨k + 1, .slice A1 (k + 1) d1, by omega, by go_num, HP1.out.setWords _, ?_, HB1.out.far (p := ⟨nb, 16, none⟩) hne _, ?_, ?_⟩
            · have ho2 := ownsRow_setCell_other ho1 (a := ⟨nb, 16, none⟩) hv1 (.slice A1 (k + 1) d1)
              rw [List.replicate_succ']
              exact ho2
            · exact Only.setCell (Only.grown (HO.out.alloc _) hg1 (fun q e hq => by have := own_ge3 HOWN.out e; omega)) _ _ (fun hh => by have hh : nb < w.heap.size := hh; omega)
            · have := hg1.size
              simp [World.setCell] at this ⊢
              omega
          case measure => simp [intOf]; omega
      · obtain rfl : k = m.words.length := by omega
        have hB81 : wr.cell? ⟨w.heap.size, 81, none⟩ = some vs := by
          rw [HB.out.cell, Array.getElem?_eq_getElem (by simp [Mg.cells_length h.ok])]
          have := h.ok.dig; have := h.ok.seed
          simp [Mg.cells, Mg.head, u8s, *]
        clear hB81
        have HSA := Lib.hid (show ∀ i, (hi : i < m.shares.length) → ∃ ad va vb vc, As = some ad ∧ w.cell? (ad.add (i * 3)) = some va ∧ w.cell? (ad.add (i * 3 + 1)) = some vb ∧ w.cell? (ad.add (i * 3 + 2)) = some vc ∧ ShU w va vb vc m.shares[i] from by
          obtain ⟨A, c, e, hA⟩ := h.shares
          rw [← HVS.out] at e
          injection e with e1 _ _
          rw [e1]
          exact hA)
        obtain ⟨i3, hi3, hy0, hy1, hy2⟩ := info_parts Try.info_share
        clear c15
        go_wp2_with fail
        go_loopw [12] (fun i W => ∃ (k : Nat) (us : Value) (xs : List Value), k ≤ m.shares.length ∧ i = .int .i64 k ∧ Has W nb 32 (({ m with dig := d, seed := d } : Mg).cells (.slice Au m.words.length cu) us).toArray ∧ W.ownsRow w7.heap.size 51 3 us k xs ∧ Turned w m.shares k xs ∧ W.ownsRow w7.heap.size 23 1 (.slice Au m.words.length cu) m.words.length (List.replicate m.words.length (.int .u64 X)) ∧ Has W w.heap.size 32 (m.cells vw vs).toArray ∧ Only (fun _ => False) w W ∧ w7.heap.size ≤ W.heap.size) (fun i _ => m.shares.length - (intOf i).toNat)
        case atStart => exact ⟨0, _, [], by omega, rfl, HN.out, World.ownsRow_nil _ _ _ _, (fun i hi => absurd hi (Nat.not_lt_zero i)), HOWN.out, HB.out, HO.out, hbs⟩
        case round =>
          obtain ⟨k, us, xs, hk, rfl, hN, hsh, htu, hwo, hB, hO, hbs2⟩ := hrel
          have hp1 : us.ownBlock ≠ some nb := own_apart hsh hN (by decide)
          have hp2 : us.ownBlock ≠ some w.heap.size := own_apart hsh hB (by decide)
          have hp3 : Value.ownBlock (.slice Au m.words.length cu) ≠ some nb := own_apart hwo hN (by decide)
          have c81 : wr.cell? ⟨w.heap.size, 81, none⟩ = some vs := by
            rw [hB.cell, Array.getElem?_eq_getElem (by simp [Mg.cells_length h.ok])]
            have := h.ok.dig; have := h.ok.seed
            simp [Mg.cells, Mg.head, u8s, *]
          rw [← HVS.out] at c81
          have n81 : wr.cell? ⟨nb, 81, none⟩ = some us := by
            rw [hN.cell, Array.getElem?_eq_getElem (by simp [Mg.cells_length OK2])]
            have := OK2.dig; have := OK2.seed
            simp [Mg.cells, Mg.head, u8s, *]
          have z81 : wr.frozen? ⟨nb, 81, none⟩ = false := hN.free 81
          obtain ⟨Au2, cu2, rfl⟩ := own_shape hsh
          have HN2 := Lib.hid hN
          have HB2 := Lib.hid hB
          have HO2 := Lib.hid hO
          have HSH2 := Lib.hid hsh
          have HWO2 := Lib.hid hwo
          have HTU := Lib.hid htu
          have hlx := Lib.hid hsh.1
          clear hN hB hO hsh hwo htu
          by_cases hlt2 : k < m.shares.length
          · have hl30 := LS.out
            obtain ⟨j, hj⟩ : ∃ j, j = m.shares.length - 1 - k := ⟨_, rfl⟩
            have hjl : j < m.shares.length := by omega
            obtain ⟨ad, va, vb, vc, hAs, y0, y1, y2, hshu⟩ := HSA.out j hjl
            subst hAs
            have b0 := HO2.out.cell y0 (fun f => f)
            have b1 := row_cell (by decide) (HO2.out.cell y1 (fun f => f))
            have b2 := row_cell (by decide) (HO2.out.cell y2 (fun f => f))
            have hshu2 : ShU w va vb vc m.shares[m.shares.length - 1 - k] := by subst hj; exact hshu
            have HT4 := Lib.hid (Turned.snoc HTU.out hlx.out hlt2 hshu2)
            clear hshu2
            obtain ⟨A1, e1, rfl, -⟩ := hshu.a
            obtain ⟨A2, e2, rfl, -⟩ := hshu.b
            obtain ⟨A3, e3, rfl, -⟩ := hshu.c
            have q1 : IntKind.i64.wrap ((m.shares.length : Int) - 1) = (m.shares.length : Int) - 1 := by rw [IntKind.wrap_i64]; omega
            have q2 : IntKind.i64.wrap (j : Int) = (j : Int) := by rw [IntKind.wrap_i64]; omega
            have q3 : (m.shares.length : Int) - 1 - (k : Int) = (j : Int) := by omega
            have HJ := Lib.hid hj
            have hj0 : (0 : Int) ≤ (j : Int) := by omega
            have hj1 : (j : Int) < (m.shares.length : Int) := by omega
            clear y0 y1 y2 hshu hj hp3 hp2
            have G81 : ∀ o, (wr.alloc o).cell? ⟨nb, 81, none⟩ = some (.slice Au2 k cu2) := fun o => by
              rw [(HN2.out.alloc o).cell, Array.getElem?_eq_getElem (by simp [Mg.cells_length OK2])]
              have := OK2.dig; have := OK2.seed
              simp [Mg.cells, Mg.head, u8s, *]
            go_upto_region 17 with fail
            go_region_law (refine step_append_lies _ (by rfl) _ _ 30 (by rfl) w7.heap.size 51 i3 (.agg #[.slice none 0 0, .slice none 0 0, .slice none 0 0]) 3 72 Try.underlying30 hi3 hy0 hy1 hy2 rfl (by decide) (.slice Au2 k cu2) k xs (by rfl) ((HSH2.out.alloc _).drew) ⟨wr.heap.size, 0, none⟩ 1 1 [.slice A1 _ e1, .slice A2 _ e2, .slice A3 _ e3] (by rfl) (by rfl) (cell_three_new' wr _ _ _ _) (by intro y hy; rcases List.mem_cons.1 hy with rfl | hy; rfl; rcases List.mem_cons.1 hy with rfl | hy; rfl; obtain rfl := List.mem_singleton.1 hy; rfl) (by omega) (by unfold maxLen; omega) (by omega) (by first | omega | (simp; omega) | simp) _ (by rfl) ?_; intro g4 cap4 w4 ho4 hg4 hat4 hlt4; have HA4 := Lib.hid (Has.grown ((HN2.out.alloc _).drew) hg4 (Ne.symm hp1)); have n81' : w4.cell? ⟨nb, 81, none⟩ = some (.slice Au2 k cu2) := (by
              rw [HA4.out.cell, Array.getElem?_eq_getElem (by simp [Mg.cells_length OK2])]
              have := OK2.dig; have := OK2.seed
              simp [Mg.cells, Mg.head, u8s, *]); have z81' := HA4.out.free 81; simp only [Act.put, List.getElem_toArray, List.getElem_cons_succ, List.getElem_cons_zero, List.setIfInBounds_toArray, List.set_cons_zero, List.set_cons_succ])
            all_goals
              have HV4 : Hid ((Value.slice (some ⟨g4, 0, none⟩) (k + 1) cap4).ownBlock ≠ some nb) := Lib.hid (own_apart ho4 HA4.out (by decide))
              have hwo4 := World.ownsRow.kept ((HWO2.out.alloc _).drew) hg4 (own_own HWO2.out HSH2.out (by decide))
              have HB4 := Lib.hid (Has.grown ((HB2.out.alloc _).drew) hg4 (fun e => by have := own_ge3 HSH2.out e.symm; omega))
              have HW4 := Lib.hid (ownsRow_setCell_other hwo4 (a := ⟨nb, 81, none⟩) (own_apart hwo4 HA4.out (by decide)) (.slice (some ⟨g4, 0, none⟩) (k + 1) cap4))
              have HS4 := Lib.hid (ownsRow_setCell_other ho4 (a := ⟨nb, 81, none⟩) HV4.out (.slice (some ⟨g4, 0, none⟩) (k + 1) cap4))
              have HO4 := Lib.hid (Only.setCell (Only.grown ((HO2.out.alloc _).drew) hg4 (fun q e hq => by have := own_ge3 HSH2.out e; omega)) ⟨nb, 81, none⟩ (.slice (some ⟨g4, 0, none⟩) (k + 1) cap4) (fun hh => by have hh : nb < w.heap.size := hh; omega))
              have HZ4 := Lib.hid (show w7.heap.size ≤ w4.heap.size by have := hg4.size; simp at this; omega)
              clear hwo4 ho4 hg4 hat4 hlt4 b0 b1 b2 q1 q2 q3
              go_wp2_with fail
              go_roundw
              case rel => exact ⟨k + 1, _, _, by omega, by go_num, HA4.out.setShares OK2 _, HS4.out, HT4.out, HW4.out, HB4.out.far (p := ⟨nb, 81, none⟩) hne _, HO4.out, by have := HZ4.out; simp [World.setCell]; omega⟩
              case measure => simp only [intOf]; omega
          · obtain rfl : k = m.shares.length := by omega
            have HUU := Lib.hid (show SlU wr (.slice Au m.words.length cu) (List.replicate m.words.length X) from own_slu (by rw [List.map_replicate]; exact HWO2.out) (by simp))
            have MG : MgAt wr (m.turn d (List.replicate m.words.length X)) (.slice Au m.words.length cu) (.slice Au2 m.shares.length cu2) :=
              ⟨{ OK2 with words := fun x hx => by obtain ⟨_, rfl⟩ := List.mem_replicate.1 hx; exact ⟨hX0, hX1⟩, lw := by simpa [Mg.turn] using HWL.out }, HUU.out, own_slsh HSH2.out HTU.out HO2.out⟩
            have HTL := Lib.hid (fun hc => turn_len (d := d) (ws := List.replicate m.words.length X) h.ok hd (by simp) hc)
            have HN3 : Has wr nb 32 ((m.turn d (List.replicate m.words.length X)).cells (.slice Au m.words.length cu) (.slice Au2 m.shares.length cu2)).toArray := HN2.out
            have HMG := Lib.hid MG
            generalize hmt : m.turn d (List.replicate m.words.length X) = mt at HTL HN3 HMG
            clear hmt MG
            have HI3 := Lib.hid (show (Try.prog.info? 32).map (·.size) = some (mt.cells (.slice Au m.words.length cu) (.slice Au2 m.shares.length cu2)).toArray.size by rw [rmsg_info, show (mt.cells (.slice Au m.words.length cu) (.slice Au2 m.shares.length cu2)).toArray.size = 82 by simpa using Mg.cells_length HMG.out.ok _ _])
            clear n81 z81 hp1 hp2 hp3
            go_upto_region 18 with fail
            go_wp2_with fail
            refine wp_load_box rfl rfl HN3 Try.underlying32 HI3.out ?_
            go_wp2_with fail
            refine (of_any _ mt _ _ HMG.out).mono ?_; rintro e wa ⟨rfl, oa⟩
            go_wp2_with fail
            refine (encode_r _ mt _ _ (HMG.out.only oa)).mono ?_; rintro e wb ⟨⟨z2, v2, rfl, hv2⟩, ob⟩
            have HOB := Lib.hid ((HO2.out.trans oa).trans ob)
            clear oa ob
            rcases HV.out with ⟨rfl, hc, hz⟩ | ⟨b, rfl⟩
            · rcases hv2 with ⟨rfl, hc2, hz2⟩ | ⟨b2, rfl⟩
              · have hzz : (z.size : Int) = (z2.size : Int) := by rw [hz, hz2, HTL.out hc]
                clear hz hz2 hc hc2
                go_wp2_with fail
                refine (awake10_any _).mono ?_; rintro e wc ⟨rfl, oc⟩
                go_wp2_with fail
                go_ret
                exact ⟨rfl, HOB.out.trans oc⟩
              · clear hz hc
                go_wp2_with fail
                refine (awake10_any _).mono ?_; rintro e wc ⟨rfl, oc⟩
                go_wp2_with fail
                go_ret
                exact ⟨rfl, HOB.out.trans oc⟩
            · clear hv2
              go_wp2_with fail
              refine (awake10_any _).mono ?_; rintro e wc ⟨rfl, oc⟩
              go_wp2_with fail
              go_ret
              exact ⟨rfl, HOB.out.trans oc⟩
end Go.Proofs.Ytbajgbjpaliecaa
