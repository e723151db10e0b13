/- shape.Get from the reader's beginning. -/
import Derived.Test.YtbajgbjpaliecaaRu
import Derived.Test.YtbajgbjpaliecaaSc
set_option linter.unusedSimpArgs false
set_option linter.unusedVariables false
namespace Go.Proofs.Ytbajgbjpaliecaa
open Go.RowKit

theorem clg_facts {w : World} {b : Nat} {kind bits m k n : Int} (h : Has w b 25 #[.int .i64 kind, .int .i64 bits, .int .i64 m, .int .i64 k, .int .i64 n]) : w.cell? ⟨b, 0, none⟩ = some (.int .i64 kind) ∧ w.cell? ⟨b, 1, none⟩ = some (.int .i64 bits) ∧ w.cell? ⟨b, 2, none⟩ = some (.int .i64 m) ∧ w.cell? ⟨b, 3, none⟩ = some (.int .i64 k) ∧ w.cell? ⟨b, 4, none⟩ = some (.int .i64 n) := ⟨h.cell 0, h.cell 1, h.cell 2, h.cell 3, h.cell 4⟩
abbrev CAtg (w : World) (b : Nat) (kind bits m k n : Int) : Prop := Has w b 25 #[.int .i64 kind, .int .i64 bits, .int .i64 m, .int .i64 k, .int .i64 n]
def clF : ByteArray := ⟨#[99, 108, 97, 115, 115]⟩
def zc : Cl := ⟨0, 0, 0, 0, 0⟩
/-- The reader behind i bytes. -/
def stR (s : ByteArray) (i : Nat) : Rs8 := if i ≤ s.size then ⟨i, none⟩ else ⟨s.size, some ([wireName, clF], 12)⟩
def nv (s : ByteArray) (i : Nat) : Int := if i < s.size then num s i 1 else 0
theorem step_r (s : ByteArray) (i : Nat) : Rs8.number (stR s i) s clF 1 = (stR s (i + 1), nv s i) := by
  unfold stR nv
  by_cases h : i + 1 ≤ s.size
  · rw [if_pos (by omega), if_pos h, if_pos (by omega), num_ok (by omega)]
  · by_cases h2 : i ≤ s.size
    · obtain rfl : i = s.size := by omega
      rw [if_pos (Nat.le_refl _), if_neg h, if_neg (by omega), num_short (by omega)]
    · rw [if_neg h2, if_neg h, if_neg (by omega), num_had]
theorem nv_range (s : ByteArray) (i : Nat) : 0 ≤ nv s i ∧ nv s i ≤ 255 := by
  have := number_bound (stR s i) s clF 1
  rw [step_r] at this
  have h2 : (256 : Int) ^ 1 = 256 := by decide
  omega
def rawC (s : ByteArray) : Cl := ⟨nv s 0, nv s 1, nv s 2, nv s 3, nv s 4⟩
def getC (s : ByteArray) : Cl × Rs8 :=
  if s.size < 5 then (zc, ⟨s.size, some ([wireName, clF], 12)⟩)
  else if (rawC s).check = 0 then (rawC s, ⟨5, none⟩) else (zc, ⟨5, some ([wireName, clF], (rawC s).check)⟩)

theorem res_get {W : World} {b : Nat} {x0 x1 x2 x3 x4 : Value} {tm : Array Value} (h : Has W b 25 #[x0, x1, x2, x3, x4]) (h8 : tm.getD 4 undef = .pointer (some ⟨b, 0, none⟩)) :
    (results Try.f52 tm).run Try.prog W = .ok (.agg #[x0, x1, x2, x3, x4]) W := by
  obtain ⟨c0, c1, c2, c3, c4, _⟩ := h.facts5
  simp only [Array.getD_eq_getD_getElem?] at h8
  simp [results, Try.results52, go_sem, h8, c0, c1, c2, c3, c4]

set_option maxRecDepth 100000 in
set_option maxHeartbeats 8000000 in
theorem get_any (w : World) (p : Nat) (s : ByteArray) (hs : s.size ≤ 140737488351232) (h : RS w p s ⟨0, none⟩) : Calls Try.prog 52 #[.pointer (some ⟨p, 0, none⟩), .string clF] w fun x w' =>
    x = .returned (.agg (getC s).1.cells) ∧ RS w' p s (getC s).2 ∧ Only (· = p) w w' := by
  have hpl : p < w.heap.size := by obtain ⟨e, h1, _⟩ := h; exact Has.lt h1
  have hst0 : stR s 0 = ⟨0, none⟩ := by unfold stR; rw [if_pos (Nat.zero_le _)]
  rw [← hst0] at h
  have HU : ∀ i W, RS W p s (stR s i) → Calls Try.prog 33 #[.pointer (some ⟨p, 0, none⟩), .string clF] W fun x w' => x = .returned (.int .u8 (nv s i)) ∧ RS w' p s (stR s (i + 1)) ∧ Only (· = p) W w' := fun i W h => by
    have := ru8_any W p s clF (stR s i) hs h
    rwa [step_r] at this
  have HE := fun W h => errs_any W p s (stR s 5) h
  have HF := fun W c hc h => fail_any W p s clF (stR s 5) c hc h
  have HX := fun W => scheck_any W (rawC s)
  simp only [rawC, Cl.cells] at HX
  have HG : s.size < 5 ∧ getC s = (zc, stR s 5) ∧ (stR s 5).err = some ([wireName, clF], 12) ∨ (stR s 5).err = none ∧ ((Cl.check ⟨nv s 0, nv s 1, nv s 2, nv s 3, nv s 4⟩ = 0 ∧ getC s = (⟨nv s 0, nv s 1, nv s 2, nv s 3, nv s 4⟩, stR s 5)) ∨ (Cl.check ⟨nv s 0, nv s 1, nv s 2, nv s 3, nv s 4⟩ ≠ 0 ∧ getC s = (zc, (stR s 5).fail clF (Cl.check ⟨nv s 0, nv s 1, nv s 2, nv s 3, nv s 4⟩)))) := by
    unfold getC stR
    by_cases h5 : s.size < 5
    · left
      rw [if_pos h5, if_neg (by omega)]
      exact ⟨h5, rfl, rfl⟩
    · right
      rw [if_neg h5, if_pos (by omega)]
      refine ⟨rfl, ?_⟩
      by_cases hc : (rawC s).check = 0
      · exact .inl ⟨hc, by rw [if_pos hc]; rfl⟩
      · exact .inr ⟨hc, by rw [if_neg hc]; rfl⟩
  obtain ⟨a0, b0⟩ := nv_range s 0
  obtain ⟨a1, b1⟩ := nv_range s 1
  obtain ⟨a2, b2⟩ := nv_range s 2
  obtain ⟨a3, b3⟩ := nv_range s 3
  obtain ⟨a4, b4⟩ := nv_range s 4
  have H0 := Lib.hid (HU 0)
  have H1 := Lib.hid (HU 1)
  have H2 := Lib.hid (HU 2)
  have H3 := Lib.hid (HU 3)
  have H4 := Lib.hid (HU 4)
  clear HU hst0
  generalize nv s 0 = n0 at *
  generalize nv s 1 = n1 at *
  generalize nv s 2 = n2 at *
  generalize nv s 3 = n3 at *
  generalize nv s 4 = n4 at *
  simp only [Nat.zero_add, Nat.reduceAdd] at H0 H1 H2 H3 H4
  generalize Cl.check ⟨n0, n1, n2, n3, n4⟩ = x at *
  generalize getC s = G at *
  replace HE := Lib.hid HE
  replace HF := Lib.hid HF
  replace HX := Lib.hid HX
  have HGG := Lib.hid HG
  have HRS := Lib.hid h
  clear HG h
  have O0 : Only (· = p) w (w.alloc (.cells #[.int .i64 0, .int .i64 0, .int .i64 0, .int .i64 0, .int .i64 0] 25)) := (Only.refl _ _).alloc _
  have R0 : CAtg (w.alloc (.cells #[.int .i64 0, .int .i64 0, .int .i64 0, .int .i64 0, .int .i64 0] 25)) w.heap.size 0 0 0 0 0 := Has.new _ _ _
  have hne : ¬ w.heap.size = p := by omega
  go_enter Try.func52, Try.ntmps52
  go_wp2_with fail
  refine (H0.out _ (HRS.out.inner ((Only.refl _ _).alloc _))).mono ?_; rintro e w1 ⟨rfl, S1, o1⟩
  have R1 := o1.has R0 hne
  have O1 := O0.trans o1
  go_wp2_with fail
  refine (H1.out _ S1).mono ?_; rintro e w2 ⟨rfl, S2, o2⟩
  have R2 := o2.has R1 hne
  have O2 := O1.trans o2
  go_wp2_with fail
  refine (H2.out _ S2).mono ?_; rintro e w3 ⟨rfl, S3, o3⟩
  have R3 := o3.has R2 hne
  have O3 := O2.trans o3
  go_wp2_with fail
  refine (H3.out _ S3).mono ?_; rintro e w4 ⟨rfl, S4, o4⟩
  have R4 := o4.has R3 hne
  have O4 := O3.trans o4
  go_wp2_with fail
  refine (H4.out _ S4).mono ?_; rintro e w5 ⟨rfl, S5, o5⟩
  have R5 : CAtg (w5.alloc (.cells #[.int .i64 n0, .int .i64 n1, .int .i64 n2, .int .i64 n3, .int .i64 n4] 25)) w.heap.size 0 0 0 0 0 := (o5.has R4 hne).alloc _
  have O5 := (O4.trans o5).alloc (.cells #[.int .i64 n0, .int .i64 n1, .int .i64 n2, .int .i64 n3, .int .i64 n4] 25)
  have C5 : CAtg (w5.alloc (.cells #[.int .i64 n0, .int .i64 n1, .int .i64 n2, .int .i64 n3, .int .i64 n4] 25)) w5.heap.size n0 n1 n2 n3 n4 := Has.new _ _ _
  have S5' := S5.inner ((Only.refl (fun _ => False) w5).alloc (.cells #[.int .i64 n0, .int .i64 n1, .int .i64 n2, .int .i64 n3, .int .i64 n4] 25))
  clear S1 S2 S3 S4 S5 o1 o2 o3 o4 o5 R0 R1 R2 R3 R4 O0 O1 O2 O3 O4
  have HS5 := Lib.hid S5'
  clear S5'
  go_wp2_with fail
  refine (HE.out _ HS5.out).mono ?_; rintro e w6 ⟨rfl, hee⟩
  rcases HGG.out with ⟨hsz, hg, her⟩ | ⟨her, hcc⟩
  · rcases hee with ⟨h1, _⟩ | ⟨y, b, h1, rfl, _⟩
    · rw [her] at h1; cases h1
    have HG := Lib.hid hg
    clear hg her h1 hsz
    simp only [ev]
    obtain ⟨z0, z1, z2, z3, z4, zf⟩ := Has.facts5 R5
    go_wp2_with fail
    refine bodyPost_ret (v := .agg #[.int .i64 0, .int .i64 0, .int .i64 0, .int .i64 0, .int .i64 0]) ?hr rfl ?hp
    case hr => exact res_get (b := w.heap.size) (Has.put5 R5 rfl _ _ _ _ _) rfl
    case hp =>
      rw [HG.out]
      refine ⟨rfl, HS5.out.only (Only.put5 _ w.heap.size (.int .i64 0) (.int .i64 0) (.int .i64 0) (.int .i64 0) (.int .i64 0)) (fun e => hne e.symm) (fun k cs hk e => by obtain rfl : k = w.heap.size := e; exact absurd rfl (hk.apart R5 (by decide))), ?_⟩
      exact O5.then_ (Only.put5 _ w.heap.size (.int .i64 0) (.int .i64 0) (.int .i64 0) (.int .i64 0) (.int .i64 0)) (fun i hi e => absurd hi (by have : i = w.heap.size := e; omega))
  · rcases hee with ⟨_, rfl⟩ | ⟨y, b, h1, _⟩
    rotate_left
    · rw [her] at h1; cases h1
    have c0 : (w5.alloc (.cells #[.int .i64 n0, .int .i64 n1, .int .i64 n2, .int .i64 n3, .int .i64 n4] 25)).cell? ⟨w5.heap.size, 0, none⟩ = some (.int .i64 n0) := C5.cell 0
    have c1 : (w5.alloc (.cells #[.int .i64 n0, .int .i64 n1, .int .i64 n2, .int .i64 n3, .int .i64 n4] 25)).cell? ⟨w5.heap.size, 1, none⟩ = some (.int .i64 n1) := C5.cell 1
    have c2 : (w5.alloc (.cells #[.int .i64 n0, .int .i64 n1, .int .i64 n2, .int .i64 n3, .int .i64 n4] 25)).cell? ⟨w5.heap.size, 2, none⟩ = some (.int .i64 n2) := C5.cell 2
    have c3 : (w5.alloc (.cells #[.int .i64 n0, .int .i64 n1, .int .i64 n2, .int .i64 n3, .int .i64 n4] 25)).cell? ⟨w5.heap.size, 3, none⟩ = some (.int .i64 n3) := C5.cell 3
    have c4 : (w5.alloc (.cells #[.int .i64 n0, .int .i64 n1, .int .i64 n2, .int .i64 n3, .int .i64 n4] 25)).cell? ⟨w5.heap.size, 4, none⟩ = some (.int .i64 n4) := C5.cell 4
    go_wp2_with fail
    refine (HX.out _).mono ?_; rintro e w6 ⟨rfl, o6⟩
    have R6 := o6.has R5 (fun f => f)
    have C6 := o6.has C5 (fun f => f)
    have HS6 := Lib.hid (HS5.out.inner o6)
    have O6 : Only (· = p) w w6 := O5.then_ o6 (fun _ _ f => f.elim)
    clear c0 c1 c2 c3 c4
    have c0 : w6.cell? ⟨w5.heap.size, 0, none⟩ = some (.int .i64 n0) := C6.cell 0
    have c1 : w6.cell? ⟨w5.heap.size, 1, none⟩ = some (.int .i64 n1) := C6.cell 1
    have c2 : w6.cell? ⟨w5.heap.size, 2, none⟩ = some (.int .i64 n2) := C6.cell 2
    have c3 : w6.cell? ⟨w5.heap.size, 3, none⟩ = some (.int .i64 n3) := C6.cell 3
    have c4 : w6.cell? ⟨w5.heap.size, 4, none⟩ = some (.int .i64 n4) := C6.cell 4
    rcases hcc with ⟨hx, hg⟩ | ⟨hx, hg⟩
    · subst hx
      have HG := Lib.hid hg
      clear hg her
      obtain ⟨z0, z1, z2, z3, z4, zf⟩ := Has.facts5 R6
      go_wp2_with fail
      refine bodyPost_ret (v := .agg #[.int .i64 n0, .int .i64 n1, .int .i64 n2, .int .i64 n3, .int .i64 n4]) ?hr rfl ?hp
      case hr => exact res_get (b := w.heap.size) (Has.put5 R6 rfl _ _ _ _ _) rfl
      case hp =>
        rw [HG.out]
        refine ⟨rfl, HS6.out.only (Only.put5 _ w.heap.size (.int .i64 n0) (.int .i64 n1) (.int .i64 n2) (.int .i64 n3) (.int .i64 n4)) (fun e => hne e.symm) (fun k cs hk e => by obtain rfl : k = w.heap.size := e; exact absurd rfl (hk.apart R6 (by decide))), ?_⟩
        exact O6.then_ (Only.put5 _ w.heap.size (.int .i64 n0) (.int .i64 n1) (.int .i64 n2) (.int .i64 n3) (.int .i64 n4)) (fun i hi e => absurd hi (by have : i = w.heap.size := e; omega))
    · have HG := Lib.hid hg
      have hx' : (x != 0) = true := by simpa using hx
      have HXN := Lib.hid hx
      clear hg her hx
      go_wp2_with fail
      refine (HF.out _ _ HXN.out HS6.out).mono ?_; rintro e w7 ⟨rfl, S7, o7⟩
      have R7 := o7.has R6 hne
      have HS7 := Lib.hid S7
      have O7 := O6.trans o7
      clear c0 c1 c2 c3 c4 S7
      obtain ⟨z0, z1, z2, z3, z4, zf⟩ := Has.facts5 R7
      go_wp2_with fail
      refine bodyPost_ret (v := .agg #[.int .i64 0, .int .i64 0, .int .i64 0, .int .i64 0, .int .i64 0]) ?hr rfl ?hp
      case hr => exact res_get (b := w.heap.size) (Has.put5 R7 rfl _ _ _ _ _) rfl
      case hp =>
        rw [HG.out]
        refine ⟨rfl, HS7.out.only (Only.put5 _ w.heap.size (.int .i64 0) (.int .i64 0) (.int .i64 0) (.int .i64 0) (.int .i64 0)) (fun e => hne e.symm) (fun k cs hk e => by obtain rfl : k = w.heap.size := e; exact absurd rfl (hk.apart R7 (by decide))), ?_⟩
        exact O7.then_ (Only.put5 _ w.heap.size (.int .i64 0) (.int .i64 0) (.int .i64 0) (.int .i64 0) (.int .i64 0)) (fun i hi e => absurd hi (by have : i = w.heap.size := e; omega))
end Go.Proofs.Ytbajgbjpaliecaa
