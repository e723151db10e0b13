/- A message: its cells, and what is wrong with it (plain); a message as an argument. -/
import Derived.Test.YtbajgbjpaliecaaSfl
import Derived.Test.YtbajgbjpaliecaaArg
import Derived.Deep.MidRow
import Derived.ChangeSlices
import Derived.OpenShut
set_option linter.unusedSimpArgs false
set_option linter.unusedVariables false
namespace Go.Proofs.Ytbajgbjpaliecaa
open Go.RowKit Go.ChangeShapes Go.WideShapes Go.Deep

/-- A message. -/
structure Mg where
  kind : Int
  batch : Int
  chunk : Int
  from_ : Int
  c : Cl
  count : Int
  opened : Int
  first : Int
  ticket : Int
  code : Int
  data : ByteArray
  width : Int
  words : List Int
  dig : List Int
  seed : List Int
  shares : List Sh
def u8s (l : List Int) : List Value := l.map (Value.int .u8)
def Mg.head (m : Mg) (vw : Value) (r : List Value) : List Value :=
  .int .i64 m.kind :: .int .u32 m.batch :: .int .u32 m.chunk :: .int .u64 m.from_ :: .int .i64 m.c.kind :: .int .i64 m.c.bits :: .int .i64 m.c.m :: .int .i64 m.c.k :: .int .i64 m.c.n ::
    .int .u32 m.count :: .int .u32 m.opened :: .int .u32 m.first :: .int .u32 m.ticket :: .int .u8 m.code :: .string m.data :: .int .u8 m.width :: vw :: r
def Mg.cells (m : Mg) (vw vs : Value) : List Value := m.head vw (u8s m.dig ++ (u8s m.seed ++ [vs]))
/-- A share's three lists, however long. -/
structure ShU (w : World) (va vb vc : Value) (s : Sh) : Prop where
  a : SlU w va s.a
  b : SlU w vb s.b
  c : SlU w vc s.c
  xa : ∀ x ∈ s.a, 0 ≤ x ∧ x ≤ 18446744073709551615
  xb : ∀ x ∈ s.b, 0 ≤ x ∧ x ≤ 18446744073709551615
  xc : ∀ x ∈ s.c, 0 ≤ x ∧ x ≤ 18446744073709551615
  la : s.a.length ≤ 9223372036854775807
  lb : s.b.length ≤ 9223372036854775807
  lc : s.c.length ≤ 9223372036854775807
theorem ShU.only {w w' : World} {va vb vc : Value} {s : Sh} (h : ShU w va vb vc s) (o : Only (fun _ => False) w w') : ShU w' va vb vc s := ⟨h.a.only o, h.b.only o, h.c.only o, h.xa, h.xb, h.xc, h.la, h.lb, h.lc⟩
/-- A slice of shares. -/
def SlSh (w : World) (v : Value) (ss : List Sh) : Prop := ∃ A c, v = .slice A ss.length c ∧ ∀ i, (h : i < ss.length) → ∃ ad va vb vc, A = some ad ∧ w.cell? (ad.add (i * 3)) = some va ∧ w.cell? (ad.add (i * 3 + 1)) = some vb ∧ w.cell? (ad.add (i * 3 + 2)) = some vc ∧ ShU w va vb vc ss[i]
theorem SlSh.only {w w' : World} {v : Value} {ss : List Sh} (h : SlSh w v ss) (o : Only (fun _ => False) w w') : SlSh w' v ss := by
  obtain ⟨A, c, e, hc⟩ := h
  exact ⟨A, c, e, fun i hi => by
    obtain ⟨ad, va, vb, vc, ha, x, y, z, hs⟩ := hc i hi
    exact ⟨ad, va, vb, vc, ha, o.cell x (fun f => f), o.cell y (fun f => f), o.cell z (fun f => f), hs.only o⟩⟩
structure Mg.Ok (m : Mg) : Prop where
  batch : 0 ≤ m.batch ∧ m.batch ≤ 4294967295
  chunk : 0 ≤ m.chunk ∧ m.chunk ≤ 4294967295
  from_ : 0 ≤ m.from_ ∧ m.from_ ≤ 18446744073709551615
  count : 0 ≤ m.count ∧ m.count ≤ 4294967295
  opened : 0 ≤ m.opened ∧ m.opened ≤ 4294967295
  first : 0 ≤ m.first ∧ m.first ≤ 4294967295
  ticket : 0 ≤ m.ticket ∧ m.ticket ≤ 4294967295
  code : 0 ≤ m.code ∧ m.code ≤ 255
  width : 0 ≤ m.width ∧ m.width ≤ 255
  data : m.data.size ≤ 9223372036854775807
  words : ∀ x ∈ m.words, 0 ≤ x ∧ x ≤ 18446744073709551615
  lw : m.words.length ≤ 9223372036854775807
  dig : m.dig.length = 32
  seed : m.seed.length = 32
  xd : ∀ x ∈ m.dig, 0 ≤ x ∧ x ≤ 255
  xs : ∀ x ∈ m.seed, 0 ≤ x ∧ x ≤ 255
structure MgAt (w : World) (m : Mg) (vw vs : Value) : Prop where
  ok : m.Ok
  words : SlU w vw m.words
  shares : SlSh w vs m.shares
theorem MgAt.only {w w' : World} {m : Mg} {vw vs : Value} (h : MgAt w m vw vs) (o : Only (fun _ => False) w w') : MgAt w' m vw vs := ⟨h.ok, h.words.only o, h.shares.only o⟩
theorem Mg.cells_length {m : Mg} (h : m.Ok) (vw vs : Value) : (m.cells vw vs).length = 82 := by
  simp [Mg.cells, Mg.head, u8s, h.dig, h.seed]

def colSize (n : Int) : Int := 128 * ((n + 7) / 8)
/-- What is wrong with a message. -/
def Mg.check (m : Mg) : Int :=
  if m.kind = 1 then if m.c.check ≠ 0 then m.c.check else if m.count < 1 ∨ 24 < m.count ∨ m.count < m.opened then 1 else 0
  else if m.kind = 2 then if m.count < 1 ∨ 512 < m.count then 2 else if (m.data.size : Int) ≠ colSize m.count then 11 else 0
  else if m.kind = 3 then if m.width < 1 ∨ 64 < m.width then 11 else if 3072 < m.words.length then 2 else if m.words.all (okW m.width.toNat) then 0 else 13
  else if m.kind = 6 then if m.c.check ≠ 0 then m.c.check else if 24 < m.shares.length then 2 else if m.shares.all m.c.fits then 0 else 11
  else if m.kind = 8 then m.c.check
  else if m.kind = 9 ∨ m.kind = 10 then if m.c.check ≠ 0 then m.c.check else if m.count < 1 ∨ 64 < m.count then 1 else 0
  else if m.kind = 4 ∨ m.kind = 5 ∨ m.kind = 7 ∨ m.kind = 11 ∨ m.kind = 12 ∨ m.kind = 13 then 0
  else 15

section
variable {H : Type} {enc : TypeId × Value → H} {w : World}
theorem open_wide {P : Program} {base : Nat} {spare : Nat → Bool} {held : Bool} {t : TypeId} {fs : Array Field} {r : Reach} {b0 : Nat} {v : Value} {d : DataW H} {p : List MemPlace} (hs : P.underlying t = some (.struct fs))
    (hv : Value.okWide P w r b0 t v) (h : DataW.Trod enc P w base spare held t v d p) :
    ∃ cs : List Value, v = .agg ⟨cs⟩ ∧ cs.length = P.cellsOf t ∧ ∀ (j : Nat) (f : Field), fs[j]? = some f → ∃ n y, DataW.trod enc P w base spare held n f.type ((cs.drop f.offset).take (P.cellsOf f.type)) = some y := by
  obtain ⟨cs, rfl, hsz⟩ := okWide_struct hs hv
  obtain ⟨l⟩ := cs
  refine ⟨l, rfl, by simpa using hsz, fun j f hj => ?_⟩
  obtain ⟨fuel, hf⟩ := h
  obtain ⟨xs, n', _, _, _, hxs, hg⟩ := DataW.trod_struct hs hf
  have h1 := hg j f hj
  simp only [Value.cells] at h1
  have hxl : j < xs.length := by rw [hxs]; exact (Array.getElem?_eq_some_iff.1 hj).1
  exact ⟨n', xs[j], by rw [h1, List.getElem?_eq_getElem hxl]⟩
theorem u8_of {n : Nat} {v : Value} {y : DataW H × List MemPlace} (h : DataW.trod enc Try.prog w 0 (fun _ => true) true n 5 [v] = some y) : ∃ x : Int, v = .int .u8 x ∧ 0 ≤ x ∧ x ≤ 255 := by
  obtain ⟨x, e, _, hw⟩ := DataW.trod_int Try.underlying5 h
  simp only [List.cons.injEq, and_true] at e
  have := bounds_u8 hw
  exact ⟨x, e, by omega, by omega⟩
theorem u32_of {n : Nat} {v : Value} {y : DataW H × List MemPlace} (h : DataW.trod enc Try.prog w 0 (fun _ => true) true n 22 [v] = some y) : ∃ x : Int, v = .int .u32 x ∧ 0 ≤ x ∧ x ≤ 4294967295 := by
  obtain ⟨x, e, _, hw⟩ := DataW.trod_int Try.underlying22 h
  simp only [List.cons.injEq, and_true] at e
  have := bounds_u32 hw
  exact ⟨x, e, by omega, by omega⟩
theorem u64_of {n : Nat} {v : Value} {y : DataW H × List MemPlace} (h : DataW.trod enc Try.prog w 0 (fun _ => true) true n 23 [v] = some y) : ∃ x : Int, v = .int .u64 x ∧ 0 ≤ x ∧ x ≤ 18446744073709551615 := by
  obtain ⟨x, e, _, hw⟩ := DataW.trod_int Try.underlying23 h
  simp only [List.cons.injEq, and_true] at e
  have := bounds_u64 hw
  exact ⟨x, e, by omega, by omega⟩
theorem int_of {n : Nat} {v : Value} {y : DataW H × List MemPlace} (h : DataW.trod enc Try.prog w 0 (fun _ => true) true n 3 [v] = some y) : ∃ x : Int, v = .int .i64 x := by
  obtain ⟨x, e, _, hw⟩ := DataW.trod_int Try.underlying3 h
  simp only [List.cons.injEq, and_true] at e
  exact ⟨x, e⟩
/-- An array of 32 bytes. -/
theorem bytes_of {n : Nat} {t : TypeId} {cs : List Value} {y : DataW H × List MemPlace} (ht : Try.prog.underlying t = some (.array 32 5)) (hk : Try.prog.cellsOf 5 = 1) (hl : cs.length = 32) (h : DataW.trod enc Try.prog w 0 (fun _ => true) true n t cs = some y) :
    ∃ l : List Int, cs = u8s l ∧ l.length = 32 ∧ ∀ x ∈ l, 0 ≤ x ∧ x ≤ 255 := by
  obtain ⟨xs, m, _, _, _, hxs, hg⟩ := DataW.trod_array ht h
  have hp : ∀ i, i < 32 → ∃ x : Int, cs[i]? = some (.int .u8 x) ∧ 0 ≤ x ∧ x ≤ 255 := by
    intro i hi
    have h1 := hg i hi
    rw [hk, Nat.mul_one] at h1
    have hic : i < cs.length := by omega
    rw [List.drop_eq_getElem_cons hic, List.take_succ_cons, List.take_zero, List.getElem?_eq_getElem (show i < xs.length by omega)] at h1
    obtain ⟨x, e, hx⟩ := u8_of h1
    exact ⟨x, by rw [List.getElem?_eq_getElem hic, e], hx⟩
  obtain ⟨l, hl2, hp2⟩ := listOf 32 hp
  refine ⟨l, ?_, hl2, ?_⟩
  · apply List.ext_getElem?
    intro i
    by_cases hi : i < 32
    · rw [(hp2 i hi).1]
      simp [u8s, List.getD_eq_getElem?_getD, List.getElem?_eq_getElem (show i < l.length by omega)]
    · rw [List.getElem?_eq_none (by omega), List.getElem?_eq_none (by simp [u8s]; omega)]
  · intro x hx
    obtain ⟨i, hi, rfl⟩ := List.getElem_of_mem hx
    have := (hp2 i (by omega)).2
    rw [List.getD_eq_getElem?_getD, List.getElem?_eq_getElem hi] at this
    exact this
instance : Inhabited Sh := ⟨⟨[], [], []⟩⟩
theorem shs_of {n : Nat} {v : Value} {y : DataW H × List MemPlace} (h : DataW.trod enc Try.prog w 0 (fun _ => true) true n 30 [v] = some y) : ∃ ss : List Sh, SlSh w v ss := by
  obtain ⟨A, len, cap, rfl⟩ : ∃ A len cap, v = .slice A len cap := by
    rcases DataW.trod_slice Try.underlying30 h with ⟨e, _⟩ | ⟨a, len, cap, _, _, _, _, e, _⟩
    · simp only [List.cons.injEq, and_true] at e; exact ⟨_, _, _, e⟩
    · simp only [List.cons.injEq, and_true] at e; exact ⟨_, _, _, e⟩
  obtain ⟨_, _, hr⟩ := open_rows (enc := enc) (w := w) (base := 0) (spare := fun _ => true) (held := true) (A := A) (len := len) (cap := cap) (d := y.1) (p := y.2) Try.underlying30 Try.underlying51 (by kernel_rfl) (by kernel_rfl) ⟨n, h⟩
  have hp : ∀ i, i < len → ∃ s : Sh, ∃ ad va vb vc, A = some ad ∧ w.cell? (ad.add (i * 3)) = some va ∧ w.cell? (ad.add (i * 3 + 1)) = some vb ∧ w.cell? (ad.add (i * 3 + 2)) = some vc ∧ ShU w va vb vc s := by
    intro i hi
    obtain ⟨ad, rfl, cs, hcl, hc, hf⟩ := hr i hi
    have hcl : cs.length = 3 := hcl
    match cs, hcl with
    | [v0, v1, v2], _ =>
      obtain ⟨n0, y0, t0⟩ := hf 0 _ v0 rfl rfl
      obtain ⟨n1, y1, t1⟩ := hf 1 _ v1 rfl rfl
      obtain ⟨n2, y2, t2⟩ := hf 2 _ v2 rfl rfl
      obtain ⟨l0, s0, x0, m0⟩ := slu_of t0
      obtain ⟨l1, s1, x1, m1⟩ := slu_of t1
      obtain ⟨l2, s2, x2, m2⟩ := slu_of t2
      exact ⟨⟨l0, l1, l2⟩, ad, v0, v1, v2, rfl, hc 0 v0 rfl, hc 1 v1 rfl, hc 2 v2 rfl, s0, s1, s2, x0, x1, x2, m0, m1, m2⟩
  obtain ⟨ss, hl, hs⟩ := listOf len hp
  subst hl
  refine ⟨ss, A, cap, rfl, fun i hi => ?_⟩
  have := hs i hi
  rw [List.getD_eq_getElem?_getD, List.getElem?_eq_getElem hi] at this
  exact this
end
section
variable {H : Type} {enc : TypeId × Value → H} {w : World}
theorem field_k {t : TypeId} {k o : Nat} {cs : List Value} (hk : Try.prog.cellsOf t = k) (h : ∃ n y, DataW.trod enc Try.prog w 0 (fun _ => true) true n t ((cs.drop o).take (Try.prog.cellsOf t)) = some y) : ∃ n y, DataW.trod enc Try.prog w 0 (fun _ => true) true n t ((cs.drop o).take k) = some y := by
  rw [hk] at h
  exact h
theorem field_x {t : TypeId} {k o m : Nat} {cs : List Value} {xs : List (DataW H × List MemPlace)} {i : Nat} (hk : Try.prog.cellsOf t = k) (hi : i < xs.length) (h : DataW.trod enc Try.prog w 0 (fun _ => true) true m t ((cs.drop o).take (Try.prog.cellsOf t)) = xs[i]?) : DataW.trod enc Try.prog w 0 (fun _ => true) true m t ((cs.drop o).take k) = some xs[i] := by
  rw [hk, List.getElem?_eq_getElem hi] at h
  exact h
set_option maxRecDepth 100000 in
set_option maxHeartbeats 2000000 in
theorem msg_of {r : Reach} {b0 : Nat} {v : Value} {d : DataW H} {p : List MemPlace}
    (hv : Value.okWide Try.prog w r b0 32 v) (h : DataW.Trod enc Try.prog w 0 (fun _ => true) true 32 v d p) : ∃ (m : Mg) (vw vs : Value), v = .agg (m.cells vw vs).toArray ∧ MgAt w m vw vs := by
  obtain ⟨cs, rfl, hn, hf⟩ := open_wide Try.underlying32 hv h
  rw [show Try.prog.cellsOf 32 = 82 by kernel_rfl] at hn
  have k1 : Try.prog.cellsOf 3 = 1 := by kernel_rfl
  have k2 : Try.prog.cellsOf 22 = 1 := by kernel_rfl
  have k3 : Try.prog.cellsOf 23 = 1 := by kernel_rfl
  have k4 : Try.prog.cellsOf 5 = 1 := by kernel_rfl
  have k5 : Try.prog.cellsOf 9 = 1 := by kernel_rfl
  have k6 : Try.prog.cellsOf 26 = 1 := by kernel_rfl
  have k7 : Try.prog.cellsOf 25 = 5 := by kernel_rfl
  have k8 : Try.prog.cellsOf 28 = 32 := by kernel_rfl
  have k9 : Try.prog.cellsOf 29 = 32 := by kernel_rfl
  have k10 : Try.prog.cellsOf 30 = 1 := by kernel_rfl
  match cs, hn with
  | v0 :: v1 :: v2 :: v3 :: v4 :: v5 :: v6 :: v7 :: v8 :: v9 :: v10 :: v11 :: v12 :: v13 :: v14 :: v15 :: v16 :: rest, hn =>
    have hrl : rest.length = 65 := by simpa using hn
    obtain ⟨n0, y0, t0⟩ := field_k (t := 3) (o := 0) k1 (hf 0 _ rfl)
    obtain ⟨n1, y1, t1⟩ := field_k (t := 22) (o := 1) k2 (hf 1 _ rfl)
    obtain ⟨n2, y2, t2⟩ := field_k (t := 22) (o := 2) k2 (hf 2 _ rfl)
    obtain ⟨n3, y3, t3⟩ := field_k (t := 23) (o := 3) k3 (hf 3 _ rfl)
    obtain ⟨n4, y4, t4⟩ := field_k (t := 25) (o := 4) k7 (hf 4 _ rfl)
    obtain ⟨n5, y5, t5⟩ := field_k (t := 22) (o := 9) k2 (hf 5 _ rfl)
    obtain ⟨n6, y6, t6⟩ := field_k (t := 22) (o := 10) k2 (hf 6 _ rfl)
    obtain ⟨n7, y7, t7⟩ := field_k (t := 22) (o := 11) k2 (hf 7 _ rfl)
    obtain ⟨n8, y8, t8⟩ := field_k (t := 22) (o := 12) k2 (hf 8 _ rfl)
    obtain ⟨n9, y9, t9⟩ := field_k (t := 5) (o := 13) k4 (hf 9 _ rfl)
    obtain ⟨n10, y10, t10⟩ := field_k (t := 9) (o := 14) k5 (hf 10 _ rfl)
    obtain ⟨n11, y11, t11⟩ := field_k (t := 5) (o := 15) k4 (hf 11 _ rfl)
    obtain ⟨n12, y12, t12⟩ := field_k (t := 26) (o := 16) k6 (hf 12 _ rfl)
    obtain ⟨n13, y13, t13⟩ := field_k (t := 28) (o := 17) k8 (hf 13 _ rfl)
    obtain ⟨n14, y14, t14⟩ := field_k (t := 29) (o := 49) k9 (hf 14 _ rfl)
    obtain ⟨n15, y15, t15⟩ := field_k (t := 30) (o := 81) k10 (hf 15 _ rfl)
    simp only [List.drop_zero, List.drop_succ_cons, List.take_succ_cons, List.take_zero] at t0 t1 t2 t3 t4 t5 t6 t7 t8 t9 t10 t11 t12 t13 t14 t15
    obtain ⟨x0, rfl⟩ := int_of t0
    obtain ⟨x1, rfl, b1⟩ := u32_of t1
    obtain ⟨x2, rfl, b2⟩ := u32_of t2
    obtain ⟨x3, rfl, b3⟩ := u64_of t3
    obtain ⟨xs4, m4, _, _, _, hx4, hg4⟩ := DataW.trod_struct Try.underlying25 t4
    have hx4 : xs4.length = 5 := hx4
    have c0 := field_x (t := 3) (o := 0) (i := 0) k1 (by omega) (hg4 0 _ rfl)
    have c1 := field_x (t := 3) (o := 1) (i := 1) k1 (by omega) (hg4 1 _ rfl)
    have c2 := field_x (t := 3) (o := 2) (i := 2) k1 (by omega) (hg4 2 _ rfl)
    have c3 := field_x (t := 3) (o := 3) (i := 3) k1 (by omega) (hg4 3 _ rfl)
    have c4 := field_x (t := 3) (o := 4) (i := 4) k1 (by omega) (hg4 4 _ rfl)
    simp only [List.drop_zero, List.drop_succ_cons, List.take_succ_cons, List.take_zero] at c0 c1 c2 c3 c4
    obtain ⟨z0, rfl⟩ := int_of c0
    obtain ⟨z1, rfl⟩ := int_of c1
    obtain ⟨z2, rfl⟩ := int_of c2
    obtain ⟨z3, rfl⟩ := int_of c3
    obtain ⟨z4, rfl⟩ := int_of c4
    obtain ⟨x5, rfl, b5⟩ := u32_of t5
    obtain ⟨x6, rfl, b6⟩ := u32_of t6
    obtain ⟨x7, rfl, b7⟩ := u32_of t7
    obtain ⟨x8, rfl, b8⟩ := u32_of t8
    obtain ⟨x9, rfl, b9⟩ := u8_of t9
    obtain ⟨s10, e10, l10⟩ := DataW.trod_string Try.underlying9 t10
    simp only [List.cons.injEq, and_true] at e10
    subst e10
    obtain ⟨x11, rfl, b11⟩ := u8_of t11
    obtain ⟨l12, sw, xw, lw⟩ := slu_of t12
    obtain ⟨dg, e13, ld, xd⟩ := bytes_of Try.underlying28 k4 (by rw [List.length_take]; omega) t13
    obtain ⟨sd, e14, ls, xs⟩ := bytes_of Try.underlying29 k4 (by rw [List.length_take, List.length_drop]; omega) t14
    have hr2 : (rest.drop 64).length = 1 := by rw [List.length_drop]; omega
    obtain ⟨vs, ev⟩ := List.length_eq_one_iff.1 hr2
    have t15 := t15
    rw [ev] at t15
    obtain ⟨ss, hss⟩ := shs_of t15
    have hrest : rest = u8s dg ++ (u8s sd ++ [vs]) := by
      rw [← e13, ← e14, ← ev, show rest.drop 64 = (rest.drop 32).drop 32 by rw [List.drop_drop], List.take_append_drop, List.take_append_drop]
    subst hrest
    exact ⟨⟨x0, x1, x2, x3, ⟨z0, z1, z2, z3, z4⟩, x5, x6, x7, x8, x9, s10, x11, l12, dg, sd, ss⟩, v16, vs, rfl, ⟨b1, b2, b3, b5, b6, b7, b8, b9, b11, (by have h := l10.2; unfold maxLen at h; exact h), xw, lw, ld, ls, xd, xs⟩, sw, hss⟩
end
end Go.Proofs.Ytbajgbjpaliecaa
