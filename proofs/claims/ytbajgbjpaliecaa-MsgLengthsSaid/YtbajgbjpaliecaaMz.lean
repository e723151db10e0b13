/- A message as an argument, told with how great it can be. -/
import Derived.Test.YtbajgbjpaliecaaMs
import Derived.SizedLaws
set_option linter.unusedSimpArgs false
set_option linter.unusedVariables false
namespace Go.Proofs.Ytbajgbjpaliecaa
open Go.RowKit Go.ChangeShapes Go.WideShapes Go.Deep

/-- How great a message's parts can be. -/
structure Mg.Sz (m : Mg) : Prop where
  data : m.data.size ≤ 140737488355328
  words : m.words.length ≤ 140737488355328
  n : m.shares.length ≤ 140737488355328
  shares : ∀ s ∈ m.shares, s.a.length ≤ 140737488355328 ∧ s.b.length ≤ 140737488355328 ∧ s.c.length ≤ 140737488355328
section
variable {H : Type} {enc : TypeId × Value → H} {w : World}
def Light (P : Program) (t : TypeId) (d : DataW H) : Prop := ∀ k ∈ d.weights P t, k ≤ 140737488355328
theorem Light.field {P : Program} {t : TypeId} {fs : Array Field} {parts : List (DataW H)} (h : Light P t (.agg parts)) (hu : P.underlying t = some (.struct fs)) {j : Nat} {f : Field} {y : DataW H} (hf : fs[j]? = some f) (hp : parts[j]? = some y) : Light P f.type y := by
  intro k hk
  refine h k ?_
  simp only [DataW.weights, hu]
  exact DataW.weights_mem_each (j := j) (by rw [List.getElem?_map, Array.getElem?_toList, hf]; rfl) hp k hk
theorem Light.slice {P : Program} {t e : TypeId} {elems spare : List (DataW H)} (h : Light P t (.slice elems spare)) (hu : P.underlying t = some (.slice e)) : (elems.length + spare.length) * P.bytesOf e ≤ 140737488355328 :=
  h _ (by simp [DataW.weights, hu])
theorem mem_all {P : Program} {e : TypeId} : ∀ {l : List (DataW H)} {d : DataW H}, d ∈ l → ∀ k ∈ d.weights P e, k ∈ DataW.weightsAll P e l
  | a :: l, d, hd, k, hk => by
    simp only [DataW.weightsAll, List.mem_append]
    rcases List.mem_cons.1 hd with rfl | hd
    · exact .inl hk
    · exact .inr (mem_all hd k hk)
theorem Light.elem {P : Program} {t e : TypeId} {elems spare : List (DataW H)} (h : Light P t (.slice elems spare)) (hu : P.underlying t = some (.slice e)) {d : DataW H} (hd : d ∈ elems) : Light P e d := by
  intro k hk
  refine h k ?_
  simp only [DataW.weights, hu, List.mem_cons, List.mem_append]
  exact .inr (.inl (mem_all hd k hk))
/-- A slice's length, by its datum. -/
theorem len_light {P : Program} {base : Nat} {spare : Nat → Bool} {held : Bool} {n : Nat} {t e : TypeId} {A : Option Addr} {len cap : Nat} {y : DataW H × List MemPlace} (hu : P.underlying t = some (.slice e)) (hb : 1 ≤ P.bytesOf e) (h : DataW.trod enc P w base spare held n t [.slice A len cap] = some y) (hl : Light P t y.1) : len ≤ 140737488355328 := by
  rcases DataW.trod_slice hu h with ⟨e1, _⟩ | ⟨a, l, c, elems, rest, m, _, e1, hy, _, _, _, hel, _⟩
  · simp only [List.cons.injEq, and_true] at e1
    injection e1 with _ e2 _
    omega
  · simp only [List.cons.injEq, and_true] at e1
    injection e1 with _ e2 _
    rw [hy] at hl
    have := hl.slice hu
    rw [List.length_map, hel] at this
    subst e2
    have h2 : (len + (rest.map (·.1)).length) * 1 ≤ (len + (rest.map (·.1)).length) * P.bytesOf e := Nat.mul_le_mul_left _ hb
    omega
theorem open_wide2 {P : Program} {base : Nat} {spare : Nat → Bool} {held : Bool} {t : TypeId} {fs : Array Field} {r : Reach} {b0 : Nat} {v : Value} {d : DataW H} {p : List MemPlace} (hs : P.underlying t = some (.struct fs))
    (hv : Value.okWide P w r b0 t v) (h : DataW.Trod enc P w base spare held t v d p) :
    ∃ (cs : List Value) (parts : List (DataW H)), v = .agg ⟨cs⟩ ∧ d = .agg parts ∧ cs.length = P.cellsOf t ∧ ∀ (j : Nat) (f : Field), fs[j]? = some f → ∃ n y, DataW.trod enc P w base spare held n f.type ((cs.drop f.offset).take (P.cellsOf f.type)) = some y ∧ parts[j]? = some y.1 := by
  obtain ⟨cs, rfl, hsz⟩ := okWide_struct hs hv
  obtain ⟨l⟩ := cs
  obtain ⟨fuel, hf⟩ := h
  obtain ⟨xs, n', _, hx, _, hxs, hg⟩ := DataW.trod_struct hs hf
  injection hx with hd _
  refine ⟨l, _, rfl, hd, by simpa using hsz, fun j f hj => ?_⟩
  have h1 := hg j f hj
  simp only [Value.cells] at h1
  have hxl : j < xs.length := by rw [hxs]; exact (Array.getElem?_eq_some_iff.1 hj).1
  exact ⟨n', xs[j], by rw [h1, List.getElem?_eq_getElem hxl], by rw [List.getElem?_map, List.getElem?_eq_getElem hxl]; rfl⟩
set_option maxRecDepth 100000 in
/-- The shares of a slice, each light. -/
theorem shares_light {n : Nat} {v : Value} {y : DataW H × List MemPlace} {ss : List Sh} (h : DataW.trod enc Try.prog w 0 (fun _ => true) true n 30 [v] = some y) (hs : SlSh w v ss) (hl : Light Try.prog 30 y.1) :
    ∀ s ∈ ss, s.a.length ≤ 140737488355328 ∧ s.b.length ≤ 140737488355328 ∧ s.c.length ≤ 140737488355328 := by
  have k1 : Try.prog.cellsOf 51 = 3 := by kernel_rfl
  have k2 : Try.prog.cellsOf 26 = 1 := by kernel_rfl
  have kb : 1 ≤ Try.prog.bytesOf 23 := by rw [show Try.prog.bytesOf 23 = 8 by kernel_rfl]; decide
  obtain ⟨A, c, rfl, hc⟩ := hs
  intro s hmem
  obtain ⟨i, hi, rfl⟩ := List.getElem_of_mem hmem
  obtain ⟨ad, va, vb, vc, rfl, c0, c1, c2, hu⟩ := hc i hi
  rcases DataW.trod_slice Try.underlying30 h with ⟨e1, _⟩ | ⟨a, l, cc, elems, rest, m, _, e1, hy, _, _, _, hel, hit, _⟩
  · simp only [List.cons.injEq, and_true] at e1
    injection e1 with e2 _ _
    cases e2
  · simp only [List.cons.injEq, and_true] at e1
    injection e1 with e2 e3 _
    injection e2 with e2
    subst e2
    have hlt : i < elems.length := by omega
    have h1 := hit i (by omega)
    rw [k1, List.getElem?_eq_getElem hlt] at h1
    simp only [Option.bind_eq_some_iff] at h1
    obtain ⟨cs, hcs, ht⟩ := h1
    obtain ⟨_, hcl, hcell⟩ := World.cells?_some hcs
    obtain ⟨xs, m', _, hx, _, hxs, hg⟩ := DataW.trod_struct Try.underlying51 ht
    have hle : Light Try.prog 51 elems[i].1 := by
      rw [hy] at hl
      exact hl.elem Try.underlying30 (List.mem_map.2 ⟨elems[i], List.getElem_mem hlt, rfl⟩)
    have hx1 : elems[i].1 = .agg (xs.map (·.1)) := by rw [hx]
    rw [hx1] at hle
    have hxs : xs.length = 3 := hxs
    have e0 : cs[0]? = some va := by rw [← hcell 0 (by omega), ← c0]; simp [Addr.add_add]
    have e1 : cs[1]? = some vb := by rw [← hcell 1 (by omega), ← c1, Go.Deep.add_add]
    have e2 : cs[2]? = some vc := by rw [← hcell 2 (by omega), ← c2, Go.Deep.add_add]
    match cs, hcl with
    | [w0, w1, w2], _ =>
      injection e0 with e0
      injection e1 with e1
      injection e2 with e2
      subst e0 e1 e2
      have g0 := field_x (t := 26) (o := 0) (i := 0) k2 (by omega) (hg 0 _ rfl)
      have g1 := field_x (t := 26) (o := 1) (i := 1) k2 (by omega) (hg 1 _ rfl)
      have g2 := field_x (t := 26) (o := 2) (i := 2) k2 (by omega) (hg 2 _ rfl)
      simp only [List.drop_zero, List.drop_succ_cons, List.take_succ_cons, List.take_zero] at g0 g1 g2
      have l0 := hle.field (j := 0) Try.underlying51 rfl (y := xs[0].1) (by rw [List.getElem?_map, List.getElem?_eq_getElem (by omega)]; rfl)
      have l1 := hle.field (j := 1) Try.underlying51 rfl (y := xs[1].1) (by rw [List.getElem?_map, List.getElem?_eq_getElem (by omega)]; rfl)
      have l2 := hle.field (j := 2) Try.underlying51 rfl (y := xs[2].1) (by rw [List.getElem?_map, List.getElem?_eq_getElem (by omega)]; rfl)
      obtain ⟨A1, n1, q1, -⟩ := hu.a
      obtain ⟨A2, n2, q2, -⟩ := hu.b
      obtain ⟨A3, n3, q3, -⟩ := hu.c
      rw [q1] at g0
      rw [q2] at g1
      rw [q3] at g2
      exact ⟨len_light Try.underlying26 kb g0 l0, len_light Try.underlying26 kb g1 l1, len_light Try.underlying26 kb g2 l2⟩
set_option maxRecDepth 100000 in
/-- A message as an argument, and how great it can be. -/
theorem msg_sz {r : Reach} {b0 : Nat} {d : DataW H} {p : List MemPlace} {m : Mg} {vw vs : Value} (hm : MgAt w m vw vs)
    (hv : Value.okWide Try.prog w r b0 32 (.agg (m.cells vw vs).toArray)) (h : DataW.Trod enc Try.prog w 0 (fun _ => true) true 32 (.agg (m.cells vw vs).toArray) d p) (hl : Light Try.prog 32 d) : m.Sz := by
  have k5 : Try.prog.cellsOf 9 = 1 := by kernel_rfl
  have k6 : Try.prog.cellsOf 26 = 1 := by kernel_rfl
  have k10 : Try.prog.cellsOf 30 = 1 := by kernel_rfl
  have kb : 1 ≤ Try.prog.bytesOf 23 := by rw [show Try.prog.bytesOf 23 = 8 by kernel_rfl]; decide
  have kb2 : 1 ≤ Try.prog.bytesOf 51 := by rw [show Try.prog.bytesOf 51 = 72 by kernel_rfl]; decide
  obtain ⟨cs, parts, hcs, rfl, hn, hf⟩ := open_wide2 Try.underlying32 hv h
  injection hcs with hcs
  have hcs : m.cells vw vs = cs := congrArg Array.toList hcs
  subst hcs
  obtain ⟨n10, y10, t10, p10⟩ := hf 10 _ rfl
  obtain ⟨n12, y12, t12, p12⟩ := hf 12 _ rfl
  obtain ⟨n15, y15, t15, p15⟩ := hf 15 _ rfl
  have l10 : Light Try.prog 9 y10.1 := hl.field (j := 10) Try.underlying32 rfl p10
  have l12 : Light Try.prog 26 y12.1 := hl.field (j := 12) Try.underlying32 rfl p12
  have l15 : Light Try.prog 30 y15.1 := hl.field (j := 15) Try.underlying32 rfl p15
  have h1 : (u8s m.dig).length = 32 := by simp [u8s, hm.ok.dig]
  have h2 : (u8s m.seed).length = 32 := by simp [u8s, hm.ok.seed]
  have e10 : ((m.cells vw vs).drop 14).take 1 = [.string m.data] := rfl
  have e12 : ((m.cells vw vs).drop 16).take 1 = [vw] := rfl
  have e15 : ((m.cells vw vs).drop 81).take 1 = [vs] := by
    have e : (m.cells vw vs).drop 17 = u8s m.dig ++ (u8s m.seed ++ [vs]) := rfl
    rw [show (m.cells vw vs).drop 81 = ((m.cells vw vs).drop 17).drop 64 by rw [List.drop_drop], e, ← List.append_assoc, List.drop_append_of_le_length (by rw [List.length_append, h1, h2]; exact Nat.le_refl _), List.drop_of_length_le (by rw [List.length_append, h1, h2]; exact Nat.le_refl _)]
    rfl
  have u10 : DataW.trod enc Try.prog w 0 (fun _ => true) true n10 9 [.string m.data] = some y10 := by rw [← e10, ← k5]; exact t10
  have u12 : DataW.trod enc Try.prog w 0 (fun _ => true) true n12 26 [vw] = some y12 := by rw [← e12, ← k6]; exact t12
  have u15 : DataW.trod enc Try.prog w 0 (fun _ => true) true n15 30 [vs] = some y15 := by rw [← e15, ← k10]; exact t15
  obtain ⟨s10, q10, q11⟩ := DataW.trod_string Try.underlying9 u10
  simp only [List.cons.injEq, and_true] at q10
  injection q10 with q10
  subst q10
  rw [q11.1] at l10
  have hd : m.data.size ≤ 140737488355328 := l10 _ (by simp [DataW.weights])
  have hsh := shares_light (y := y15) u15 hm.shares l15
  obtain ⟨A1, c1, rfl, -⟩ := hm.words
  obtain ⟨A2, c2, rfl, -⟩ := hm.shares
  exact ⟨hd, len_light Try.underlying26 kb u12 l12, len_light Try.underlying30 kb2 u15 l15, hsh⟩
end
end Go.Proofs.Ytbajgbjpaliecaa
