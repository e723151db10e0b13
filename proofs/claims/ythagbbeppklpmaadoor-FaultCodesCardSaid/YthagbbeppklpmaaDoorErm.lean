/- Chapter 1: the reference's Made. Printed by gen_rm.py. -/
import Derived.Test.YthagbbeppklpmaaDoorEj
import Derived.Test.YthagbbeppklpmaaDoorPut
import Derived.Deep.DeepCutAuto
import Derived.Deep.CutBlock
set_option linter.unusedSimpArgs false
set_option linter.unusedVariables false
namespace Go.Proofs.YthagbbeppklpmaaDoor
open Go.RowKit

def Nd.cells (x : Nd) : List Value := [.int .i64 x.kind, .int .i64 x.code, .string x.wh, .int .i64 x.a, .int .i64 x.b]
def ncells (l : List Nd) : List Value := l.flatMap Nd.cells
theorem ncells_get (x : Nd) : ∀ (l : List Nd) (i j : Nat) (v : Value), l[i]? = some x → x.cells[j]? = some v → (ncells l)[i * 5 + j]? = some v
  | [], i, j, v, h, _ => by cases h
  | y :: l, 0, j, v, h, hj => by
    obtain rfl : y = x := by simpa using h
    have hl : j < y.cells.length := (List.getElem?_eq_some_iff.1 hj).1
    show (y.cells ++ ncells l)[0 * 5 + j]? = some v
    rw [Nat.zero_mul, Nat.zero_add, List.getElem?_append_left hl, hj]
  | y :: l, i + 1, j, v, h, hj => by
    show (y.cells ++ ncells l)[(i + 1) * 5 + j]? = some v
    have h5 : y.cells.length = 5 := rfl
    rw [List.getElem?_append_right (by rw [h5]; omega), h5, show (i + 1) * 5 + j - 5 = i * 5 + j by omega]
    exact ncells_get x l i j v (by simpa using h) hj
theorem slN_own {W : World} {base : Nat} {v : Value} {e : TypeId} {l : List Nd} (h : W.ownsRow base e 5 v l.length (ncells l)) : SlN W v l := by
  rcases h.2 with ⟨rfl, h0⟩ | ⟨g, cap, cur, rfl, _⟩
  · exact ⟨none, 0, by rw [h0], fun i hi => by omega⟩
  · refine ⟨some ⟨g, 0, none⟩, cap, rfl, fun i hi => ⟨_, rfl, ?_⟩⟩
    have hx := List.getElem?_eq_getElem hi
    exact ⟨h.cells (g := g) rfl _ _ (ncells_get _ l i 0 _ hx rfl), h.cells (g := g) rfl _ _ (ncells_get _ l i 1 _ hx rfl), h.cells (g := g) rfl _ _ (ncells_get _ l i 2 _ hx rfl), h.cells (g := g) rfl _ _ (ncells_get _ l i 3 _ hx rfl), h.cells (g := g) rfl _ _ (ncells_get _ l i 4 _ hx rfl)⟩
theorem ncells_snoc (l : List Nd) (x : Nd) : ncells (l ++ [x]) = ncells l ++ x.cells := by simp [ncells]
theorem calls_flip01 {P : Program} {f : FuncId} {args : Array Value} {w : World} {v : Value} (h : Calls P f args w fun e w' => e = .returned v ∧ w = w') : Calls P f args w fun e w' => e = .returned v ∧ w' = w := h.mono fun e w' ⟨a, b⟩ => ⟨a, b.symm⟩
def noS : ByteArray := ⟨#[]⟩
def stepN (ns : List Nd) (s : Nd) : Nd :=
  if s.kind = 0 then (if s.code = 0 then ⟨0, 0, noS, 0, 0⟩ else ⟨1, s.code, s.wh, 0, 0⟩)
  else if s.kind = 1 then (if s.code = 0 then ⟨0, 0, noS, 0, 0⟩ else ⟨2, s.code, noS, 0, 0⟩)
  else if s.kind = 2 then (if kindN ns (atN ns s.a) = 0 then ⟨0, 0, noS, 0, 0⟩ else ⟨3, 0, s.wh, atN ns s.a, 0⟩)
  else if s.kind = 3 then
    (if kindN ns (atN ns s.a) = 0 then (if kindN ns (atN ns s.b) = 0 then ⟨0, 0, noS, 0, 0⟩ else ns.getD (atN ns s.b).toNat ⟨0, 0, noS, 0, 0⟩)
     else (if kindN ns (atN ns s.b) = 0 then ns.getD (atN ns s.a).toNat ⟨0, 0, noS, 0, 0⟩ else ⟨4, 0, noS, atN ns s.a, atN ns s.b⟩))
  else ⟨0, 0, noS, 0, 0⟩
theorem stepN_2 (ns : List Nd) (cd xa xb : Int) (wh : ByteArray) : stepN ns ⟨2, cd, wh, xa, xb⟩ = if kindN ns (atN ns xa) = 0 then ⟨0, 0, noS, 0, 0⟩ else ⟨3, 0, wh, atN ns xa, 0⟩ := by
  unfold stepN
  rw [if_neg (show ¬ (2 : Int) = 0 by decide), if_neg (show ¬ (2 : Int) = 1 by decide), if_pos rfl]
theorem stepN_3 (ns : List Nd) (cd xa xb : Int) (wh : ByteArray) : stepN ns ⟨3, cd, wh, xa, xb⟩ =
    (if kindN ns (atN ns xa) = 0 then (if kindN ns (atN ns xb) = 0 then ⟨0, 0, noS, 0, 0⟩ else ns.getD (atN ns xb).toNat ⟨0, 0, noS, 0, 0⟩)
     else (if kindN ns (atN ns xb) = 0 then ns.getD (atN ns xa).toNat ⟨0, 0, noS, 0, 0⟩ else ⟨4, 0, noS, atN ns xa, atN ns xb⟩)) := by
  unfold stepN
  rw [if_neg (show ¬ (3 : Int) = 0 by decide), if_neg (show ¬ (3 : Int) = 1 by decide), if_neg (show ¬ (3 : Int) = 2 by decide), if_pos rfl]
theorem stepN_e (ns : List Nd) (kd cd xa xb : Int) (wh : ByteArray) (h0 : ¬ kd = 0) (h1 : ¬ kd = 1) (h2 : ¬ kd = 2) (h3 : ¬ kd = 3) : stepN ns ⟨kd, cd, wh, xa, xb⟩ = ⟨0, 0, noS, 0, 0⟩ := by
  unfold stepN
  rw [if_neg h0, if_neg h1, if_neg h2, if_neg h3]
def madeN (l : List Nd) : List Nd := l.foldl (fun ns s => ns ++ [stepN ns s]) []
theorem madeN_snoc (l : List Nd) (s : Nd) : madeN (l ++ [s]) = madeN l ++ [stepN (madeN l) s] := by simp [madeN, List.foldl_append]
theorem madeN_take (l : List Nd) (k : Nat) (h : k < l.length) : madeN (l.take (k + 1)) = madeN (l.take k) ++ [stepN (madeN (l.take k)) l[k]] := by
  rw [List.take_succ_eq_append_getElem h, madeN_snoc]
theorem madeN_length (l : List Nd) : (madeN l).length = l.length := by
  have : ∀ (l : List Nd) (ts : List Nd), (l.foldl (fun ts s => ts ++ [stepN ts s]) ts).length = ts.length + l.length := by
    intro l
    induction l with
    | nil => intro ts; rfl
    | cons s l ih => intro ts; rw [List.foldl_cons, ih]; simp; omega
  have := this l []
  simpa [madeN] using this
theorem kindN_in {ns : List Nd} {n : Int} (h : kindN ns n ≠ 0) : ∃ (j : Nat) (x : Nd), n = (j : Int) ∧ ns[j]? = some x ∧ ns.getD n.toNat ⟨0, 0, noS, 0, 0⟩ = x := by
  unfold kindN at h
  by_cases hn : 0 ≤ n ∧ n < ns.length
  · obtain ⟨j, rfl⟩ := Int.eq_ofNat_of_zero_le hn.1
    have hj : j < ns.length := by omega
    exact ⟨j, ns[j], rfl, List.getElem?_eq_getElem hj, by simp [List.getD_eq_getElem?_getD, List.getElem?_eq_getElem hj]⟩
  · rw [if_neg hn] at h
    exact absurd rfl h
theorem Tryd.info_node : (Tryd.prog.info? 57).map (fun i => (i.zero, i.size, i.bytes)) = some (some (.agg #[.int .i64 0, .int .i64 0, .string ⟨#[]⟩, .int .i64 0, .int .i64 0]), 5, 48) := by kernel_rfl
theorem cell_five_new (w : World) (x0 x1 x2 x3 x4 : Value) (t : TypeId) : ∀ j u, [x0, x1, x2, x3, x4][j]? = some u → (w.alloc (.cells #[x0, x1, x2, x3, x4] t)).cell? ((⟨w.heap.size, 0, none⟩ : Addr).add j) = some u := by
  intro j u hj
  match j, hj with
  | 0, hj => simp at hj; subst hj; simp [Addr.add]
  | 1, hj => simp at hj; subst hj; simp [Addr.add]
  | 2, hj => simp at hj; subst hj; simp [Addr.add]
  | 3, hj => simp at hj; subst hj; simp [Addr.add]
  | 4, hj => simp at hj; subst hj; simp [Addr.add]
set_option maxRecDepth 100000 in
set_option maxHeartbeats 8000000 in
theorem rmade_any (w : World) (v : Value) (l : List Nd) (hv : SlN w v l) (hn : l.length ≤ 1000000) :
    Calls Tryd.prog 9 #[v] w fun e w' => ∃ u, e = .returned u ∧ w'.ownsRow w.heap.size 57 5 u l.length (ncells (madeN l)) ∧ Only (fun _ => False) w w' := by
  obtain ⟨A, c, rfl, hA⟩ := hv
  obtain ⟨i0, hi, hz0, hz1, hz2⟩ := info_parts Tryd.info_node
  have HA := Lib.hid hA
  clear hA
  go_enter Tryd.func9, Tryd.ntmps9
  go_wp2_with fail
  go_loopg [3, 4] l.length (fun g s i W => ∃ (k : Nat) (u : Value), g = l.length - k ∧ k ≤ l.length ∧ i = .int .i64 k ∧ s = u ∧ W.ownsRow w.heap.size 57 5 u k (ncells (madeN (l.take k))) ∧ Only (fun _ => False) w W)
  case atStart => exact ⟨0, _, rfl, by omega, rfl, rfl, World.ownsRow_nil _ _ _ _, Only.refl _ _⟩
  case round =>
    obtain ⟨k, u, hgk, hk, rfl, rfl, hown, ho⟩ := hrel
    have hlow := ho.size
    obtain ⟨A0, d0, he0⟩ := own_shape hown
    subst he0
    have HGK := Lib.hid hgk
    clear hgk
    by_cases hlt : k < l.length
    · obtain ⟨ad, rfl, x0, x1, x2, x3, x4⟩ := HA.out k hlt
      have c0 := ho.cell x0 (fun f => f)
      have c1 := row_cell (by decide) (ho.cell x1 (fun f => f))
      have c2 := row_cell (by decide) (ho.cell x2 (fun f => f))
      have c3 := row_cell (by decide) (ho.cell x3 (fun f => f))
      have c4 := row_cell (by decide) (ho.cell x4 (fun f => f))
      have hk0 : (0 : Int) ≤ (k : Int) := by omega
      have hk1 : (k : Int) < (l.length : Int) := by omega
      have HT := Lib.hid (madeN_take l k hlt)
      have hlen : (madeN (l.take k)).length = k := by rw [madeN_length, List.length_take]; omega
      clear x0 x1 x2 x3 x4
      generalize l[k] = s at *
      generalize madeN (l.take k) = ns at *
      rcases s with ⟨kd, cd, wh, xa, xb⟩
      simp only at c0 c1 c2 c3 c4
      have HSL : Hid (SlN wr (.slice A0 k d0) ns) := Lib.hid (slN_own (by rw [hlen]; exact hown))
      have HLN := Lib.hid (show ns.length ≤ 1000000 by omega)
      have HLEN := Lib.hid hlen
      have HO := Lib.hid ho
      have HOWN := Lib.hid hown
      have HATA := Lib.hid (fun W (o : Only (fun _ => False) wr W) => rat_any W _ ns xa (HSL.out.only o) HLN.out)
      have HATB := Lib.hid (fun W (o : Only (fun _ => False) wr W) => rat_any W _ ns xb (HSL.out.only o) HLN.out)
      have hkind : kd = 0 ∨ kd = 1 ∨ kd = 2 ∨ kd = 3 ∨ ((kd == 0) = false ∧ (kd == 1) = false ∧ (kd == 2) = false ∧ (kd == 3) = false) := by
        by_cases h0 : kd = 0
        · exact .inl h0
        by_cases h1 : kd = 1
        · exact .inr (.inl h1)
        by_cases h2 : kd = 2
        · exact .inr (.inr (.inl h2))
        by_cases h3 : kd = 3
        · exact .inr (.inr (.inr (.inl h3)))
        · exact .inr (.inr (.inr (.inr (by simp [h0, h1, h2, h3]))))
      have HKIND := Lib.hid hkind
      clear hkind
      have oB : Only (fun _ => False) wr ((wr.alloc (.cells #[.int .i64 kd, .int .i64 cd, .string wh, .int .i64 xa, .int .i64 xb] 55)).alloc (.cells #[.int .i64 0, .int .i64 0, .string ⟨#[]⟩, .int .i64 0, .int .i64 0] 57)) := ((Only.refl _ _).alloc _).alloc _
      have OB := Lib.hid oB
      have BX : Has ((wr.alloc (.cells #[.int .i64 kd, .int .i64 cd, .string wh, .int .i64 xa, .int .i64 xb] 55)).alloc (.cells #[.int .i64 0, .int .i64 0, .string ⟨#[]⟩, .int .i64 0, .int .i64 0] 57)) wr.heap.size 55 #[.int .i64 kd, .int .i64 cd, .string wh, .int .i64 xa, .int .i64 xb] := (Has.new _ _ _).alloc _
      have NX : Has ((wr.alloc (.cells #[.int .i64 kd, .int .i64 cd, .string wh, .int .i64 xa, .int .i64 xb] 55)).alloc (.cells #[.int .i64 0, .int .i64 0, .string ⟨#[]⟩, .int .i64 0, .int .i64 0] 57)) (wr.heap.size + 1) 57 #[.int .i64 0, .int .i64 0, .string ⟨#[]⟩, .int .i64 0, .int .i64 0] := by
        have := Has.new (wr.alloc (.cells #[.int .i64 kd, .int .i64 cd, .string wh, .int .i64 xa, .int .i64 xb] 55)) 57 #[.int .i64 0, .int .i64 0, .string ⟨#[]⟩, .int .i64 0, .int .i64 0]
        rwa [show (wr.alloc (.cells #[.int .i64 kd, .int .i64 cd, .string wh, .int .i64 xa, .int .i64 xb] 55)).heap.size = wr.heap.size + 1 by simp] at this
      clear hown ho hlen oB
      go_upto_region 7 with fail
      clear c0 c1 c2 c3 c4
      generalize ((wr.alloc (.cells #[.int .i64 kd, .int .i64 cd, .string wh, .int .i64 xa, .int .i64 xb] 55)).alloc (.cells #[.int .i64 0, .int .i64 0, .string ⟨#[]⟩, .int .i64 0, .int .i64 0] 57)) = WB at *
      generalize hbn : wr.heap.size = bn at *
      have HBN := Lib.hid hbn
      clear hbn
      obtain ⟨p0, p1, p2, p3, p4, pf_⟩ := Has.facts5 BX
      have HBX := Lib.hid BX
      have HNX := Lib.hid NX
      clear BX NX
      go_big_quiet ((first | (go_at_call_of 27 (Value.int IntKind.i64 xa); with_reducible exact Calls.quiet_of_same (calls_flip01 (HATA.out _ (OB.out.drewN _)))) | (go_at_call 27; with_reducible exact Calls.quiet_of_same (calls_flip01 (HATB.out _ (OB.out.drewN _))))))
      have OD : Only (fun _ => False) wr (WB.drewN nq) := OB.out.drewN nq
      have BX : Has (WB.drewN nq) bn 55 #[.int .i64 kd, .int .i64 cd, .string wh, .int .i64 xa, .int .i64 xb] := HBX.out.drewN nq
      have NX : Has (WB.drewN nq) (bn + 1) 57 #[.int .i64 0, .int .i64 0, .string ⟨#[]⟩, .int .i64 0, .int .i64 0] := HNX.out.drewN nq
      clear p0 p1 p2 p3 p4 pf_ HBX HNX OB HATA HATB
      generalize WB.drewN nq = WD at *
      obtain ⟨p0, p1, p2, p3, p4, pf_⟩ := Has.facts5 BX
      obtain ⟨z0, z1, z2, z3, z4, zf_⟩ := Has.facts5 NX
      have HST : Hid (∀ x, stepN ns ⟨kd, cd, wh, xa, xb⟩ = x → stepN ns ⟨kd, cd, wh, xa, xb⟩ = x) := Lib.hid (fun _ h => h)
      have HKA := Lib.hid (fun W (o : Only (fun _ => False) wr W) => kind_any W _ ns (atN ns xa) (HSL.out.only o) HLN.out)
      have HKB := Lib.hid (fun W (o : Only (fun _ => False) wr W) => kind_any W _ ns (atN ns xb) (HSL.out.only o) HLN.out)
      have HIA := Lib.hid (fun h => kindN_in (ns := ns) (n := atN ns xa) h)
      have HIB := Lib.hid (fun h => kindN_in (ns := ns) (n := atN ns xb) h)
      generalize hpa : atN ns xa = pa at HKA HIA ⊢
      generalize hpb : atN ns xb = pb at HKB HIB ⊢
      generalize hka : kindN ns pa = ka at HKA HIA
      generalize hkb : kindN ns pb = kb at HKB HIB
      have HPA := Lib.hid hpa
      have HPB := Lib.hid hpb
      have HQA := Lib.hid hka
      have HQB := Lib.hid hkb
      clear hpa hpb hka hkb HST
      have HBX := Lib.hid BX
      have HNX := Lib.hid NX
      clear BX NX
      rcases HKIND.out with rfl | rfl | rfl | rfl | ⟨q0, q1, q2, q3⟩
      · by_cases hcd : cd = 0
        · subst hcd
          go_upto_region 20 with fail
          have OO := Lib.hid (HO.out.trans OD)
          have OW := Lib.hid (Only.own OD HOWN.out (fun _ _ f => f))
          have LO2 : Hid (w.heap.size ≤ WD.heap.size) := Lib.hid (by have := HBN.out; have := Only.size OD; omega)
          have HX := Lib.hid (show stepN ns ⟨0, 0, wh, xa, xb⟩ = ⟨0, 0, noS, 0, 0⟩ from rfl)
          clear HKA HKB HIA HIB HPA HPB HQA HQB
          go_wp2_with (at_builtin; go_must (refine wpList_append_own_at _ rfl _ _ 27 rfl w.heap.size 57 i0 (.agg #[.int .i64 0, .int .i64 0, .string ⟨#[]⟩, .int .i64 0, .int .i64 0]) 5 48 Tryd.underlying27 hi hz0 hz1 hz2 rfl (by decide) _ k (ncells ns) ?hs (OW.out.alloc _) ⟨WD.heap.size, 0, none⟩ 1 1 [.int .i64 0, .int .i64 0, .string ⟨#[]⟩, .int .i64 0, .int .i64 0] ?hx rfl (cell_five_new WD _ _ _ _ _ _) ?c2 ?c3 ?c4 ?c5 ?_); (case hs => rfl); (case hx => rfl); (case c2 => intro y hy; simp only [List.mem_cons, List.not_mem_nil, or_false] at hy; rcases hy with rfl | rfl | rfl | rfl | rfl <;> rfl); (case c3 => unfold maxLen; omega); (case c4 => omega); (case c5 => have := LO2.out; simp; omega); intro v1 w1 ho1 hg1 _ hat1; obtain ⟨A1, d1, hv1⟩ := own_shape ho1; subst hv1)
          go_roundg (l.length - (k + 1))
          case rel => exact ⟨k + 1, _, rfl, by omega, by go_num, rfl, by rw [HT.out, ncells_snoc, HX.out]; exact ho1, Only.grown (OO.out.alloc _) hg1 (fun q e hq => by have := own_low OW.out e; omega)⟩
          case measure => have := HGK.out; omega
        · have hcd2 : (cd == 0) = false := by simpa using hcd
          have HS := Lib.hid (show stepN ns ⟨0, cd, wh, xa, xb⟩ = ⟨1, cd, wh, 0, 0⟩ from by unfold stepN; rw [if_pos rfl, if_neg hcd])
          clear hcd
          go_upto_region 10 with fail
          have BZ1 := HBX.out.off5 (show bn ≠ bn + 1 by omega) (.int .i64 1) (.int .i64 cd) (.string wh) (.int .i64 0) (.int .i64 0)
          have NZ1 := HNX.out.put5 rfl (.int .i64 1) (.int .i64 cd) (.string wh) (.int .i64 0) (.int .i64 0)
          have OZ1 : Only (fun _ => False) wr (((((WD.setCell ⟨bn + 1, 0, none⟩ (.int .i64 1)).setCell ⟨bn + 1, 1, none⟩ (.int .i64 cd)).setCell ⟨bn + 1, 2, none⟩ (.string wh)).setCell ⟨bn + 1, 3, none⟩ (.int .i64 0)).setCell ⟨bn + 1, 4, none⟩ (.int .i64 0)) := Only.then_ OD (Only.put5 WD (bn + 1) (.int .i64 1) (.int .i64 cd) (.string wh) (.int .i64 0) (.int .i64 0)) (fun i hi e => absurd hi (by have := HBN.out; have : i = bn + 1 := e; omega))
          clear p0 p1 p2 p3 p4 pf_ z0 z1 z2 z3 z4 zf_ HBX HNX
          generalize (((((WD.setCell ⟨bn + 1, 0, none⟩ (.int .i64 1)).setCell ⟨bn + 1, 1, none⟩ (.int .i64 cd)).setCell ⟨bn + 1, 2, none⟩ (.string wh)).setCell ⟨bn + 1, 3, none⟩ (.int .i64 0)).setCell ⟨bn + 1, 4, none⟩ (.int .i64 0)) = WE at *
          obtain ⟨p0, p1, p2, p3, p4, pf_⟩ := Has.facts5 BZ1
          obtain ⟨z0, z1, z2, z3, z4, zf_⟩ := Has.facts5 NZ1
          have HBX := Lib.hid BZ1
          have HNX := Lib.hid NZ1
          clear BZ1 NZ1
          go_upto_region 20 with fail
          have OO := Lib.hid (HO.out.trans OZ1)
          have OW := Lib.hid (Only.own OZ1 HOWN.out (fun _ _ f => f))
          have LO2 : Hid (w.heap.size ≤ WE.heap.size) := Lib.hid (by have := HBN.out; have := Only.size OZ1; omega)
          have HX := Lib.hid (HS.out)
          clear HKA HKB HIA HIB HPA HPB HQA HQB
          go_wp2_with (at_builtin; go_must (refine wpList_append_own_at _ rfl _ _ 27 rfl w.heap.size 57 i0 (.agg #[.int .i64 0, .int .i64 0, .string ⟨#[]⟩, .int .i64 0, .int .i64 0]) 5 48 Tryd.underlying27 hi hz0 hz1 hz2 rfl (by decide) _ k (ncells ns) ?hs (OW.out.alloc _) ⟨WE.heap.size, 0, none⟩ 1 1 [.int .i64 1, .int .i64 cd, .string wh, .int .i64 0, .int .i64 0] ?hx rfl (cell_five_new WE _ _ _ _ _ _) ?c2 ?c3 ?c4 ?c5 ?_); (case hs => rfl); (case hx => rfl); (case c2 => intro y hy; simp only [List.mem_cons, List.not_mem_nil, or_false] at hy; rcases hy with rfl | rfl | rfl | rfl | rfl <;> rfl); (case c3 => unfold maxLen; omega); (case c4 => omega); (case c5 => have := LO2.out; simp; omega); intro v1 w1 ho1 hg1 _ hat1; obtain ⟨A1, d1, hv1⟩ := own_shape ho1; subst hv1)
          go_roundg (l.length - (k + 1))
          case rel => exact ⟨k + 1, _, rfl, by omega, by go_num, rfl, by rw [HT.out, ncells_snoc, HX.out]; exact ho1, Only.grown (OO.out.alloc _) hg1 (fun q e hq => by have := own_low OW.out e; omega)⟩
          case measure => have := HGK.out; omega
      · by_cases hcd : cd = 0
        · subst hcd
          go_upto_region 20 with fail
          have OO := Lib.hid (HO.out.trans OD)
          have OW := Lib.hid (Only.own OD HOWN.out (fun _ _ f => f))
          have LO2 : Hid (w.heap.size ≤ WD.heap.size) := Lib.hid (by have := HBN.out; have := Only.size OD; omega)
          have HX := Lib.hid (show stepN ns ⟨1, 0, wh, xa, xb⟩ = ⟨0, 0, noS, 0, 0⟩ from rfl)
          clear HKA HKB HIA HIB HPA HPB HQA HQB
          go_wp2_with (at_builtin; go_must (refine wpList_append_own_at _ rfl _ _ 27 rfl w.heap.size 57 i0 (.agg #[.int .i64 0, .int .i64 0, .string ⟨#[]⟩, .int .i64 0, .int .i64 0]) 5 48 Tryd.underlying27 hi hz0 hz1 hz2 rfl (by decide) _ k (ncells ns) ?hs (OW.out.alloc _) ⟨WD.heap.size, 0, none⟩ 1 1 [.int .i64 0, .int .i64 0, .string ⟨#[]⟩, .int .i64 0, .int .i64 0] ?hx rfl (cell_five_new WD _ _ _ _ _ _) ?c2 ?c3 ?c4 ?c5 ?_); (case hs => rfl); (case hx => rfl); (case c2 => intro y hy; simp only [List.mem_cons, List.not_mem_nil, or_false] at hy; rcases hy with rfl | rfl | rfl | rfl | rfl <;> rfl); (case c3 => unfold maxLen; omega); (case c4 => omega); (case c5 => have := LO2.out; simp; omega); intro v1 w1 ho1 hg1 _ hat1; obtain ⟨A1, d1, hv1⟩ := own_shape ho1; subst hv1)
          go_roundg (l.length - (k + 1))
          case rel => exact ⟨k + 1, _, rfl, by omega, by go_num, rfl, by rw [HT.out, ncells_snoc, HX.out]; exact ho1, Only.grown (OO.out.alloc _) hg1 (fun q e hq => by have := own_low OW.out e; omega)⟩
          case measure => have := HGK.out; omega
        · have hcd2 : (cd == 0) = false := by simpa using hcd
          have HS := Lib.hid (show stepN ns ⟨1, cd, wh, xa, xb⟩ = ⟨2, cd, noS, 0, 0⟩ from by unfold stepN; rw [if_neg (show ¬ (1 : Int) = 0 by decide), if_pos rfl, if_neg hcd])
          clear hcd
          go_upto_region 12 with fail
          have BZ1 := HBX.out.off5 (show bn ≠ bn + 1 by omega) (.int .i64 2) (.int .i64 cd) (.string ⟨#[]⟩) (.int .i64 0) (.int .i64 0)
          have NZ1 := HNX.out.put5 rfl (.int .i64 2) (.int .i64 cd) (.string ⟨#[]⟩) (.int .i64 0) (.int .i64 0)
          have OZ1 : Only (fun _ => False) wr (((((WD.setCell ⟨bn + 1, 0, none⟩ (.int .i64 2)).setCell ⟨bn + 1, 1, none⟩ (.int .i64 cd)).setCell ⟨bn + 1, 2, none⟩ (.string ⟨#[]⟩)).setCell ⟨bn + 1, 3, none⟩ (.int .i64 0)).setCell ⟨bn + 1, 4, none⟩ (.int .i64 0)) := Only.then_ OD (Only.put5 WD (bn + 1) (.int .i64 2) (.int .i64 cd) (.string ⟨#[]⟩) (.int .i64 0) (.int .i64 0)) (fun i hi e => absurd hi (by have := HBN.out; have : i = bn + 1 := e; omega))
          clear p0 p1 p2 p3 p4 pf_ z0 z1 z2 z3 z4 zf_ HBX HNX
          generalize (((((WD.setCell ⟨bn + 1, 0, none⟩ (.int .i64 2)).setCell ⟨bn + 1, 1, none⟩ (.int .i64 cd)).setCell ⟨bn + 1, 2, none⟩ (.string ⟨#[]⟩)).setCell ⟨bn + 1, 3, none⟩ (.int .i64 0)).setCell ⟨bn + 1, 4, none⟩ (.int .i64 0)) = WE at *
          obtain ⟨p0, p1, p2, p3, p4, pf_⟩ := Has.facts5 BZ1
          obtain ⟨z0, z1, z2, z3, z4, zf_⟩ := Has.facts5 NZ1
          have HBX := Lib.hid BZ1
          have HNX := Lib.hid NZ1
          clear BZ1 NZ1
          go_upto_region 20 with fail
          have OO := Lib.hid (HO.out.trans OZ1)
          have OW := Lib.hid (Only.own OZ1 HOWN.out (fun _ _ f => f))
          have LO2 : Hid (w.heap.size ≤ WE.heap.size) := Lib.hid (by have := HBN.out; have := Only.size OZ1; omega)
          have HX := Lib.hid (HS.out)
          clear HKA HKB HIA HIB HPA HPB HQA HQB
          go_wp2_with (at_builtin; go_must (refine wpList_append_own_at _ rfl _ _ 27 rfl w.heap.size 57 i0 (.agg #[.int .i64 0, .int .i64 0, .string ⟨#[]⟩, .int .i64 0, .int .i64 0]) 5 48 Tryd.underlying27 hi hz0 hz1 hz2 rfl (by decide) _ k (ncells ns) ?hs (OW.out.alloc _) ⟨WE.heap.size, 0, none⟩ 1 1 [.int .i64 2, .int .i64 cd, .string ⟨#[]⟩, .int .i64 0, .int .i64 0] ?hx rfl (cell_five_new WE _ _ _ _ _ _) ?c2 ?c3 ?c4 ?c5 ?_); (case hs => rfl); (case hx => rfl); (case c2 => intro y hy; simp only [List.mem_cons, List.not_mem_nil, or_false] at hy; rcases hy with rfl | rfl | rfl | rfl | rfl <;> rfl); (case c3 => unfold maxLen; omega); (case c4 => omega); (case c5 => have := LO2.out; simp; omega); intro v1 w1 ho1 hg1 _ hat1; obtain ⟨A1, d1, hv1⟩ := own_shape ho1; subst hv1)
          go_roundg (l.length - (k + 1))
          case rel => exact ⟨k + 1, _, rfl, by omega, by go_num, rfl, by rw [HT.out, ncells_snoc, HX.out]; exact ho1, Only.grown (OO.out.alloc _) hg1 (fun q e hq => by have := own_low OW.out e; omega)⟩
          case measure => have := HGK.out; omega
      · by_cases hk2 : ka = 0
        · subst hk2
          have HS := Lib.hid (show stepN ns ⟨2, cd, wh, xa, xb⟩ = ⟨0, 0, noS, 0, 0⟩ from by rw [stepN_2, HPA.out, HQA.out, if_pos rfl])
          go_upto_region 20 with (first | (go_at_call_of 28 (Value.int IntKind.i64 pa); (with_reducible refine (HKA.out _ OD).mono ?_); rintro e w' ⟨rfl, rfl⟩) | (go_at_call_of 28 (Value.int IntKind.i64 pb); (with_reducible refine (HKB.out _ OD).mono ?_); rintro e w' ⟨rfl, rfl⟩))
          have OO := Lib.hid (HO.out.trans OD)
          have OW := Lib.hid (Only.own OD HOWN.out (fun _ _ f => f))
          have LO2 : Hid (w.heap.size ≤ WD.heap.size) := Lib.hid (by have := HBN.out; have := Only.size OD; omega)
          have HX := Lib.hid (HS.out)
          clear HKA HKB HIA HIB HPA HPB HQA HQB
          go_wp2_with (at_builtin; go_must (refine wpList_append_own_at _ rfl _ _ 27 rfl w.heap.size 57 i0 (.agg #[.int .i64 0, .int .i64 0, .string ⟨#[]⟩, .int .i64 0, .int .i64 0]) 5 48 Tryd.underlying27 hi hz0 hz1 hz2 rfl (by decide) _ k (ncells ns) ?hs (OW.out.alloc _) ⟨WD.heap.size, 0, none⟩ 1 1 [.int .i64 0, .int .i64 0, .string ⟨#[]⟩, .int .i64 0, .int .i64 0] ?hx rfl (cell_five_new WD _ _ _ _ _ _) ?c2 ?c3 ?c4 ?c5 ?_); (case hs => rfl); (case hx => rfl); (case c2 => intro y hy; simp only [List.mem_cons, List.not_mem_nil, or_false] at hy; rcases hy with rfl | rfl | rfl | rfl | rfl <;> rfl); (case c3 => unfold maxLen; omega); (case c4 => omega); (case c5 => have := LO2.out; simp; omega); intro v1 w1 ho1 hg1 _ hat1; obtain ⟨A1, d1, hv1⟩ := own_shape ho1; subst hv1)
          go_roundg (l.length - (k + 1))
          case rel => exact ⟨k + 1, _, rfl, by omega, by go_num, rfl, by rw [HT.out, ncells_snoc, HX.out]; exact ho1, Only.grown (OO.out.alloc _) hg1 (fun q e hq => by have := own_low OW.out e; omega)⟩
          case measure => have := HGK.out; omega
        · have hk3 : (ka == 0) = false := by simpa using hk2
          have hk4 : (ka != 0) = true := by simpa using hk2
          have HS := Lib.hid (show stepN ns ⟨2, cd, wh, xa, xb⟩ = ⟨3, 0, wh, pa, 0⟩ from by rw [stepN_2, HPA.out, HQA.out, if_neg hk2])
          clear hk2
          go_upto_region 14 with (first | (go_at_call_of 28 (Value.int IntKind.i64 pa); (with_reducible refine (HKA.out _ OD).mono ?_); rintro e w' ⟨rfl, rfl⟩) | (go_at_call_of 28 (Value.int IntKind.i64 pb); (with_reducible refine (HKB.out _ OD).mono ?_); rintro e w' ⟨rfl, rfl⟩))
          have BZ1 := HBX.out.off5 (show bn ≠ bn + 1 by omega) (.int .i64 3) (.int .i64 0) (.string wh) (.int .i64 pa) (.int .i64 0)
          have NZ1 := HNX.out.put5 rfl (.int .i64 3) (.int .i64 0) (.string wh) (.int .i64 pa) (.int .i64 0)
          have OZ1 : Only (fun _ => False) wr (((((WD.setCell ⟨bn + 1, 0, none⟩ (.int .i64 3)).setCell ⟨bn + 1, 1, none⟩ (.int .i64 0)).setCell ⟨bn + 1, 2, none⟩ (.string wh)).setCell ⟨bn + 1, 3, none⟩ (.int .i64 pa)).setCell ⟨bn + 1, 4, none⟩ (.int .i64 0)) := Only.then_ OD (Only.put5 WD (bn + 1) (.int .i64 3) (.int .i64 0) (.string wh) (.int .i64 pa) (.int .i64 0)) (fun i hi e => absurd hi (by have := HBN.out; have : i = bn + 1 := e; omega))
          clear p0 p1 p2 p3 p4 pf_ z0 z1 z2 z3 z4 zf_ HBX HNX
          generalize (((((WD.setCell ⟨bn + 1, 0, none⟩ (.int .i64 3)).setCell ⟨bn + 1, 1, none⟩ (.int .i64 0)).setCell ⟨bn + 1, 2, none⟩ (.string wh)).setCell ⟨bn + 1, 3, none⟩ (.int .i64 pa)).setCell ⟨bn + 1, 4, none⟩ (.int .i64 0)) = WE at *
          obtain ⟨p0, p1, p2, p3, p4, pf_⟩ := Has.facts5 BZ1
          obtain ⟨z0, z1, z2, z3, z4, zf_⟩ := Has.facts5 NZ1
          have HBX := Lib.hid BZ1
          have HNX := Lib.hid NZ1
          clear BZ1 NZ1
          go_upto_region 20 with fail
          have OO := Lib.hid (HO.out.trans OZ1)
          have OW := Lib.hid (Only.own OZ1 HOWN.out (fun _ _ f => f))
          have LO2 : Hid (w.heap.size ≤ WE.heap.size) := Lib.hid (by have := HBN.out; have := Only.size OZ1; omega)
          have HX := Lib.hid (HS.out)
          clear HKA HKB HIA HIB HPA HPB HQA HQB
          go_wp2_with (at_builtin; go_must (refine wpList_append_own_at _ rfl _ _ 27 rfl w.heap.size 57 i0 (.agg #[.int .i64 0, .int .i64 0, .string ⟨#[]⟩, .int .i64 0, .int .i64 0]) 5 48 Tryd.underlying27 hi hz0 hz1 hz2 rfl (by decide) _ k (ncells ns) ?hs (OW.out.alloc _) ⟨WE.heap.size, 0, none⟩ 1 1 [.int .i64 3, .int .i64 0, .string wh, .int .i64 pa, .int .i64 0] ?hx rfl (cell_five_new WE _ _ _ _ _ _) ?c2 ?c3 ?c4 ?c5 ?_); (case hs => rfl); (case hx => rfl); (case c2 => intro y hy; simp only [List.mem_cons, List.not_mem_nil, or_false] at hy; rcases hy with rfl | rfl | rfl | rfl | rfl <;> rfl); (case c3 => unfold maxLen; omega); (case c4 => omega); (case c5 => have := LO2.out; simp; omega); intro v1 w1 ho1 hg1 _ hat1; obtain ⟨A1, d1, hv1⟩ := own_shape ho1; subst hv1)
          go_roundg (l.length - (k + 1))
          case rel => exact ⟨k + 1, _, rfl, by omega, by go_num, rfl, by rw [HT.out, ncells_snoc, HX.out]; exact ho1, Only.grown (OO.out.alloc _) hg1 (fun q e hq => by have := own_low OW.out e; omega)⟩
          case measure => have := HGK.out; omega
      · by_cases hka : ka = 0
        · subst hka
          by_cases hkb : kb = 0
          · subst hkb
            have HS := Lib.hid (show stepN ns ⟨3, cd, wh, xa, xb⟩ = ⟨0, 0, noS, 0, 0⟩ from by rw [stepN_3, HPA.out, HPB.out, HQA.out, HQB.out, if_pos rfl, if_pos rfl])
            go_upto_region 20 with (first | (go_at_call_of 28 (Value.int IntKind.i64 pa); (with_reducible refine (HKA.out _ OD).mono ?_); rintro e w' ⟨rfl, rfl⟩) | (go_at_call_of 28 (Value.int IntKind.i64 pb); (with_reducible refine (HKB.out _ OD).mono ?_); rintro e w' ⟨rfl, rfl⟩))
            have OO := Lib.hid (HO.out.trans OD)
            have OW := Lib.hid (Only.own OD HOWN.out (fun _ _ f => f))
            have LO2 : Hid (w.heap.size ≤ WD.heap.size) := Lib.hid (by have := HBN.out; have := Only.size OD; omega)
            have HX := Lib.hid (HS.out)
            clear HKA HKB HIA HIB HPA HPB HQA HQB
            go_wp2_with (at_builtin; go_must (refine wpList_append_own_at _ rfl _ _ 27 rfl w.heap.size 57 i0 (.agg #[.int .i64 0, .int .i64 0, .string ⟨#[]⟩, .int .i64 0, .int .i64 0]) 5 48 Tryd.underlying27 hi hz0 hz1 hz2 rfl (by decide) _ k (ncells ns) ?hs (OW.out.alloc _) ⟨WD.heap.size, 0, none⟩ 1 1 [.int .i64 0, .int .i64 0, .string ⟨#[]⟩, .int .i64 0, .int .i64 0] ?hx rfl (cell_five_new WD _ _ _ _ _ _) ?c2 ?c3 ?c4 ?c5 ?_); (case hs => rfl); (case hx => rfl); (case c2 => intro y hy; simp only [List.mem_cons, List.not_mem_nil, or_false] at hy; rcases hy with rfl | rfl | rfl | rfl | rfl <;> rfl); (case c3 => unfold maxLen; omega); (case c4 => omega); (case c5 => have := LO2.out; simp; omega); intro v1 w1 ho1 hg1 _ hat1; obtain ⟨A1, d1, hv1⟩ := own_shape ho1; subst hv1)
            go_roundg (l.length - (k + 1))
            case rel => exact ⟨k + 1, _, rfl, by omega, by go_num, rfl, by rw [HT.out, ncells_snoc, HX.out]; exact ho1, Only.grown (OO.out.alloc _) hg1 (fun q e hq => by have := own_low OW.out e; omega)⟩
            case measure => have := HGK.out; omega
          · have hkb2 : (kb == 0) = false := by simpa using hkb
            have hkb3 : (kb != 0) = true := by simpa using hkb
            obtain ⟨j, x, hpj, hx, hgd⟩ := HIB.out (by assumption)
            obtain ⟨-, hj, adn, hA0, y0, y1, y2, y3, y4⟩ := (HSL.out.only OD).at_ hx
            subst hA0
            have b0 := y0
            have b1 := row_cell (by decide) y1
            have b2 := row_cell (by decide) y2
            have b3 := row_cell (by decide) y3
            have b4 := row_cell (by decide) y4
            have hj0 : (0 : Int) ≤ (j : Int) := by omega
            have hj1 : (j : Int) < (k : Int) := by have := HLEN.out; omega
            clear y0 y1 y2 y3 y4
            have HS := Lib.hid (show stepN ns ⟨3, cd, wh, xa, xb⟩ = x from by rw [stepN_3, HPA.out, HPB.out, HQA.out, HQB.out, if_pos rfl, if_neg hkb]; exact hgd)
            subst hpj
            clear hkb hgd hx
            go_upto_region 20 with (first | (go_at_call_of 28 (Value.int IntKind.i64 pa); (with_reducible refine (HKA.out _ OD).mono ?_); rintro e w' ⟨rfl, rfl⟩) | (go_at_call_of 28 (Value.int IntKind.i64 (j : Int)); (with_reducible refine (HKB.out _ OD).mono ?_); rintro e w' ⟨rfl, rfl⟩))
            have BZ1 := HBX.out.off5 (show bn ≠ bn + 1 by omega) (.int .i64 x.kind) (.int .i64 x.code) (.string x.wh) (.int .i64 x.a) (.int .i64 x.b)
            have NZ1 := HNX.out.put5 rfl (.int .i64 x.kind) (.int .i64 x.code) (.string x.wh) (.int .i64 x.a) (.int .i64 x.b)
            have OZ1 : Only (fun _ => False) wr (((((WD.setCell ⟨bn + 1, 0, none⟩ (.int .i64 x.kind)).setCell ⟨bn + 1, 1, none⟩ (.int .i64 x.code)).setCell ⟨bn + 1, 2, none⟩ (.string x.wh)).setCell ⟨bn + 1, 3, none⟩ (.int .i64 x.a)).setCell ⟨bn + 1, 4, none⟩ (.int .i64 x.b)) := Only.then_ OD (Only.put5 WD (bn + 1) (.int .i64 x.kind) (.int .i64 x.code) (.string x.wh) (.int .i64 x.a) (.int .i64 x.b)) (fun i hi e => absurd hi (by have := HBN.out; have : i = bn + 1 := e; omega))
            clear p0 p1 p2 p3 p4 pf_ z0 z1 z2 z3 z4 zf_ HBX HNX
            generalize (((((WD.setCell ⟨bn + 1, 0, none⟩ (.int .i64 x.kind)).setCell ⟨bn + 1, 1, none⟩ (.int .i64 x.code)).setCell ⟨bn + 1, 2, none⟩ (.string x.wh)).setCell ⟨bn + 1, 3, none⟩ (.int .i64 x.a)).setCell ⟨bn + 1, 4, none⟩ (.int .i64 x.b)) = WE at *
            obtain ⟨p0, p1, p2, p3, p4, pf_⟩ := Has.facts5 BZ1
            obtain ⟨z0, z1, z2, z3, z4, zf_⟩ := Has.facts5 NZ1
            have HBX := Lib.hid BZ1
            have HNX := Lib.hid NZ1
            clear BZ1 NZ1
            have OO := Lib.hid (HO.out.trans OZ1)
            have OW := Lib.hid (Only.own OZ1 HOWN.out (fun _ _ f => f))
            have LO2 : Hid (w.heap.size ≤ WE.heap.size) := Lib.hid (by have := HBN.out; have := Only.size OZ1; omega)
            have HX := Lib.hid (HS.out)
            clear HKA HKB HIA HIB HPA HPB HQA HQB
            go_wp2_with (at_builtin; go_must (refine wpList_append_own_at _ rfl _ _ 27 rfl w.heap.size 57 i0 (.agg #[.int .i64 0, .int .i64 0, .string ⟨#[]⟩, .int .i64 0, .int .i64 0]) 5 48 Tryd.underlying27 hi hz0 hz1 hz2 rfl (by decide) _ k (ncells ns) ?hs (OW.out.alloc _) ⟨WE.heap.size, 0, none⟩ 1 1 [.int .i64 x.kind, .int .i64 x.code, .string x.wh, .int .i64 x.a, .int .i64 x.b] ?hx rfl (cell_five_new WE _ _ _ _ _ _) ?c2 ?c3 ?c4 ?c5 ?_); (case hs => rfl); (case hx => rfl); (case c2 => intro y hy; simp only [List.mem_cons, List.not_mem_nil, or_false] at hy; rcases hy with rfl | rfl | rfl | rfl | rfl <;> rfl); (case c3 => unfold maxLen; omega); (case c4 => omega); (case c5 => have := LO2.out; simp; omega); intro v1 w1 ho1 hg1 _ hat1; obtain ⟨A1, d1, hv1⟩ := own_shape ho1; subst hv1)
            go_roundg (l.length - (k + 1))
            case rel => exact ⟨k + 1, _, rfl, by omega, by go_num, rfl, by rw [HT.out, ncells_snoc, HX.out]; exact ho1, Only.grown (OO.out.alloc _) hg1 (fun q e hq => by have := own_low OW.out e; omega)⟩
            case measure => have := HGK.out; omega
        · have hka2 : (ka == 0) = false := by simpa using hka
          have hka3 : (ka != 0) = true := by simpa using hka
          by_cases hkb : kb = 0
          · subst hkb
            obtain ⟨j, x, hpj, hx, hgd⟩ := HIA.out (by assumption)
            obtain ⟨-, hj, adn, hA0, y0, y1, y2, y3, y4⟩ := (HSL.out.only OD).at_ hx
            subst hA0
            have b0 := y0
            have b1 := row_cell (by decide) y1
            have b2 := row_cell (by decide) y2
            have b3 := row_cell (by decide) y3
            have b4 := row_cell (by decide) y4
            have hj0 : (0 : Int) ≤ (j : Int) := by omega
            have hj1 : (j : Int) < (k : Int) := by have := HLEN.out; omega
            clear y0 y1 y2 y3 y4
            have HS := Lib.hid (show stepN ns ⟨3, cd, wh, xa, xb⟩ = x from by rw [stepN_3, HPA.out, HPB.out, HQA.out, HQB.out, if_neg hka, if_pos rfl]; exact hgd)
            subst hpj
            clear hka hgd hx
            go_upto_region 18 with (first | (go_at_call_of 28 (Value.int IntKind.i64 (j : Int)); (with_reducible refine (HKA.out _ OD).mono ?_); rintro e w' ⟨rfl, rfl⟩) | (go_at_call_of 28 (Value.int IntKind.i64 pb); (with_reducible refine (HKB.out _ OD).mono ?_); rintro e w' ⟨rfl, rfl⟩))
            have BZ1 := HBX.out.off5 (show bn ≠ bn + 1 by omega) (.int .i64 x.kind) (.int .i64 x.code) (.string x.wh) (.int .i64 x.a) (.int .i64 x.b)
            have NZ1 := HNX.out.put5 rfl (.int .i64 x.kind) (.int .i64 x.code) (.string x.wh) (.int .i64 x.a) (.int .i64 x.b)
            have OZ1 : Only (fun _ => False) wr (((((WD.setCell ⟨bn + 1, 0, none⟩ (.int .i64 x.kind)).setCell ⟨bn + 1, 1, none⟩ (.int .i64 x.code)).setCell ⟨bn + 1, 2, none⟩ (.string x.wh)).setCell ⟨bn + 1, 3, none⟩ (.int .i64 x.a)).setCell ⟨bn + 1, 4, none⟩ (.int .i64 x.b)) := Only.then_ OD (Only.put5 WD (bn + 1) (.int .i64 x.kind) (.int .i64 x.code) (.string x.wh) (.int .i64 x.a) (.int .i64 x.b)) (fun i hi e => absurd hi (by have := HBN.out; have : i = bn + 1 := e; omega))
            clear p0 p1 p2 p3 p4 pf_ z0 z1 z2 z3 z4 zf_ HBX HNX
            generalize (((((WD.setCell ⟨bn + 1, 0, none⟩ (.int .i64 x.kind)).setCell ⟨bn + 1, 1, none⟩ (.int .i64 x.code)).setCell ⟨bn + 1, 2, none⟩ (.string x.wh)).setCell ⟨bn + 1, 3, none⟩ (.int .i64 x.a)).setCell ⟨bn + 1, 4, none⟩ (.int .i64 x.b)) = WE at *
            obtain ⟨p0, p1, p2, p3, p4, pf_⟩ := Has.facts5 BZ1
            obtain ⟨z0, z1, z2, z3, z4, zf_⟩ := Has.facts5 NZ1
            have HBX := Lib.hid BZ1
            have HNX := Lib.hid NZ1
            clear BZ1 NZ1
            go_upto_region 20 with (first | (go_at_call_of 28 (Value.int IntKind.i64 (j : Int)); (with_reducible refine (HKA.out _ OZ1).mono ?_); rintro e w' ⟨rfl, rfl⟩) | (go_at_call_of 28 (Value.int IntKind.i64 pb); (with_reducible refine (HKB.out _ OZ1).mono ?_); rintro e w' ⟨rfl, rfl⟩))
            have OO := Lib.hid (HO.out.trans OZ1)
            have OW := Lib.hid (Only.own OZ1 HOWN.out (fun _ _ f => f))
            have LO2 : Hid (w.heap.size ≤ WE.heap.size) := Lib.hid (by have := HBN.out; have := Only.size OZ1; omega)
            have HX := Lib.hid (HS.out)
            clear HKA HKB HIA HIB HPA HPB HQA HQB
            go_wp2_with (at_builtin; go_must (refine wpList_append_own_at _ rfl _ _ 27 rfl w.heap.size 57 i0 (.agg #[.int .i64 0, .int .i64 0, .string ⟨#[]⟩, .int .i64 0, .int .i64 0]) 5 48 Tryd.underlying27 hi hz0 hz1 hz2 rfl (by decide) _ k (ncells ns) ?hs (OW.out.alloc _) ⟨WE.heap.size, 0, none⟩ 1 1 [.int .i64 x.kind, .int .i64 x.code, .string x.wh, .int .i64 x.a, .int .i64 x.b] ?hx rfl (cell_five_new WE _ _ _ _ _ _) ?c2 ?c3 ?c4 ?c5 ?_); (case hs => rfl); (case hx => rfl); (case c2 => intro y hy; simp only [List.mem_cons, List.not_mem_nil, or_false] at hy; rcases hy with rfl | rfl | rfl | rfl | rfl <;> rfl); (case c3 => unfold maxLen; omega); (case c4 => omega); (case c5 => have := LO2.out; simp; omega); intro v1 w1 ho1 hg1 _ hat1; obtain ⟨A1, d1, hv1⟩ := own_shape ho1; subst hv1)
            go_roundg (l.length - (k + 1))
            case rel => exact ⟨k + 1, _, rfl, by omega, by go_num, rfl, by rw [HT.out, ncells_snoc, HX.out]; exact ho1, Only.grown (OO.out.alloc _) hg1 (fun q e hq => by have := own_low OW.out e; omega)⟩
            case measure => have := HGK.out; omega
          · have hkb2 : (kb == 0) = false := by simpa using hkb
            have hkb3 : (kb != 0) = true := by simpa using hkb
            have HS := Lib.hid (show stepN ns ⟨3, cd, wh, xa, xb⟩ = ⟨4, 0, noS, pa, pb⟩ from by rw [stepN_3, HPA.out, HPB.out, HQA.out, HQB.out, if_neg hka, if_neg hkb])
            clear hka hkb
            go_upto_region 16 with (first | (go_at_call_of 28 (Value.int IntKind.i64 pa); (with_reducible refine (HKA.out _ OD).mono ?_); rintro e w' ⟨rfl, rfl⟩) | (go_at_call_of 28 (Value.int IntKind.i64 pb); (with_reducible refine (HKB.out _ OD).mono ?_); rintro e w' ⟨rfl, rfl⟩))
            have BZ1 := HBX.out.off5 (show bn ≠ bn + 1 by omega) (.int .i64 4) (.int .i64 0) (.string ⟨#[]⟩) (.int .i64 pa) (.int .i64 pb)
            have NZ1 := HNX.out.put5 rfl (.int .i64 4) (.int .i64 0) (.string ⟨#[]⟩) (.int .i64 pa) (.int .i64 pb)
            have OZ1 : Only (fun _ => False) wr (((((WD.setCell ⟨bn + 1, 0, none⟩ (.int .i64 4)).setCell ⟨bn + 1, 1, none⟩ (.int .i64 0)).setCell ⟨bn + 1, 2, none⟩ (.string ⟨#[]⟩)).setCell ⟨bn + 1, 3, none⟩ (.int .i64 pa)).setCell ⟨bn + 1, 4, none⟩ (.int .i64 pb)) := Only.then_ OD (Only.put5 WD (bn + 1) (.int .i64 4) (.int .i64 0) (.string ⟨#[]⟩) (.int .i64 pa) (.int .i64 pb)) (fun i hi e => absurd hi (by have := HBN.out; have : i = bn + 1 := e; omega))
            clear p0 p1 p2 p3 p4 pf_ z0 z1 z2 z3 z4 zf_ HBX HNX
            generalize (((((WD.setCell ⟨bn + 1, 0, none⟩ (.int .i64 4)).setCell ⟨bn + 1, 1, none⟩ (.int .i64 0)).setCell ⟨bn + 1, 2, none⟩ (.string ⟨#[]⟩)).setCell ⟨bn + 1, 3, none⟩ (.int .i64 pa)).setCell ⟨bn + 1, 4, none⟩ (.int .i64 pb)) = WE at *
            obtain ⟨p0, p1, p2, p3, p4, pf_⟩ := Has.facts5 BZ1
            obtain ⟨z0, z1, z2, z3, z4, zf_⟩ := Has.facts5 NZ1
            have HBX := Lib.hid BZ1
            have HNX := Lib.hid NZ1
            clear BZ1 NZ1
            go_upto_region 20 with (first | (go_at_call_of 28 (Value.int IntKind.i64 pa); (with_reducible refine (HKA.out _ OZ1).mono ?_); rintro e w' ⟨rfl, rfl⟩) | (go_at_call_of 28 (Value.int IntKind.i64 pb); (with_reducible refine (HKB.out _ OZ1).mono ?_); rintro e w' ⟨rfl, rfl⟩))
            have OO := Lib.hid (HO.out.trans OZ1)
            have OW := Lib.hid (Only.own OZ1 HOWN.out (fun _ _ f => f))
            have LO2 : Hid (w.heap.size ≤ WE.heap.size) := Lib.hid (by have := HBN.out; have := Only.size OZ1; omega)
            have HX := Lib.hid (HS.out)
            clear HKA HKB HIA HIB HPA HPB HQA HQB
            go_wp2_with (at_builtin; go_must (refine wpList_append_own_at _ rfl _ _ 27 rfl w.heap.size 57 i0 (.agg #[.int .i64 0, .int .i64 0, .string ⟨#[]⟩, .int .i64 0, .int .i64 0]) 5 48 Tryd.underlying27 hi hz0 hz1 hz2 rfl (by decide) _ k (ncells ns) ?hs (OW.out.alloc _) ⟨WE.heap.size, 0, none⟩ 1 1 [.int .i64 4, .int .i64 0, .string ⟨#[]⟩, .int .i64 pa, .int .i64 pb] ?hx rfl (cell_five_new WE _ _ _ _ _ _) ?c2 ?c3 ?c4 ?c5 ?_); (case hs => rfl); (case hx => rfl); (case c2 => intro y hy; simp only [List.mem_cons, List.not_mem_nil, or_false] at hy; rcases hy with rfl | rfl | rfl | rfl | rfl <;> rfl); (case c3 => unfold maxLen; omega); (case c4 => omega); (case c5 => have := LO2.out; simp; omega); intro v1 w1 ho1 hg1 _ hat1; obtain ⟨A1, d1, hv1⟩ := own_shape ho1; subst hv1)
            go_roundg (l.length - (k + 1))
            case rel => exact ⟨k + 1, _, rfl, by omega, by go_num, rfl, by rw [HT.out, ncells_snoc, HX.out]; exact ho1, Only.grown (OO.out.alloc _) hg1 (fun q e hq => by have := own_low OW.out e; omega)⟩
            case measure => have := HGK.out; omega
      · have HS := Lib.hid (show stepN ns ⟨kd, cd, wh, xa, xb⟩ = ⟨0, 0, noS, 0, 0⟩ from stepN_e _ _ _ _ _ _ (by simpa using q0) (by simpa using q1) (by simpa using q2) (by simpa using q3))
        go_upto_region 20 with fail
        have OO := Lib.hid (HO.out.trans OD)
        have OW := Lib.hid (Only.own OD HOWN.out (fun _ _ f => f))
        have LO2 : Hid (w.heap.size ≤ WD.heap.size) := Lib.hid (by have := HBN.out; have := Only.size OD; omega)
        have HX := Lib.hid (HS.out)
        clear HKA HKB HIA HIB HPA HPB HQA HQB
        go_wp2_with (at_builtin; go_must (refine wpList_append_own_at _ rfl _ _ 27 rfl w.heap.size 57 i0 (.agg #[.int .i64 0, .int .i64 0, .string ⟨#[]⟩, .int .i64 0, .int .i64 0]) 5 48 Tryd.underlying27 hi hz0 hz1 hz2 rfl (by decide) _ k (ncells ns) ?hs (OW.out.alloc _) ⟨WD.heap.size, 0, none⟩ 1 1 [.int .i64 0, .int .i64 0, .string ⟨#[]⟩, .int .i64 0, .int .i64 0] ?hx rfl (cell_five_new WD _ _ _ _ _ _) ?c2 ?c3 ?c4 ?c5 ?_); (case hs => rfl); (case hx => rfl); (case c2 => intro y hy; simp only [List.mem_cons, List.not_mem_nil, or_false] at hy; rcases hy with rfl | rfl | rfl | rfl | rfl <;> rfl); (case c3 => unfold maxLen; omega); (case c4 => omega); (case c5 => have := LO2.out; simp; omega); intro v1 w1 ho1 hg1 _ hat1; obtain ⟨A1, d1, hv1⟩ := own_shape ho1; subst hv1)
        go_roundg (l.length - (k + 1))
        case rel => exact ⟨k + 1, _, rfl, by omega, by go_num, rfl, by rw [HT.out, ncells_snoc, HX.out]; exact ho1, Only.grown (OO.out.alloc _) hg1 (fun q e hq => by have := own_low OW.out e; omega)⟩
        case measure => have := HGK.out; omega
    · obtain rfl : k = l.length := by omega
      rw [List.take_length] at hown
      have HO := Lib.hid ho
      have HOWN := Lib.hid hown
      clear ho hown
      go_wp2_with fail
      go_ret
      exact ⟨_, rfl, HOWN.out, HO.out⟩
end Go.Proofs.YthagbbeppklpmaaDoor
