/- Chapter 1: errors.As at any error, the target a *Fault variable. -/
import Derived.Test.YthagbbeppklpmaaDoorEt
set_option linter.unusedSimpArgs false
set_option linter.unusedVariables false
namespace Go.Proofs.YthagbbeppklpmaaDoor
open Go.RowKit Go.Extern.Stop Go.Stop Go.Extern

theorem typeOf_pj (v : Value) (w : World) : (ReflectliteType.typeOf #[.iface 91 v]).run Tryd.prog w = .ok (.iface 95 (.agg #[.pointer (some ⟨1, 91, none⟩)])) w := by kernel_rfl
theorem typeOf_pn (v : Value) (w : World) : (ReflectliteType.typeOf #[.iface 46 v]).run Tryd.prog w = .ok (.iface 95 (.agg #[.pointer (some ⟨1, 46, none⟩)])) w := by kernel_rfl
theorem assign_pj (w : World) : (ReflectliteType.relation "AssignableTo" ReflectliteType.assignableTo #[.agg #[.pointer (some ⟨1, 91, none⟩)], .iface 95 (.agg #[.pointer (some ⟨1, 59, none⟩)])]).run Tryd.prog w = .ok (.bool false) w := by kernel_rfl
theorem assign_pn (w : World) : (ReflectliteType.relation "AssignableTo" ReflectliteType.assignableTo #[.agg #[.pointer (some ⟨1, 46, none⟩)], .iface 95 (.agg #[.pointer (some ⟨1, 59, none⟩)])]).run Tryd.prog w = .ok (.bool false) w := by kernel_rfl

/-- The reflected value of the target. -/
def tgt (a : Nat) : Value := .agg #[.pointer (some ⟨1, 61, none⟩), .pointer (some ⟨a, 0, none⟩), .int .u64 150]
def tty : Value := .iface 95 (.agg #[.pointer (some ⟨1, 59, none⟩)])
def AsPost (t : Tr) (p : Nat) (old : Value) (w : World) (e : Ending) (w' : World) : Prop :=
  (match t.place with
    | .none => e = .returned (.bool false) ∧ Has w' p 59 #[old]
    | .some s => e = .returned (.bool true) ∧ ∃ b c u, Has w' p 59 #[.pointer (some ⟨b, 0, none⟩)] ∧ Has w' b 63 #[c, .string s, u]) ∧ Only (· = p) w w'
theorem as_pf (w : World) (b p a : Nat) (old c u : Value) (s : ByteArray) (hb : Has w b 63 #[c, .string s, u]) (hp : Has w p 59 #[old]) (ha : w.cell? ⟨a, 0, none⟩ = some (.pointer (some ⟨p, 0, none⟩))) :
    Calls Tryd.prog 39 #[pf b, .iface 61 (.pointer (some ⟨p, 0, none⟩)), tgt a, tty] w fun e w' => e = .returned (.bool true) ∧ Has w' p 59 #[.pointer (some ⟨b, 0, none⟩)] ∧ Only (· = p) w w' := by
  have h6 := @run_callFunc_extern Tryd.prog 36 _ (fun args => ReflectliteValue.unpack (args.getD 0 (.tuple #[]))) Tryd.func36 (by kernel_rfl) (by kernel_rfl) (by kernel_rfl) (by kernel_rfl)
  have h10 := @run_callFunc_extern Tryd.prog 40 _ ReflectliteType.typeOf Tryd.func40 (by kernel_rfl) (by kernel_rfl) (by kernel_rfl) (by kernel_rfl)
  have h35 := @run_callFunc_extern Tryd.prog 69 _ (ReflectliteType.relation "AssignableTo" ReflectliteType.assignableTo) Tryd.func69 (by kernel_rfl) (by kernel_rfl) (by kernel_rfl) (by kernel_rfl)
  have h11 := @run_callFunc_extern Tryd.prog 42 _ (ReflectliteValue.method (ReflectliteValue.valueError "reflectlite.Value.Elem" 0) ReflectliteValue.elem) Tryd.func42 (by kernel_rfl) (by kernel_rfl) (by kernel_rfl) (by kernel_rfl)
  have h12 := @run_callFunc_extern Tryd.prog 43 _ ReflectliteValue.set Tryd.func43 (by kernel_rfl) (by kernel_rfl) (by kernel_rfl) (by kernel_rfl)
  have tO := as_typeOf25
  have mA := as_methodAssignableTo
  have a25 := as_assignable25
  have v25 := as_valueOf25
  have hal : a < w.heap.size := by
    rcases Nat.lt_or_ge a w.heap.size with h | h
    · exact h
    · simp [World.cell?, Array.getElem?_eq_none h] at ha
  have el := as_elemV27 ⟨a, 0, none⟩ ⟨p, 0, none⟩ (w.alloc (.cells #[.pointer (some ⟨1, 61, none⟩), .pointer (some ⟨a, 0, none⟩), .int .u64 150] 76)) (by rw [World.cell?_alloc_lt _ _ ⟨a, 0, none⟩ hal]; exact ha)
  have P2 := (hp.alloc (.cells #[.pointer (some ⟨1, 61, none⟩), .pointer (some ⟨a, 0, none⟩), .int .u64 150] 76)).alloc (.cells #[.pointer (some ⟨b, 0, none⟩)] 59)
  have st := as_set25 ⟨p, 0, none⟩ ⟨w.heap.size + 1, 0, none⟩ ⟨b, 0, none⟩ old ((w.alloc (.cells #[.pointer (some ⟨1, 61, none⟩), .pointer (some ⟨a, 0, none⟩), .int .u64 150] 76)).alloc (.cells #[.pointer (some ⟨b, 0, none⟩)] 59))
    (by rw [World.cell?_alloc_at _ _ _ _ (by simp)]; rfl) (P2.cell 0) (P2.free 0)
  have HP2 := Lib.hid P2
  clear P2 hp hb
  unfold pf tgt tty
  go_enter Tryd.func39, Tryd.ntmps39
  go_wp2
  refine wp_loop_rounds 1 ?_
  rw [rounds_succ]
  go_wp2
  go_ret
  exact ⟨rfl, HP2.out.put 0 _ rfl, (((Only.refl (fun j => j = p) w).alloc _).alloc _).setCell ⟨p, 0, none⟩ _ (fun _ => (rfl : p = p))⟩
set_option maxRecDepth 100000 in
set_option maxHeartbeats 4000000 in
theorem as_tr : ∀ (t : Tr) (w : World) (av : Option Nat) (v : Value) (p a : Nat) (old : Value), TrAt w av t v → t.some = true → Has w p 59 #[old] → w.cell? ⟨a, 0, none⟩ = some (.pointer (some ⟨p, 0, none⟩)) → a ≠ p →
    Calls Tryd.prog 39 #[v, .iface 61 (.pointer (some ⟨p, 0, none⟩)), tgt a, tty] w (AsPost t p old w)
  | .none, w, av, v, p, a, old, h, hs, hp, ha, hap => by cases hs
  | .root c s, w, av, v, p, a, old, ⟨b, e, hb⟩, hs, hp, ha, hap => by
    subst e
    refine (as_pf w b p a old _ _ s hb hp ha).mono ?_
    rintro e w' ⟨he, h1, o⟩
    exact ⟨⟨he, b, _, _, h1, o.has hb (hb.apart hp (by decide))⟩, o⟩
  | .wrap s t, w, av, v, p, a, old, ⟨b, u, e, hb, _, _⟩, hs, hp, ha, hap => by
    subst e
    refine (as_pf w b p a old _ _ s hb hp ha).mono ?_
    rintro e w' ⟨he, h1, o⟩
    exact ⟨⟨he, b, _, _, h1, o.has hb (hb.apart hp (by decide))⟩, o⟩
  | .num c, w, av, v, p, a, old, h, hs, hp, ha, hap => by
    obtain rfl : v = pn c := h
    have h10 := @run_callFunc_extern Tryd.prog 40 _ ReflectliteType.typeOf Tryd.func40 (by kernel_rfl) (by kernel_rfl) (by kernel_rfl) (by kernel_rfl)
    have h35 := @run_callFunc_extern Tryd.prog 69 _ (ReflectliteType.relation "AssignableTo" ReflectliteType.assignableTo) Tryd.func69 (by kernel_rfl) (by kernel_rfl) (by kernel_rfl) (by kernel_rfl)
    have tO := typeOf_pn
    have mA := as_methodAssignableTo
    have aN := assign_pn
    have t1 := as_pn
    have t2 := unwrap_pn
    have t3 := list_pn
    have HP := Lib.hid hp
    clear hp ha
    unfold pn tgt tty
    go_enter Tryd.func39, Tryd.ntmps39
    go_wp2
    refine wp_loop_rounds 1 ?_
    rw [rounds_succ]
    go_wp2
    go_ret
    exact ⟨⟨rfl, HP.out.alloc _⟩, (Only.refl (fun j => j = p) w).alloc _⟩
  | .both x y, w, av, v, p, a, old, ⟨b, g, n, u1, u2, e, hb, hg, hne, hx, hy, tx, ty⟩, hs, hp, ha, hap => by
    subst e
    have I1 := Lib.hid (fun W (h : TrAt W av x u1) h2 h3 => as_tr x W av u1 p a old h hx h2 h3 hap)
    have I2 := Lib.hid (fun W (h : TrAt W av y u2) h2 h3 => as_tr y W av u2 p a old h hy h2 h3 hap)
    have h10 := @run_callFunc_extern Tryd.prog 40 _ ReflectliteType.typeOf Tryd.func40 (by kernel_rfl) (by kernel_rfl) (by kernel_rfl) (by kernel_rfl)
    have h35 := @run_callFunc_extern Tryd.prog 69 _ (ReflectliteType.relation "AssignableTo" ReflectliteType.assignableTo) Tryd.func69 (by kernel_rfl) (by kernel_rfl) (by kernel_rfl) (by kernel_rfl)
    have tO := typeOf_pj
    have mA := as_methodAssignableTo
    have aN := assign_pj
    have t1 := as_pj
    have t2 := unwrap_pj
    have t3 := list_pj
    have t4 := method_list
    have hal : a < w.heap.size := by
      rcases Nat.lt_or_ge a w.heap.size with h | h
      · exact h
      · simp [World.cell?, Array.getElem?_eq_none h] at ha
    obtain ⟨T1, x1, rfl⟩ := tx.iface hx
    obtain ⟨T2, x2, rfl⟩ := ty.iface hy
    have oB : Only (fun _ => False) w (w.alloc (.cells #[.pointer (some ⟨1, 61, none⟩), .pointer (some ⟨a, 0, none⟩), .int .u64 150] 76)) := (Only.refl _ _).alloc _
    have V0 := Has.new w 76 #[.pointer (some ⟨1, 61, none⟩), .pointer (some ⟨a, 0, none⟩), .int .u64 150]
    have HL := Lib.hid (list_any (w.alloc (.cells #[.pointer (some ⟨1, 61, none⟩), .pointer (some ⟨a, 0, none⟩), .int .u64 150] 76)) b _ (hb.alloc _))
    have G1 := hg.only oB (fun _ _ f => f)
    have P1 := hp.alloc (.cells #[.pointer (some ⟨1, 61, none⟩), .pointer (some ⟨a, 0, none⟩), .int .u64 150] 76)
    have A1 : (w.alloc (.cells #[.pointer (some ⟨1, 61, none⟩), .pointer (some ⟨a, 0, none⟩), .int .u64 150] 76)).cell? ⟨a, 0, none⟩ = some (.pointer (some ⟨p, 0, none⟩)) := oB.cell ha (fun f => f)
    have TX := Lib.hid (tx.keep oB)
    have TY := Lib.hid (ty.keep oB)
    have hpl := hp.lt
    have OB := Lib.hid oB
    clear hb hg hp ha tx ty oB
    generalize hW : w.alloc (.cells #[.pointer (some ⟨1, 61, none⟩), .pointer (some ⟨a, 0, none⟩), .int .u64 150] 76) = W0 at *
    have HW := Lib.hid hW
    clear hW
    have GG := Lib.hid G1
    have PP := Lib.hid P1
    have AA := Lib.hid A1
    have VV := Lib.hid V0
    have c0 : W0.cell? ⟨g, 0, none⟩ = some (.iface T1 x1) := G1.c0
    have v0 := V0.cell 0
    have v1 := V0.cell 1
    have v2 := V0.cell 2
    have HNE : Hid (∀ k, k = w.heap.size → k ≠ p) := Lib.hid (fun k e => by omega)
    have HNA := Lib.hid (show ∀ (W : World) g cs, Has W p 59 #[old] → Has W g 32 cs → g ≠ p from fun W g cs h1 h2 => (h2.apart h1 (by decide)))
    clear G1 P1 A1 V0
    unfold pj tgt tty
    go_enter Tryd.func39, Tryd.ntmps39
    go_wp2_with fail
    rw [show w.alloc (.cells #[.pointer (some ⟨1, 61, none⟩), .pointer (some ⟨a, 0, none⟩), .int .u64 150] 76) = W0 from HW.out]
    refine wp_loop_rounds 1 ?_
    rw [rounds_succ]
    go_wp2_with fail
    refine (HL.out).mono ?_
    rintro e w' ⟨rfl, rfl⟩
    go_wp2_with fail
    refine wp_loop_rounds 3 ?_
    rw [rounds_succ]
    go_wp2_with fail
    refine (I1.out _ TX.out PP.out AA.out).mono ?_
    rintro e w1 ⟨hm, o1⟩
    have O1 := ((Only.refl (fun j => j = p) w).then_ OB.out (fun _ _ f => f.elim)).trans o1
    rcases hpx : x.place with _ | s
    · rw [hpx] at hm
      obtain ⟨rfl, P1⟩ := hm
      have HPX := Lib.hid hpx
      have g1 : w1.cell? ⟨g, 1, none⟩ = some (.iface T2 x2) := (GG.out.only o1 (fun cs hc => HNA.out _ _ _ PP.out hc)).c1
      have V1 := o1.has VV.out (HNE.out _ rfl)
      have y0 := V1.cell 0
      have y1 := V1.cell 1
      have y2 := V1.cell 2
      have A1 : w1.cell? ⟨a, 0, none⟩ = some (.pointer (some ⟨p, 0, none⟩)) := o1.cell AA.out hap
      have TY1 := Lib.hid (TY.out.only o1 (fun k cs h e => by subst e; exact (h.apart PP.out (by decide)) rfl) (fun k cs h e => by subst e; exact (h.apart PP.out (by decide)) rfl) (fun k cs h _ e => by subst e; exact (h.apart PP.out (by decide)) rfl))
      have O1H := Lib.hid O1
      clear hpx V1 O1 o1
      go_wp2_with fail
      rw [rounds_succ]
      go_wp2_with fail
      refine (I2.out _ TY1.out P1 A1).mono ?_
      rintro e w2 ⟨hm2, o2⟩
      have O2 := Lib.hid (O1H.out.trans o2)
      rcases hpy : y.place with _ | s
      · rw [hpy] at hm2
        obtain ⟨rfl, P2⟩ := hm2
        have HPY := Lib.hid hpy
        have HPP := Lib.hid P2
        clear hpy P2 P1 A1 y0 y1 y2 o2
        go_wp2_with fail
        rw [rounds_succ]
        go_wp2_with fail
        go_ret
        refine ⟨?_, O2.out⟩
        rw [show (Tr.both x y).place = none by unfold Tr.place; rw [HPX.out]; exact HPY.out]
        exact ⟨rfl, HPP.out⟩
      · rw [hpy] at hm2
        obtain ⟨rfl, P2⟩ := hm2
        have HPY := Lib.hid hpy
        have HPP := Lib.hid P2
        clear hpy P2 P1 A1 y0 y1 y2 o2
        go_wp2_with fail
        go_ret
        refine ⟨?_, O2.out⟩
        rw [show (Tr.both x y).place = some s by unfold Tr.place; rw [HPX.out]; exact HPY.out]
        exact ⟨rfl, HPP.out⟩
    · rw [hpx] at hm
      obtain ⟨rfl, P1⟩ := hm
      have HPX := Lib.hid hpx
      have HPP := Lib.hid P1
      have O1H := Lib.hid O1
      clear hpx P1 O1 o1
      go_wp2_with fail
      go_ret
      refine ⟨?_, O1H.out⟩
      rw [show (Tr.both x y).place = some s by unfold Tr.place; rw [HPX.out]]
      exact ⟨rfl, HPP.out⟩

set_option maxRecDepth 100000 in
set_option maxHeartbeats 4000000 in
/-- errors.As at any error. -/
theorem asf_tr (t : Tr) (w : World) (av : Option Nat) (v : Value) (p : Nat) (old : Value) (h : TrAt w av t v) (hs : t.some = true) (hp : Has w p 59 #[old]) (hE : Et w) :
    Calls Tryd.prog 29 #[v, .iface 61 (.pointer (some ⟨p, 0, none⟩))] w (AsPost t p old w) := by
  have h6 := @run_callFunc_extern Tryd.prog 36 _ (fun args => ReflectliteValue.unpack (args.getD 0 (.tuple #[]))) Tryd.func36 (by kernel_rfl) (by kernel_rfl) (by kernel_rfl) (by kernel_rfl)
  have h7 := @run_callFunc_extern Tryd.prog 37 _ (ReflectliteValue.methodAny (ReflectliteValue.valueError "reflectlite.Value.Type" 0) (fun t _ _ _ => ReflectliteType.toType t)) Tryd.func37 (by kernel_rfl) (by kernel_rfl) (by kernel_rfl) (by kernel_rfl)
  have h8 := @run_callFunc_extern Tryd.prog 38 _ (ReflectliteValue.method (ReflectliteValue.valueError "reflectlite.Value.IsNil" 0) ReflectliteValue.isNil) Tryd.func38 (by kernel_rfl) (by kernel_rfl) (by kernel_rfl) (by kernel_rfl)
  have h27 := @run_callFunc_extern Tryd.prog 58 _ (ReflectliteType.abiMethod fun t => do pure (.int .u8 (← Rtype.kind t))) Tryd.func58 (by kernel_rfl) (by kernel_rfl) (by kernel_rfl) (by kernel_rfl)
  have h37 := @run_callFunc_extern Tryd.prog 71 _ (ReflectliteType.method ReflectliteType.elem) Tryd.func71 (by kernel_rfl) (by kernel_rfl) (by kernel_rfl) (by kernel_rfl)
  have h38 := @run_callFunc_extern Tryd.prog 72 _ (ReflectliteType.relation "Implements" ReflectliteType.implements_) Tryd.func72 (by kernel_rfl) (by kernel_rfl) (by kernel_rfl) (by kernel_rfl)
  have f6 := as_valueOf27
  have f7 := as_type27
  have mK := as_methodKind
  have mE := as_methodElem
  have mI := as_methodImplements
  have k27 := as_kind27
  have k25 := as_kind25
  have e27 := as_elem27
  have i25 := as_implements25
  have n8 := as_isNil27 ⟨w.heap.size, 0, none⟩ ⟨p, 0, none⟩ ((w.alloc (.cells #[.pointer (some ⟨p, 0, none⟩)] 61)).alloc (.cells #[.pointer (some ⟨1, 61, none⟩), .pointer (some ⟨w.heap.size, 0, none⟩), .int .u64 150] 76)) (by simp)
  have o2 : Only (fun _ => False) w ((w.alloc (.cells #[.pointer (some ⟨p, 0, none⟩)] 61)).alloc (.cells #[.pointer (some ⟨1, 61, none⟩), .pointer (some ⟨w.heap.size, 0, none⟩), .int .u64 150] 76)) := ((Only.refl _ _).alloc _).alloc _
  have hg2 := hE.only o2 (fun f => f)
  unfold Et at hg2
  have hpl := hp.lt
  have a2 : ((w.alloc (.cells #[.pointer (some ⟨p, 0, none⟩)] 61)).alloc (.cells #[.pointer (some ⟨1, 61, none⟩), .pointer (some ⟨w.heap.size, 0, none⟩), .int .u64 150] 76)).cell? ⟨w.heap.size, 0, none⟩ = some (.pointer (some ⟨p, 0, none⟩)) := ((Has.new w 61 #[.pointer (some ⟨p, 0, none⟩)]).alloc _).cell 0
  have IA := Lib.hid (as_tr t _ av v p w.heap.size old (h.keep o2) hs ((hp.alloc (.cells #[.pointer (some ⟨p, 0, none⟩)] 61)).alloc (.cells #[.pointer (some ⟨1, 61, none⟩), .pointer (some ⟨w.heap.size, 0, none⟩), .int .u64 150] 76)) a2 (by omega))
  have O2 := Lib.hid ((Only.refl (fun j => j = p) w).then_ o2 (fun _ _ f => f.elim))
  obtain ⟨T, x, rfl⟩ := h.iface hs
  clear h hp o2 a2
  go_enter Tryd.func29, Tryd.ntmps29
  go_wp2_with (go_at_call 39; fail)
  refine (IA.out).mono ?_
  rintro e w1 ⟨hm, o1⟩
  have O3 := Lib.hid (O2.out.trans o1)
  rcases hpx : t.place with _ | s
  · rw [hpx] at hm
    obtain ⟨rfl, P1⟩ := hm
    have HPX := Lib.hid hpx
    have HPP := Lib.hid P1
    clear hpx P1 o1
    go_wp2_with fail
    go_ret
    refine ⟨?_, O3.out⟩
    rw [HPX.out]
    exact ⟨rfl, HPP.out⟩
  · rw [hpx] at hm
    obtain ⟨rfl, P1⟩ := hm
    have HPX := Lib.hid hpx
    have HPP := Lib.hid P1
    clear hpx P1 o1
    go_wp2_with fail
    go_ret
    refine ⟨?_, O3.out⟩
    rw [HPX.out]
    exact ⟨rfl, HPP.out⟩
end Go.Proofs.YthagbbeppklpmaaDoor
