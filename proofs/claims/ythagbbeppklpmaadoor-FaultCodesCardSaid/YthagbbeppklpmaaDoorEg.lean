/- Chapter 1: fault.Has at any error; numbers; the reference's Ints. -/
import Derived.Test.YthagbbeppklpmaaDoorEf
import Derived.BigQuiet
import Derived.Deep.QuietTactic
set_option linter.unusedSimpArgs false
set_option linter.unusedVariables false
namespace Go.Proofs.YthagbbeppklpmaaDoor
open Go.RowKit Go.Extern.Stop Go.Stop Go.Extern

theorem as_methodComparable (h : Value) (w : World) : (Go.method 235 95 (.agg #[h]) "Comparable").run Tryd.prog w = .ok (70, .agg #[h]) w := by kernel_rfl
theorem as_comparable (w : World) : (ReflectliteType.method (fun t => do Rtype.noPackHeld "Comparable" t; (fun a => Value.bool a.comparable) <$> typeInfo t) #[.agg #[.pointer (some ⟨1, 46, none⟩)]]).run Tryd.prog w = .ok (.bool true) w := by kernel_rfl
set_option maxRecDepth 100000 in
theorem isf_tr (c : Int) (t : Tr) (w : World) (av : Option Nat) (v : Value) (h : TrAt w av t v) (hs : t.some = true) :
    Calls Tryd.prog 34 #[v, pn c] w fun e w' => e = .returned (.bool (t.hasC c)) ∧ w = w' := by
  have h10 := @run_callFunc_extern Tryd.prog 40 _ ReflectliteType.typeOf Tryd.func40 (by kernel_rfl) (by kernel_rfl) (by kernel_rfl) (by kernel_rfl)
  have h35 := @run_callFunc_extern Tryd.prog 70 _ (ReflectliteType.method (fun t => do Rtype.noPackHeld "Comparable" t; pure (.bool (← typeInfo t).comparable))) Tryd.func70 (by kernel_rfl) (by kernel_rfl) (by kernel_rfl) (by kernel_rfl)
  have tO := typeOf_pn
  have mC := as_methodComparable
  have aC := as_comparable
  have IH := Lib.hid (is_tr c t.size t w av v (Nat.le_refl _) h hs)
  obtain ⟨T, x, rfl⟩ := h.iface hs
  clear h hs
  unfold pn at IH ⊢
  go_enter Tryd.func34, Tryd.ntmps34
  go_wp2_with (go_at_call 41; fail)
  refine (IH.out).mono ?_
  rintro e w1 ⟨rfl, rfl⟩
  go_wp2_with fail
  go_ret
  exact ⟨rfl, rfl⟩
/-- What fault.Has says. -/
def Tr.hasAny (t : Tr) (c : Int) : Bool := if c = 0 then !t.some else t.hasC c
set_option maxRecDepth 100000 in
theorem has_tr (c : Int) (t : Tr) (w : World) (av : Option Nat) (v : Value) (h : TrAt w av t v) :
    Calls Tryd.prog 22 #[v, .int .i64 c] w fun e w' => e = .returned (.bool (t.hasAny c)) ∧ w = w' := by
  by_cases hc : c = 0
  · subst hc
    have hh : t.hasAny 0 = !t.some := rfl
    rw [hh]
    clear hh
    by_cases hs : t.some = true
    · obtain ⟨T, x, rfl⟩ := h.iface hs
      rw [hs]
      clear h hs
      go_enter Tryd.func22, Tryd.ntmps22
      go_wp2_with fail
      go_ret
      exact ⟨rfl, rfl⟩
    · rcases t with _ | _ | _ | _ | _
      · obtain rfl : v = .nilIface := h
        exact has_nil_ok w
      all_goals exact absurd rfl hs
  · have hh : t.hasAny c = t.hasC c := by unfold Tr.hasAny; rw [if_neg hc]
    rw [hh]
    have hc2 : (c == 0) = false := by simpa using hc
    clear hh hc
    by_cases hs : t.some = true
    · have IH := Lib.hid (isf_tr c t w av v h hs)
      clear h hs
      unfold pn at IH
      go_enter Tryd.func22, Tryd.ntmps22
      go_wp2_with fail
      refine (IH.out).mono ?_
      rintro e w1 ⟨rfl, rfl⟩
      go_wp2_with fail
      go_ret
      exact ⟨rfl, rfl⟩
    · rcases t with _ | _ | _ | _ | _
      · obtain rfl : v = .nilIface := h
        have hq : ∀ W, (binOp .eql 32 .nilIface (.iface 46 (.int .i64 c))).run Tryd.prog W = .ok (.bool false) W := fun W => run_eql_iface_nil_left (P := Tryd.prog) (w := W) 46 (.int .i64 c) Tryd.underlying32
        have hn : Calls Tryd.prog 34 #[.nilIface, .iface 46 (.int .i64 c)] w fun e w' => e = .returned (.bool false) ∧ w = w' := by
          go_enter Tryd.func34, Tryd.ntmps34
          go_wp2_with fail
          go_ret
          exact ⟨rfl, rfl⟩
        have IH := Lib.hid hn
        clear hn hq hs
        go_enter Tryd.func22, Tryd.ntmps22
        go_wp2_with fail
        refine (IH.out).mono ?_
        rintro e w1 ⟨rfl, rfl⟩
        go_wp2_with fail
        go_ret
        exact ⟨rfl, rfl⟩
      all_goals exact absurd rfl hs

/-- The value is a slice of these numbers. -/
def SlI (W : World) (v : Value) (l : List Int) : Prop := ∃ A c, v = .slice A l.length c ∧ ∀ i, (h : i < l.length) → ∃ ad, A = some ad ∧ W.cell? (ad.add i) = some (.int .i64 l[i])
theorem slI_own {W : World} {base : Nat} {v : Value} {e : TypeId} {l : List Int} (h : W.ownsRow base e 1 v l.length (icells l)) : SlI W v l := by
  rcases h.2 with ⟨rfl, h0⟩ | ⟨g, cap, cur, rfl, _⟩
  · exact ⟨none, 0, by rw [h0], fun i hi => by omega⟩
  · refine ⟨some ⟨g, 0, none⟩, cap, rfl, fun i hi => ⟨_, rfl, ?_⟩⟩
    exact h.cells (g := g) rfl i (.int .i64 l[i]) (by simp [icells, hi])
theorem SlI.only {W W' : World} {v : Value} {l : List Int} (h : SlI W v l) (o : Only (fun _ => False) W W') : SlI W' v l := by
  obtain ⟨A, c, e, hc⟩ := h
  exact ⟨A, c, e, fun i hi => by obtain ⟨ad, ha, hx⟩ := hc i hi; exact ⟨ad, ha, o.cell hx (fun f => f)⟩⟩
theorem Tryd.info_int01 : (Tryd.prog.info? 3).map (fun i => (i.zero, i.size, i.bytes)) = some (some (.int .i64 0), 1, 8) := by kernel_rfl
set_option maxRecDepth 100000 in
set_option maxHeartbeats 2000000 in
theorem numbers_any (w : World) (v : Value) (l : List Int) (hv : SlI w v l) (hn : l.length ≤ 1000000000) :
    Calls Tryd.prog 19 #[v] w fun e w' => ∃ u, e = .returned u ∧ w'.ownsRow w.heap.size 3 1 u l.length (icells l) ∧ Only (fun _ => False) w w' := by
  obtain ⟨A, c, rfl, hA⟩ := hv
  obtain ⟨i0, hi, hz0, hz1, hz2⟩ := info_parts Tryd.info_int01
  have HA := Lib.hid hA
  clear hA
  go_enter Tryd.func19, Tryd.ntmps19
  go_wp2_with fail
  go_loopw [3, 4] (fun s i W => ∃ (k : Nat) (u : Value), k ≤ l.length ∧ i = .int .i64 k ∧ s = u ∧ W.ownsRow w.heap.size 3 1 u k (icells (l.take k)) ∧ Only (fun _ => False) w W) (fun _ i _ => l.length - (intOf i).toNat)
  case atStart => exact ⟨0, _, by omega, rfl, rfl, World.ownsRow_nil _ _ _ _, Only.refl _ _⟩
  case round =>
    obtain ⟨k, u, hk, rfl, rfl, hown, ho⟩ := hrel
    have hlow := ho.size
    by_cases hlt : k < l.length
    · obtain ⟨ad, rfl, c0⟩ := HA.out k hlt
      have c0 := ho.cell c0 (fun f => f)
      have hk0 : (0 : Int) ≤ (k : Int) := by omega
      have hk1 : (k : Int) < (l.length : Int) := by omega
      have htk : icells (l.take (k + 1)) = icells (l.take k) ++ [.int .i64 l[k]] := by
        unfold icells
        rw [List.take_succ_eq_append_getElem hlt, List.map_append]
        rfl
      have HT := Lib.hid htk
      clear htk
      have HO := Lib.hid ho
      have HOWN := Lib.hid hown
      clear ho hown
      generalize l[k] = x at *
      go_wp2_with (at_builtin; go_must (refine wpList_append_own_at _ rfl _ _ 40 rfl w.heap.size 3 i0 (.int .i64 0) 1 8 Tryd.underlying40 hi hz0 hz1 hz2 rfl (by decide) _ k (icells (l.take k)) ?hs (HOWN.out.alloc _) ⟨wr.heap.size, 0, none⟩ 1 1 [.int .i64 x] ?hx rfl (cell_one_new _ _ _) ?c2 ?c3 ?c4 ?c5 ?_); (case hs => rfl); (case hx => rfl); (case c2 => intro y hy; obtain rfl := List.mem_singleton.1 hy; rfl); (case c3 => unfold maxLen; omega); (case c4 => omega); (case c5 => simp; omega); intro v1 w1 ho1 hg1 _ hat1; obtain ⟨A1, d1, hv1⟩ := own_shape ho1; subst hv1)
      go_roundw
      case rel => exact ⟨k + 1, _, by omega, by go_num, rfl, by rw [HT.out]; exact ho1, Only.grown (HO.out.alloc _) hg1 (fun q e hq => by have := own_low HOWN.out e; omega)⟩
      case measure => simp only [intOf]; omega
    · obtain rfl : k = l.length := by omega
      obtain ⟨A1, d1, hv1⟩ := own_shape hown
      subst hv1
      rw [List.take_length] at hown
      have HO := Lib.hid ho
      have HOWN := Lib.hid hown
      clear ho hown
      go_wp2_with fail
      go_ret
      exact ⟨_, rfl, HOWN.out, HO.out⟩
set_option maxRecDepth 100000 in
set_option maxHeartbeats 2000000 in
theorem ints_any (w : World) (a b : Value) (l m : List Int) (ha : SlI w a l) (hb : SlI w b m) (hl : l.length ≤ 1000000000) (hm : m.length ≤ 1000000000) :
    Calls Tryd.prog 18 #[a, b] w fun e w' => e = .returned (.bool (decide (l = m))) ∧ Only (fun _ => False) w w' := by
  obtain ⟨A, ca, rfl, hA⟩ := ha
  obtain ⟨B, cb, rfl, hB⟩ := hb
  by_cases hn : l.length = m.length
  · have hd : (l = m) ↔ ∀ i, i < l.length → l[i]? = m[i]? := by
      constructor
      · rintro rfl i hi; rfl
      · intro h
        refine List.ext_getElem? fun i => ?_
        by_cases hi : i < l.length
        · exact h i hi
        · rw [List.getElem?_eq_none (by omega), List.getElem?_eq_none (by omega)]
    have HD := Lib.hid hd
    clear hd
    have HN := Lib.hid hn
    rw [← hn]
    have HM := Lib.hid hm
    clear hm
    clear hn
    go_enter Tryd.func18, Tryd.ntmps18
    go_wp2_with fail
    go_loopw [5] (fun i W => ∃ k : Nat, k ≤ l.length ∧ i = .int .i64 k ∧ (∀ i, i < k → l[i]? = m[i]?) ∧ Only (fun _ => False) w W) (fun i _ => l.length - (intOf i).toNat)
    case atStart => exact ⟨0, by omega, rfl, fun i h => by omega, Only.refl _ _⟩
    case round =>
      obtain ⟨k, hk, rfl, hall, ho⟩ := hrel
      have hlt' : k < l.length ∨ k = l.length := by omega
      have HALL := Lib.hid hall
      clear hall
      rcases hlt' with hlt | rfl
      · obtain ⟨ad, rfl, c0⟩ := hA k hlt
        obtain ⟨bd, rfl, c1⟩ := hB k (by have := HN.out; omega)
        have c0 := ho.cell c0 (fun f => f)
        have c1 := ho.cell c1 (fun f => f)
        have hmk : k < m.length := by have := HN.out; omega
        have hk1 : (k : Int) < (l.length : Int) := by omega
        have hk0 : (0 : Int) ≤ (k : Int) := by omega
        by_cases he : l[k] = m[k]
        · have HE := Lib.hid he
          rw [← he] at c1
          generalize l[k] = s at c0 c1
          clear he hA hB
          go_wp2_with fail
          go_quiet (fail)
          go_wp2_with fail
          go_roundw
          case rel =>
            refine ⟨k + 1, by omega, by go_num, fun i hi => ?_, ho.drewN _⟩
            by_cases e : i = k
            · subst e; rw [List.getElem?_eq_getElem hlt, List.getElem?_eq_getElem hmk, HE.out]
            · exact HALL.out i (by omega)
          case measure => simp only [intOf]; omega
        · have hf : decide (l = m) = false := by
            refine decide_eq_false fun e => he ?_
            have := HD.out.1 e k hlt
            rw [List.getElem?_eq_getElem hlt, List.getElem?_eq_getElem hmk] at this
            exact Option.some.inj this
          have HF := Lib.hid hf
          have hq : (l[k] == m[k]) = false := by simpa using he
          generalize l[k] = s at c0 hq
          generalize m[k] = t at c1 hq
          clear hf he hA hB
          go_wp2_with fail
          go_quiet (fail)
          go_wp2_with fail
          go_ret
          refine ⟨?_, ho.drewN _⟩
          rw [HF.out]
          rfl
      · have ht : decide (l = m) = true := by
          exact decide_eq_true (HD.out.2 HALL.out)
        have HF := Lib.hid ht
        clear ht
        go_wp2_with fail
        go_ret
        refine ⟨?_, ho⟩
        rw [HF.out]
        rfl
  · have hd : decide (l = m) = false := decide_eq_false (fun e => hn (by rw [e]))
    rw [hd]
    have hn' : ((l.length : Int) == (m.length : Int)) = false := by simp; omega
    clear hd hn hA hB
    go_enter Tryd.func18, Tryd.ntmps18
    go_wp2_with fail
    go_ret
    exact ⟨rfl, Only.refl _ _⟩
end Go.Proofs.YthagbbeppklpmaaDoor
