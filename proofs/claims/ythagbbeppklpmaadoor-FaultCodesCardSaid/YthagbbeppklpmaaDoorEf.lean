/- Chapter 1: fault.Codes, Code at any error; errors.Is at any error. -/
import Derived.Test.YthagbbeppklpmaaDoorEd
import Derived.Lib.IfaceEq
import Derived.Deep.LoopGhost
set_option linter.unusedSimpArgs false
set_option linter.unusedVariables false
namespace Go.Proofs.YthagbbeppklpmaaDoor
open Go.RowKit

theorem codes_pos {w : World} {av : Option Nat} : ∀ {t : Tr} {v : Value}, TrAt w av t v → t.some = true → ∃ c l, t.codes = c :: l
  | .none, _, _, h => by cases h
  | .root c s, _, _, _ => ⟨c, [], rfl⟩
  | .num c, _, _, _ => ⟨c, [], rfl⟩
  | .wrap s t, _, ⟨b, u, e, _, hs, ht⟩, _ => by
    have := codes_pos ht hs
    exact this
  | .both x y, _, ⟨b, g, k, u1, u2, e, _, _, _, hx, hy, tx, ty⟩, _ => by
    obtain ⟨c, l, e⟩ := codes_pos tx hx
    exact ⟨c, l ++ y.codes, by show x.codes ++ y.codes = _; rw [e]; rfl⟩
theorem codes_tr (t : Tr) (w : World) (av : Option Nat) (v : Value) (h : TrAt w av t v) (hE : Et w) (hn : t.codes.length ≤ 1000000000) :
    Calls Tryd.prog 20 #[v] w fun e w' => ∃ sl, e = .returned sl ∧ w'.ownsRow w.heap.size 46 1 sl t.codes.length (icells t.codes) ∧ Only (fun _ => False) w w' := by
  have o0 : Only (fun _ => False) w (w.alloc (.cells #[.slice none 0 0] 44)) := (Only.refl _ _).alloc _
  have hl : LAt (w.alloc (.cells #[.slice none 0 0] 44)) w.heap.size w.heap.size (.slice none 0 0) [] := ⟨Has.new _ _ _, World.ownsRow_nil _ _ _ _, by simp, hE.lt⟩
  have HC := Lib.hid (collect_tr t _ av v w.heap.size w.heap.size (.slice none 0 0) [] (h.keep o0) hl (hE.only o0 (fun f => f)) (by simpa using hn))
  rw [List.nil_append] at HC
  have O0 := Lib.hid o0
  clear h hl o0
  go_enter Tryd.func20, Tryd.ntmps20
  go_wp2_with fail
  refine (HC.out).mono ?_
  rintro e w2 ⟨rfl, sl, hL, hC⟩
  have c0 : w2.cell? ⟨w.heap.size, 0, none⟩ = some sl := hL.has.cell 0
  have HL := Lib.hid hL
  have HS := Lib.hid hC
  obtain ⟨A, d, hsl⟩ := own_shape hL.own
  subst hsl
  clear hL hC
  go_wp2_with fail
  go_ret
  refine ⟨_, rfl, HL.out.own, O0.out.then_ HS.out.only ?_⟩
  rintro i hi (e | e)
  · omega
  · cases e
def Tr.first (t : Tr) : Int := match t.codes with | [] => 0 | c :: _ => c
theorem code_tr (t : Tr) (w : World) (av : Option Nat) (v : Value) (h : TrAt w av t v) (hE : Et w) (hn : t.codes.length ≤ 1000000000) :
    Calls Tryd.prog 21 #[v] w fun e w' => e = .returned (.int .i64 t.first) ∧ Only (fun _ => False) w w' := by
  by_cases hs : t.some = true
  · obtain ⟨c, l, hc⟩ := codes_pos h hs
    have HC := Lib.hid (codes_tr t w av v h hE hn)
    have hf : t.first = c := by unfold Tr.first; rw [hc]
    rw [hf]
    rw [hc] at HC
    obtain ⟨T, x, rfl⟩ := h.iface hs
    clear h hs hf hc
    go_enter Tryd.func21, Tryd.ntmps21
    go_wp2_with fail
    refine (HC.out).mono ?_
    rintro e w2 ⟨sl, rfl, ho, o2⟩
    obtain ⟨g, cap, rfl⟩ : ∃ g cap, sl = .slice (some ⟨g, 0, none⟩) (c :: l).length cap := by
      rcases ho.2 with ⟨rfl, h0⟩ | ⟨g, cap, cur, rfl, _⟩
      · cases h0
      · exact ⟨_, _, rfl⟩
    have c0 : w2.cell? ⟨g, 0, none⟩ = some (.int .i64 c) := ho.cells (g := g) rfl 0 _ rfl
    have hlen : (0 : Int) < ((c :: l).length : Int) := by simp
    generalize (c :: l).length = n at *
    have HO := Lib.hid ho
    clear ho
    go_wp2_with fail
    refine wp_loop_rounds 1 ?_
    rw [rounds_succ]
    go_wp2_with fail
    go_ret
    exact ⟨rfl, o2⟩
  · rcases t with _ | _ | _ | _ | _
    · obtain rfl : v = .nilIface := h
      exact code_nil w
    all_goals exact absurd rfl hs

/-! errors.Is -/
theorem fault_is_root (w : World) (b : Nat) (k c : Int) (s : ByteArray) (hb : Has w b 63 #[.int .i64 k, .string s, .nilIface]) :
    Calls Tryd.prog 61 #[.pointer (some ⟨b, 0, none⟩), pn c] w fun e w' => e = .returned (.bool (k == c)) ∧ w = w' := by
  have h1 := hit_pn_pn
  have c0 : w.cell? ⟨b, 0, none⟩ = some (.int .i64 k) := hb.cell 0
  have c2 : w.cell? ⟨b, 2, none⟩ = some .nilIface := hb.cell 2
  clear hb
  unfold pn
  generalize hq : (k == c) = q at *
  cases q
  all_goals
    go_enter Tryd.func61, Tryd.ntmps61
    go_wp2_with fail
    go_ret
    exact ⟨rfl, rfl⟩
theorem fault_is_wrap (w : World) (b : Nat) (x u : Value) (TT : TypeId) (c : Int) (s : ByteArray) (hb : Has w b 63 #[x, .string s, .iface TT u]) :
    Calls Tryd.prog 61 #[.pointer (some ⟨b, 0, none⟩), pn c] w fun e w' => e = .returned (.bool false) ∧ w = w' := by
  have h1 := hit_pn_pn
  have c2 : w.cell? ⟨b, 2, none⟩ = some (.iface TT u) := hb.cell 2
  clear hb
  unfold pn
  go_enter Tryd.func61, Tryd.ntmps61
  go_wp2_with fail
  go_ret
  exact ⟨rfl, rfl⟩
def Tr.size : Tr → Nat
  | .none => 1
  | .root _ _ => 1
  | .num _ => 1
  | .wrap _ t => t.size + 1
  | .both x y => x.size + y.size + 1
def Tr.hasC (c : Int) : Tr → Bool
  | .none => false
  | .root k _ => k == c
  | .num k => k == c
  | .wrap _ t => t.hasC c
  | .both x y => x.hasC c || y.hasC c
theorem Tr.hasC_any (c : Int) : ∀ t : Tr, t.hasC c = t.codes.any (· == c)
  | .none => rfl
  | .root k _ => by simp [Tr.hasC, Tr.codes]
  | .num k => by simp [Tr.hasC, Tr.codes]
  | .wrap _ t => Tr.hasC_any c t
  | .both x y => by
    show (x.hasC c || y.hasC c) = (x.codes ++ y.codes).any _
    rw [List.any_append, Tr.hasC_any c x, Tr.hasC_any c y]
theorem Tr.size_pos : ∀ t : Tr, 1 ≤ t.size
  | .none => Nat.le_refl _
  | .root _ _ => Nat.le_refl _
  | .num _ => Nat.le_refl _
  | .wrap _ t => by unfold Tr.size; omega
  | .both x y => by unfold Tr.size; omega
set_option maxRecDepth 100000 in
set_option maxHeartbeats 4000000 in
theorem is_tr (c : Int) : ∀ (n : Nat) (t : Tr) (w : World) (av : Option Nat) (v : Value), t.size ≤ n → TrAt w av t v → t.some = true →
    Calls Tryd.prog 41 #[v, pn c, .bool true] w fun e w' => e = .returned (.bool (t.hasC c)) ∧ w = w'
  | 0, t, w, av, v, hz, _, _ => by have := t.size_pos; omega
  | n + 1, t, w, av, v, hz, h, hs => by
    have IH := Lib.hid (is_tr c n)
    have e1 : ∀ x y W, (binOp .eql 32 (.iface 59 x) (.iface 46 y)).run Tryd.prog W = .ok (.bool false) W := fun x y W => run_eql_iface_types (P := Tryd.prog) _ _ _ _ Tryd.underlying32 (by decide) W
    have e2 : ∀ x y W, (binOp .eql 32 (.iface 91 x) (.iface 46 y)).run Tryd.prog W = .ok (.bool false) W := fun x y W => run_eql_iface_types (P := Tryd.prog) _ _ _ _ Tryd.underlying32 (by decide) W
    have e3 : ∀ (a b : Int) W, (binOp .eql 32 (.iface 46 (.int .i64 a)) (.iface 46 (.int .i64 b))).run Tryd.prog W = .ok (.bool (a == b)) W := fun a b W => Lib.run_eql_iface_int (P := Tryd.prog) W a b Tryd.underlying32 (by kernel_rfl) Tryd.underlying46
    have t1 := is_pf
    have t2 := is_pn
    have t3 := is_pj
    have m1 := method_is
    have m2 := method_unwrap
    have m3 := method_list
    have u1 := has_unwrap
    have u2 := unwrap_pn
    have u3 := unwrap_pj
    have l2 := list_pn
    have l3 := list_pj
    have HT := Lib.hid h
    have HSO := Lib.hid hs
    clear h hs
    obtain ⟨R, hR⟩ : ∃ R, R = t.hasC c := ⟨_, rfl⟩
    rw [← hR]
    have HR := Lib.hid hR
    clear hR
    unfold pn
    go_enter Tryd.func41, Tryd.ntmps41
    go_wp2_with fail
    go_loopg [0] (n + 1) (fun k s0 W => w = W ∧ ∃ t' : Tr, TrAt w av t' s0 ∧ t'.some = true ∧ t'.size ≤ k ∧ k ≤ n + 1 ∧ Hid (t'.hasC c = R))
    case atStart => exact ⟨rfl, t, HT.out, HSO.out, hz, Nat.le_refl _, Lib.hid HR.out.symm⟩
    case round =>
      obtain ⟨rfl, t', ht, hs', hsz, hkn, hA⟩ := hrel
      rcases t' with _ | ⟨k, s⟩ | k | ⟨s, t2'⟩ | ⟨x, y⟩
      · cases hs'
      · obtain ⟨b, rfl, hb⟩ := ht
        have HF := Lib.hid (fault_is_root w b k c s hb)
        have HU := Lib.hid (fault_unwrap w b _ _ _ hb)
        have hq : (k == c) = R := hA.out
        unfold pf
        unfold pn at HF
        rw [hq] at HF
        clear hb hA hq hs' hsz hkn
        cases R
        · go_wp2_with fail
          refine (HF.out).mono ?_
          rintro e w1 ⟨rfl, rfl⟩
          go_wp2_with fail
          refine (HU.out).mono ?_
          rintro e w1 ⟨rfl, rfl⟩
          go_wp2_with fail
          go_ret
          exact ⟨rfl, rfl⟩
        · go_wp2_with fail
          refine (HF.out).mono ?_
          rintro e w1 ⟨rfl, rfl⟩
          go_wp2_with fail
          go_ret
          exact ⟨rfl, rfl⟩
      · obtain rfl : _ = pn k := ht
        have hq : (k == c) = R := hA.out
        unfold pn
        clear hA hs' hsz hkn
        cases R
        · go_wp2_with fail
          go_ret
          exact ⟨rfl, rfl⟩
        · go_wp2_with fail
          go_ret
          exact ⟨rfl, rfl⟩
      · obtain ⟨b, u, rfl, hb, hs2, ht2⟩ := ht
        obtain ⟨T, x, rfl⟩ := ht2.iface hs2
        have HF := Lib.hid (fault_is_wrap w b _ x T c s hb)
        have HU := Lib.hid (fault_unwrap w b _ _ _ hb)
        have HT2 := Lib.hid ht2
        have hz2 : t2'.size + 1 ≤ gk := hsz
        have HA2 : Hid (t2'.hasC c = R) := hA
        have HZ := Lib.hid (show gk - 1 < gk ∧ t2'.size ≤ gk - 1 ∧ gk - 1 ≤ n + 1 from ⟨by omega, by omega, by omega⟩)
        have HS2 := Lib.hid hs2
        unfold pf
        clear hb hA hs' hsz hkn hz2 hs2 ht2
        go_wp2_with fail
        refine (HF.out).mono ?_
        rintro e w1 ⟨rfl, rfl⟩
        go_wp2_with fail
        refine (HU.out).mono ?_
        rintro e w1 ⟨rfl, rfl⟩
        go_wp2_with fail
        go_roundg (gk - 1)
        case rel => exact ⟨rfl, t2', HT2.out, HS2.out, HZ.out.2.1, HZ.out.2.2, HA2⟩
        case measure => exact HZ.out.1
      · obtain ⟨b, g, m, v1, v2, rfl, hb, hg, hne, hx, hy, tx, ty⟩ := ht
        have hz2 : x.size + y.size + 1 ≤ gk := hsz
        have HL := Lib.hid (list_any w b _ hb)
        have I1 := Lib.hid (IH.out x w av v1 (by omega) tx hx)
        have I2 := Lib.hid (IH.out y w av v2 (by omega) ty hy)
        have g0 : w.cell? ⟨g, 0, none⟩ = some v1 := hg.c0
        have g1 : w.cell? ⟨g, 1, none⟩ = some v2 := hg.c1
        have hq : (x.hasC c || y.hasC c) = R := hA.out
        unfold pj
        unfold pn at I1 I2
        generalize x.hasC c = qx at *
        generalize y.hasC c = qy at *
        clear hb hA hs' hsz hkn hz2 hg tx ty hx hy hne
        go_wp2_with fail
        refine (HL.out).mono ?_
        rintro e w1 ⟨rfl, rfl⟩
        go_wp2_with fail
        refine wp_loop_rounds 3 ?_
        rw [rounds_succ]
        go_wp2_with fail
        refine (I1.out).mono ?_
        rintro e w1 ⟨rfl, rfl⟩
        cases qx
        · rw [Bool.false_or] at hq
          subst hq
          go_wp2_with fail
          rw [rounds_succ]
          go_wp2_with fail
          refine (I2.out).mono ?_
          rintro e w1 ⟨rfl, rfl⟩
          cases qy
          · go_wp2_with fail
            rw [rounds_succ]
            go_wp2_with fail
            go_ret
            exact ⟨rfl, rfl⟩
          · go_wp2_with fail
            go_ret
            exact ⟨rfl, rfl⟩
        · rw [Bool.true_or] at hq
          subst hq
          go_wp2_with fail
          go_ret
          exact ⟨rfl, rfl⟩

end Go.Proofs.YthagbbeppklpmaaDoor
