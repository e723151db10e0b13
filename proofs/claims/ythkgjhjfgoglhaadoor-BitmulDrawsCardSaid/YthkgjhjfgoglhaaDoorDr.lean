/- The reference of layer 6: Take, from the beginning. -/
import Derived.Test.YthkgjhjfgoglhaaDoorDo
set_option linter.unusedSimpArgs false
set_option linter.unusedVariables false
namespace Go.Proofs.YthkgjhjfgoglhaaDoor
open Go.RowKit

theorem res_rt {W : World} {b : Nat} {x0 x1 v u : Value} {tm : Array Value} (h : Has W b 36 #[x0, x1]) (h4 : tm.getD 4 undef = .pointer (some ⟨b, 0, none⟩)) (h5 : tm.getD 5 undef = u) (h6 : tm.getD 6 undef = v) :
    (results Tryd.f22 tm).run Tryd.prog W = .ok (.tuple #[.agg #[x0, x1], u, v]) W := by
  obtain ⟨c0, c1, _⟩ := h.facts2
  simp only [Array.getD_eq_getD_getElem?] at h4 h5 h6
  simp [results, Tryd.results22, go_sem, h4, h5, h6, c0, c1]
set_option maxRecDepth 100000 in
set_option maxHeartbeats 2000000 in
theorem rtake_bad (w : World) (A : Option Addr) (n c m : Nat) (hn : n ≤ 1000000) (hm : n < m) (hm2 : m ≤ 1000000) : Calls Tryd.prog 22 #[.agg #[.slice A n c, .int .i64 0], .int .i64 m] w fun x w' => x = .returned (.tuple #[.agg #[.slice A n c, .int .i64 0], .slice none 0 0, .int .i64 10]) ∧ Only (fun _ => False) w w' := by
  have g1 : ¬ (m : Int) < 0 := by omega
  have g2 : (m : Int) > (n : Int) := by omega
  have g3 : decide ((m : Int) > (n : Int)) = true := by simpa using g2
  generalize hW : ((w.alloc (.cells #[.slice A n c, .int .i64 0] 36)).alloc (.cells #[.slice none 0 0, .int .i64 0] 36)) = W2
  have B2 : Has W2 w.heap.size 36 #[.slice A n c, .int .i64 0] := by rw [← hW]; exact (Has.new _ _ _).alloc _
  have R2 : Has W2 (w.heap.size + 1) 36 #[.slice none 0 0, .int .i64 0] := by rw [← hW]; exact has_new2 _ _ _ _
  have O2 : Only (fun _ => False) w W2 := by rw [← hW]; exact ((Only.refl _ _).alloc _).alloc _
  have HW := Lib.hid hW
  clear hW hm
  go_enter Tryd.func22, Tryd.ntmps22
  go_upto_region 1 with fail
  rw [HW.out]
  obtain ⟨b0, b1, bf⟩ := B2.facts2
  obtain ⟨r0, r1, rf⟩ := R2.facts2
  go_wp2_with fail
  refine bodyPost_ret (v := .tuple #[.agg #[.slice A n c, .int .i64 0], .slice none 0 0, .int .i64 10]) ?hr rfl ?hp
  case hr => exact res_rt (b := w.heap.size + 1) (Has.put2 R2 rfl _ _) rfl rfl rfl
  case hp => exact ⟨rfl, O2.then_ (Only.put2 _ (w.heap.size + 1) _ _) (fun i hi e => absurd hi (by have : i = w.heap.size + 1 := e; omega))⟩
set_option maxRecDepth 100000 in
set_option maxHeartbeats 2000000 in
theorem rtake_ok (w : World) (a : Addr) (l : List Int) (c m : Nat) (hk : ∀ k x, (ucells l)[k]? = some x → w.cell? (a.add k) = some x) (hc : l.length ≤ c) (hn : l.length ≤ 1000000) (hm : m ≤ l.length) (h1 : 1 ≤ m) : Calls Tryd.prog 22 #[.agg #[.slice (some a) l.length c, .int .i64 0], .int .i64 m] w fun x w' => (∃ B c', x = .returned (.tuple #[.agg #[.slice (some a) l.length c, .int .i64 m], .slice B m c', .int .i64 0]) ∧ Reads w' (.slice B m c') (ucells (l.take m))) ∧ Only (fun _ => False) w w' := by
  obtain ⟨i0, hi, hz0, hz1, hz2⟩ := info_parts Tryd.info_w
  have g1 : ¬ (m : Int) < 0 := by omega
  have g2 : ¬ (m : Int) > (l.length : Int) := by omega
  have g4 : (m : Int) ≤ (c : Int) := by omega
  have g5 : m ≤ c := by omega
  have g6 : m ≤ 1000000 := by omega
  have HLT := Lib.hid (show (l.take m).length = m by simp; omega)
  have HK := Lib.hid (fun k x (h : (ucells (l.take m))[k]? = some x) => hk k x (take_u h))
  generalize l.take m = lm at *
  generalize l.length = n at *
  generalize hW : ((w.alloc (.cells #[.slice (some a) n c, .int .i64 0] 36)).alloc (.cells #[.slice none 0 0, .int .i64 0] 36)) = W2
  have B2 : Has W2 w.heap.size 36 #[.slice (some a) n c, .int .i64 0] := by rw [← hW]; exact (Has.new _ _ _).alloc _
  have R2 : Has W2 (w.heap.size + 1) 36 #[.slice none 0 0, .int .i64 0] := by rw [← hW]; exact has_new2 _ _ _ _
  have O2 : Only (fun _ => False) w W2 := by rw [← hW]; exact ((Only.refl _ _).alloc _).alloc _
  have HLW := Lib.hid R2.lt
  have HW := Lib.hid hW
  clear hW hm hk
  go_enter Tryd.func22, Tryd.ntmps22
  go_upto_region 1 with fail
  rw [HW.out]
  obtain ⟨b0, b1, bf⟩ := B2.facts2
  have G0 : ∀ o, (W2.alloc o).cell? ⟨w.heap.size, 0, none⟩ = some (.slice (some a) n c) := fun o => (B2.alloc o).cell 0
  have G1 : ∀ o, (W2.alloc o).cell? ⟨w.heap.size, 1, none⟩ = some (.int .i64 0) := fun o => (B2.alloc o).cell 1
  have b1' : IntKind.i64.wrap (m : Int) = (m : Int) := IntWalk.i64_in _ (by omega)
  have HR2 := Lib.hid R2
  have HB2 := Lib.hid B2
  have HO2 := Lib.hid O2
  clear R2 B2 O2
  go_wp2_with (at_builtin; refine wpList_append_own _ rfl _ _ 22 rfl W2.heap.size 52 i0 (.int .u64 0) 1 8 Tryd.underlying22 hi hz0 hz1 hz2 rfl (by decide) _ _ _ rfl (World.ownsRow_made W2 #[] 0 (Nat.le_refl _) (Nat.zero_le _) rfl) a m c (ucells lm) rfl ?qc1 ?qc2 ?qc3 ?qc4 ?qc5 (by simp) ?_)
  case qc1 => rw [ucells_length, HLT.out]; try omega
  case qc2 =>
    intro j u hj
    exact Lib.cell?_alloc_some _ (HO2.out.cell (HK.out j u hj) (fun f => f))
  case qc3 => intro u hu; obtain ⟨x, _, rfl⟩ := List.mem_map.1 hu; rfl
  case qc4 => unfold maxLen; omega
  case qc5 => omega
  intro v' w3 hown hgrow hnil
  have hown' : w3.ownsRow W2.heap.size 52 1 v' m (ucells lm) := by simpa using hown
  have hrd := Reads.ofOwn hown' (by rw [ucells_length]; exact HLT.out)
  obtain ⟨B, c', rfl, -⟩ := hrd.shape
  have og : Only (fun _ => False) W2 w3 := Only.grown (((Only.refl (fun _ => False) W2).alloc _)) hgrow (fun j e hj => absurd hj (by simp [Value.ownBlock] at e; omega))
  have B3 := og.has HB2.out (fun f => f)
  have R3 := og.has HR2.out (fun f => f)
  have O3 := HO2.out.trans og
  have hlt3 := R3.lt
  rw [ucells_length, HLT.out] at hrd hown' ⊢
  have HRD := Lib.hid hrd
  have HOW := Lib.hid hown'
  clear hown hgrow hnil hown' hrd og b0 b1 bf G0 G1
  obtain ⟨b0, b1, bf⟩ := B3.facts2
  obtain ⟨r0, r1, rf⟩ := R3.facts2
  go_wp2_with fail
  refine bodyPost_ret (v := .tuple #[.agg #[.slice (some a) n c, .int .i64 m], .slice B m c', .int .i64 0]) ?hr rfl ?hp
  case hr => exact res_rt (b := w.heap.size + 1) (Has.put2 R3 rfl _ _) rfl rfl rfl
  case hp => exact ⟨⟨B, c', rfl, HRD.out.only (Only.put2 _ (w.heap.size + 1) _ _) (fun k hk e => by have := own_ge2 HOW.out hk; have := HLW.out; have e : k = w.heap.size + 1 := e; omega)⟩, O3.then_ (Only.put2 _ (w.heap.size + 1) _ _) (fun i hi e => absurd hi (by have : i = w.heap.size + 1 := e; omega))⟩
end Go.Proofs.YthkgjhjfgoglhaaDoor
