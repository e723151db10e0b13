/- msg: batch, ticket, ColSize; a message in a box. -/
import Derived.Test.YtbajgbjpaliecaaMs
import Derived.Deep.RegionHeld3
import Derived.Deep.DeepCutAuto
import Derived.Deep.CutBlock
set_option linter.unusedSimpArgs false
set_option linter.unusedVariables false
namespace Go.Proofs.Ytbajgbjpaliecaa
open Go.RowKit

/-- The cells of a message in a box, as the walk reads them. -/
structure MF (W : World) (b : Nat) (m : Mg) (vw vs : Value) : Prop where
  c0 : W.cell? ⟨b, 0, none⟩ = some (.int .i64 m.kind)
  c1 : W.cell? ⟨b, 1, none⟩ = some (.int .u32 m.batch)
  c2 : W.cell? ⟨b, 2, none⟩ = some (.int .u32 m.chunk)
  c3 : W.cell? ⟨b, 3, none⟩ = some (.int .u64 m.from_)
  c4 : W.cell? ⟨b, 4, none⟩ = some (.int .i64 m.c.kind)
  c5 : W.cell? ⟨b, 5, none⟩ = some (.int .i64 m.c.bits)
  c6 : W.cell? ⟨b, 6, none⟩ = some (.int .i64 m.c.m)
  c7 : W.cell? ⟨b, 7, none⟩ = some (.int .i64 m.c.k)
  c8 : W.cell? ⟨b, 8, none⟩ = some (.int .i64 m.c.n)
  c9 : W.cell? ⟨b, 9, none⟩ = some (.int .u32 m.count)
  c10 : W.cell? ⟨b, 10, none⟩ = some (.int .u32 m.opened)
  c11 : W.cell? ⟨b, 11, none⟩ = some (.int .u32 m.first)
  c12 : W.cell? ⟨b, 12, none⟩ = some (.int .u32 m.ticket)
  c13 : W.cell? ⟨b, 13, none⟩ = some (.int .u8 m.code)
  c14 : W.cell? ⟨b, 14, none⟩ = some (.string m.data)
  c15 : W.cell? ⟨b, 15, none⟩ = some (.int .u8 m.width)
  c16 : W.cell? ⟨b, 16, none⟩ = some vw
  c81 : W.cell? ⟨b, 81, none⟩ = some vs
theorem mf_of {W : World} {b : Nat} {t : TypeId} {m : Mg} {vw vs : Value} (h : Has W b t (m.cells vw vs).toArray) (ok : m.Ok) : MF W b m vw vs := by
  refine ⟨h.cell 0, h.cell 1, h.cell 2, h.cell 3, h.cell 4, h.cell 5, h.cell 6, h.cell 7, h.cell 8, h.cell 9, h.cell 10, h.cell 11, h.cell 12, h.cell 13, h.cell 14, h.cell 15, h.cell 16, ?_⟩
  rw [h.cell 81]
  have h1 : (u8s m.dig).length = 32 := by simp [u8s, ok.dig]
  have h2 : (u8s m.seed).length = 32 := by simp [u8s, ok.seed]
  rw [List.getElem?_toArray]
  unfold Mg.cells Mg.head
  simp only [List.getElem?_cons_succ]
  rw [List.getElem?_append_right (by omega), List.getElem?_append_right (by omega), h1, h2]
  rfl
theorem calls_flip {P : Program} {f : FuncId} {args : Array Value} {W : World} {v : Value} (h : Calls P f args W fun e w' => e = .returned v ∧ W = w') : Calls P f args W fun e w' => e = .returned v ∧ w' = W := h.mono fun _ _ ⟨a, b⟩ => ⟨a, b.symm⟩
theorem wp_load_box {op : Oper} {a : Act} {w : World} {K : Act → World → Prop} {Q : Exit → Act → World → Prop} {t : TypeId} {x : Operand} (ho : op.op = .load t x) {b : Nat} {cs : Array Value} {fs : Array Field} (hx : a.eval x = .pointer (some ⟨b, 0, none⟩)) (hB : Has w b t cs)
    (hu : Try.prog.underlying t = some (.struct fs)) (hi : (Try.prog.info? t).map (·.size) = some cs.size) (h : K (a.put op.dst (.agg cs)) w) : op.wp Try.prog a w K Q :=
  wp_load_mid t x ho b 0 hx cs.toList (.struct fs) (fun j v h => by rw [Nat.zero_add, hB.cell]; simpa using h) hu rfl (by simpa using hi) (by simpa using h)
theorem msg_info : (Try.prog.info? 39).map (·.size) = some 82 := by kernel_rfl
/-- A whole message is read. -/
theorem wp_load_msg {op : Oper} {a : Act} {w : World} {K : Act → World → Prop} {Q : Exit → Act → World → Prop} {x : Operand} (ho : op.op = .load 39 x) {b : Nat} {cs : Array Value} (hx : a.eval x = .pointer (some ⟨b, 0, none⟩)) (hB : Has w b 39 cs)
    (hs : cs.size = 82) (h : K (a.put op.dst (.agg cs)) w) : op.wp Try.prog a w K Q :=
  wp_load_box ho hx hB Try.underlying39 (by rw [msg_info, hs]) h
def batchC (m : Mg) : Int := if m.c.check ≠ 0 then m.c.check else if m.count < 1 ∨ 24 < m.count ∨ m.count < m.opened then 1 else 0
def ticketC (m : Mg) : Int := if m.c.check ≠ 0 then m.c.check else if m.count < 1 ∨ 64 < m.count then 1 else 0
set_option maxRecDepth 100000 in
set_option maxHeartbeats 2000000 in
theorem batch_any (w : World) (m : Mg) (vw vs : Value) (ok : m.Ok) : Calls Try.prog 19 #[.agg (m.cells vw vs).toArray] w fun e w' => e = .returned (.int .i64 (batchC m)) ∧ Only (fun _ => False) w w' := by
  have HC := Lib.hid (fun W => scheck_any W m.c)
  have B0 := Has.new w 39 (m.cells vw vs).toArray
  have O0 := (Only.refl (fun _ => False) w).alloc (.cells (m.cells vw vs).toArray 39)
  have hsz : (m.cells vw vs).toArray.size = 82 := by simpa using Mg.cells_length ok vw vs
  have HF := Lib.hid (fun W (h : Has W w.heap.size 39 (m.cells vw vs).toArray) => mf_of h ok)
  generalize (m.cells vw vs).toArray = cs at *
  have F := HF.out _ B0
  obtain ⟨-, -, -, -, f4, f5, f6, f7, f8, -, -, -, -, -, -, -, -, -⟩ := F
  by_cases hc : m.c.check = 0
  · rw [hc] at HC
    rw [show batchC m = if m.count < 1 ∨ 24 < m.count ∨ m.count < m.opened then 1 else 0 from if_neg (by simpa using hc)]
    clear hc
    have hcase : m.count < 1 ∨ (1 ≤ m.count ∧ 24 < m.count) ∨ (1 ≤ m.count ∧ m.count ≤ 24 ∧ m.count < m.opened) ∨ (1 ≤ m.count ∧ m.count ≤ 24 ∧ m.opened ≤ m.count) := by omega
    rcases hcase with h1 | ⟨h1, h2⟩ | ⟨h1, h2, h3⟩ | ⟨h1, h2, h3⟩
    · rw [if_pos (by omega)]
      go_enter Try.func19, Try.ntmps19
      go_wp2_with fail
      refine (HC.out _).mono ?_; rintro e w1 ⟨rfl, o1⟩
      obtain ⟨-, -, -, -, -, -, -, -, -, g9, g10, -, -, -, -, -, -, -⟩ := HF.out _ (o1.has B0 (fun f => f))
      go_wp2_with fail
      go_ret
      exact ⟨rfl, O0.trans o1⟩
    · rw [if_pos (by omega)]
      go_enter Try.func19, Try.ntmps19
      go_wp2_with fail
      refine (HC.out _).mono ?_; rintro e w1 ⟨rfl, o1⟩
      obtain ⟨-, -, -, -, -, -, -, -, -, g9, g10, -, -, -, -, -, -, -⟩ := HF.out _ (o1.has B0 (fun f => f))
      go_wp2_with fail
      go_ret
      exact ⟨rfl, O0.trans o1⟩
    · rw [if_pos (by omega)]
      go_enter Try.func19, Try.ntmps19
      go_wp2_with fail
      refine (HC.out _).mono ?_; rintro e w1 ⟨rfl, o1⟩
      obtain ⟨-, -, -, -, -, -, -, -, -, g9, g10, -, -, -, -, -, -, -⟩ := HF.out _ (o1.has B0 (fun f => f))
      go_wp2_with fail
      go_ret
      exact ⟨rfl, O0.trans o1⟩
    · rw [if_neg (by omega)]
      go_enter Try.func19, Try.ntmps19
      go_wp2_with fail
      refine (HC.out _).mono ?_; rintro e w1 ⟨rfl, o1⟩
      obtain ⟨-, -, -, -, -, -, -, -, -, g9, g10, -, -, -, -, -, -, -⟩ := HF.out _ (o1.has B0 (fun f => f))
      go_wp2_with fail
      go_ret
      exact ⟨rfl, O0.trans o1⟩
  · rw [show batchC m = m.c.check from if_pos hc]
    have h1 : (m.c.check != 0) = true := by simpa using hc
    clear hc
    generalize m.c.check = x at *
    go_enter Try.func19, Try.ntmps19
    go_wp2_with fail
    refine (HC.out _).mono ?_; rintro e w1 ⟨rfl, o1⟩
    go_wp2_with fail
    go_ret
    exact ⟨rfl, O0.trans o1⟩
set_option maxRecDepth 100000 in
set_option maxHeartbeats 2000000 in
theorem ticket_any (w : World) (m : Mg) (vw vs : Value) (ok : m.Ok) : Calls Try.prog 23 #[.agg (m.cells vw vs).toArray] w fun e w' => e = .returned (.int .i64 (ticketC m)) ∧ Only (fun _ => False) w w' := by
  have HC := Lib.hid (fun W => scheck_any W m.c)
  have B0 := Has.new w 39 (m.cells vw vs).toArray
  have O0 := (Only.refl (fun _ => False) w).alloc (.cells (m.cells vw vs).toArray 39)
  have hsz : (m.cells vw vs).toArray.size = 82 := by simpa using Mg.cells_length ok vw vs
  have HF := Lib.hid (fun W (h : Has W w.heap.size 39 (m.cells vw vs).toArray) => mf_of h ok)
  generalize (m.cells vw vs).toArray = cs at *
  have F := HF.out _ B0
  obtain ⟨-, -, -, -, f4, f5, f6, f7, f8, -, -, -, -, -, -, -, -, -⟩ := F
  by_cases hc : m.c.check = 0
  · rw [hc] at HC
    rw [show ticketC m = if m.count < 1 ∨ 64 < m.count then 1 else 0 from if_neg (by simpa using hc)]
    clear hc
    have hcase : m.count < 1 ∨ (1 ≤ m.count ∧ 64 < m.count) ∨ (1 ≤ m.count ∧ m.count ≤ 64) := by omega
    rcases hcase with h1 | ⟨h1, h2⟩ | ⟨h1, h2⟩
    · rw [if_pos (by omega)]
      go_enter Try.func23, Try.ntmps23
      go_wp2_with fail
      refine (HC.out _).mono ?_; rintro e w1 ⟨rfl, o1⟩
      obtain ⟨-, -, -, -, -, -, -, -, -, g9, g10, -, -, -, -, -, -, -⟩ := HF.out _ (o1.has B0 (fun f => f))
      go_wp2_with fail
      go_ret
      exact ⟨rfl, O0.trans o1⟩
    · rw [if_pos (by omega)]
      go_enter Try.func23, Try.ntmps23
      go_wp2_with fail
      refine (HC.out _).mono ?_; rintro e w1 ⟨rfl, o1⟩
      obtain ⟨-, -, -, -, -, -, -, -, -, g9, g10, -, -, -, -, -, -, -⟩ := HF.out _ (o1.has B0 (fun f => f))
      go_wp2_with fail
      go_ret
      exact ⟨rfl, O0.trans o1⟩
    · rw [if_neg (by omega)]
      go_enter Try.func23, Try.ntmps23
      go_wp2_with fail
      refine (HC.out _).mono ?_; rintro e w1 ⟨rfl, o1⟩
      obtain ⟨-, -, -, -, -, -, -, -, -, g9, g10, -, -, -, -, -, -, -⟩ := HF.out _ (o1.has B0 (fun f => f))
      go_wp2_with fail
      go_ret
      exact ⟨rfl, O0.trans o1⟩
  · rw [show ticketC m = m.c.check from if_pos hc]
    have h1 : (m.c.check != 0) = true := by simpa using hc
    clear hc
    generalize m.c.check = x at *
    go_enter Try.func23, Try.ntmps23
    go_wp2_with fail
    refine (HC.out _).mono ?_; rintro e w1 ⟨rfl, o1⟩
    go_wp2_with fail
    go_ret
    exact ⟨rfl, O0.trans o1⟩
theorem colsize_any (w : World) (n : Int) (h0 : 0 ≤ n) (h1 : n ≤ 4294967295) : Calls Try.prog 12 #[.int .u32 n] w fun e w' => e = .returned (.int .i64 (colSize n)) ∧ w = w' := by
  unfold colSize
  have h2 : 0 ≤ (n + 7) / 8 := by omega
  have h3 : (n + 7) / 8 ≤ 1000000000 := by omega
  go_enter Try.func12, Try.ntmps12
  go_wp2
  go_ret
  exact ⟨rfl, rfl⟩
theorem rcolsize_any (w : World) (n : Int) (h0 : 0 ≤ n) (h1 : n ≤ 4294967295) : Calls Try.prog 13 #[.int .u32 n] w fun e w' => e = .returned (.int .i64 (colSize n)) ∧ w = w' := by
  have e : colSize n = 128 * (n / 8 + (n % 8 + 7) / 8) := by unfold colSize; omega
  rw [e]
  clear e
  have h2 : 0 ≤ n / 8 := by omega
  have h3 : n / 8 ≤ 1000000000 := by omega
  have h4 : 0 ≤ n % 8 := by omega
  have h5 : n % 8 ≤ 7 := by omega
  have h6 : 0 ≤ (n % 8 + 7) / 8 := by omega
  have h7 : (n % 8 + 7) / 8 ≤ 1 := by omega
  go_enter Try.func13, Try.ntmps13
  go_wp2
  go_ret
  exact ⟨rfl, rfl⟩
end Go.Proofs.Ytbajgbjpaliecaa
