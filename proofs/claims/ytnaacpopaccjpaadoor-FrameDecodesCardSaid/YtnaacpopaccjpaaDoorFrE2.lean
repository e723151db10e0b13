/- The reference of layer 11: Encode. -/
import Derived.Test.YtnaacpopaccjpaaDoorFrE1
import Derived.Test.YtnaacpopaccjpaaDoorFx
import Derived.Test.YtnaacpopaccjpaaDoorFrB
set_option linter.unusedSimpArgs false
set_option linter.unusedVariables false
namespace Go.Proofs.YtnaacpopaccjpaaDoor
open Go.RowKit Go.Lib

theorem pre4_len (kind own peer seq ack : Int) (k : Nat) : (pre4 kind own peer seq ack k).length ≤ 17 := by
  rcases k with _ | _ | _ | _ | k <;> simp [pre4, beB_length]

set_option maxRecDepth 100000 in
theorem rencode_bad (w : World) (f : Fr) (hb : f.body.size ≤ 140737488351232) (hc : f.check ≠ 0) : Calls Tryd.prog 8 #[.agg f.cells] w fun e w' => e = .returned (.tuple #[.string ⟨#[]⟩, .int .i64 f.check]) ∧ Only (fun _ => False) w w' := by
  have hcheck := fun W => rcheck_any W f hb
  have h1 : (f.check != 0) = true := by simpa using hc
  generalize f.check = c at *
  obtain ⟨kind, own, peer, seq, ack, body⟩ := f
  have HC := Lib.hid hcheck
  clear hcheck hc
  simp only [Fr.cells] at *
  go_enter Tryd.func8, Tryd.ntmps8
  go_wp2_with fail
  refine (HC.out _).mono ?_
  rintro e w1 ⟨rfl, o1⟩
  have hf := o1.has (Has.new w 24 #[.int .i64 kind, .int .u32 own, .int .u32 peer, .int .u32 seq, .int .u32 ack, .string body]) (fun f => f)
  obtain ⟨f0, f1, f2, f3, f4, f5, ff⟩ := hf.facts6
  go_wp2_with fail
  refine (HC.out _).mono ?_
  rintro e w2 ⟨rfl, o2⟩
  go_wp2_with fail
  go_ret2
  exact ⟨rfl, (((Only.refl _ _).alloc _).trans o1).trans o2⟩

set_option maxRecDepth 100000 in
set_option maxHeartbeats 2000000 in
theorem rencode_ok (w : World) (f : Fr) (hok : f.ok) (hc : f.check = 0) : Calls Tryd.prog 8 #[.agg f.cells] w fun e w' => e = .returned (.tuple #[.string (strOfNums f.bytes), .int .i64 0]) ∧ Only (fun _ => False) w w' := by
  obtain ⟨hk1, hk3, hbs⟩ := check_kind hc
  obtain ⟨⟨ho0, ho1⟩, ⟨hp0, hp1⟩, ⟨hs0, hs1⟩, ⟨ha0, ha1⟩⟩ := hok
  have hcheck := fun W => rcheck_any W f (by omega)
  rw [hc] at hcheck
  have HB : strOfNums (Fr.bytes f) = strOfNums (pre4 f.kind f.own f.peer f.seq f.ack 4) ++ f.body := by
    rw [show Fr.bytes f = pre4 f.kind f.own f.peer f.seq f.ack 4 ++ ofStr f.body from rfl, nums_app, strOfNums_ofStr]
  clear hc
  obtain ⟨kind, own, peer, seq, ack, body⟩ := f
  simp only at hk1 hk3 hbs ho0 ho1 hp0 hp1 hs0 hs1 ha0 ha1 HB
  rw [HB]
  have HC := Lib.hid hcheck
  clear hcheck HB
  simp only [Fr.cells] at *
  have F1 := Lib.hid (fun W => fixed4B W own ho0 ho1)
  have F2 := Lib.hid (fun W => fixed4B W peer hp0 hp1)
  have F3 := Lib.hid (fun W => fixed4B W seq hs0 hs1)
  have F4 := Lib.hid (fun W => fixed4B W ack ha0 ha1)
  have wk : IntKind.u8.wrap kind = kind := by rw [IntKind.wrap_u8]; omega
  have wo : IntKind.u64.wrap own = own := by rw [IntKind.wrap_u64]; omega
  have wp : IntKind.u64.wrap peer = peer := by rw [IntKind.wrap_u64]; omega
  have ws : IntKind.u64.wrap seq = seq := by rw [IntKind.wrap_u64]; omega
  have wa : IntKind.u64.wrap ack = ack := by rw [IntKind.wrap_u64]; omega
  have hcat := fun W (k : Nat) (x : Int) => run_string_add_sum (P := Tryd.prog) (w := W) (strOfNums (pre4 kind own peer seq ack k)) (strOfNums (beB x 4)) (by rw [nums_size, nums_size, beB_length]; have := pre4_len kind own peer seq ack k; omega)
  have hcat2 := fun W => run_string_add_sum (P := Tryd.prog) (w := W) (strOfNums (pre4 kind own peer seq ack 4)) body (by rw [nums_size]; have := pre4_len kind own peer seq ack 4; omega)
  have HCAT := Lib.hid hcat
  have HCAT2 := Lib.hid hcat2
  clear hcat hcat2
  have n0 : strOfNums (pre4 kind own peer seq ack 0) ++ strOfNums (beB own 4) = strOfNums (pre4 kind own peer seq ack 1) := by rw [← nums_app]; rfl
  have n1 : strOfNums (pre4 kind own peer seq ack 1) ++ strOfNums (beB peer 4) = strOfNums (pre4 kind own peer seq ack 2) := by rw [← nums_app]; rfl
  have n2 : strOfNums (pre4 kind own peer seq ack 2) ++ strOfNums (beB seq 4) = strOfNums (pre4 kind own peer seq ack 3) := by rw [← nums_app]; rfl
  have n3 : strOfNums (pre4 kind own peer seq ack 3) ++ strOfNums (beB ack 4) = strOfNums (pre4 kind own peer seq ack 4) := by rw [← nums_app]; rfl
  have N0 := Lib.hid n0
  have N1 := Lib.hid n1
  have N2 := Lib.hid n2
  have N3 := Lib.hid n3
  clear n0 n1 n2 n3
  go_enter Tryd.func8, Tryd.ntmps8
  go_wp2_with fail
  refine (HC.out _).mono ?_
  rintro e w1 ⟨rfl, o1⟩
  have hf := o1.has (Has.new w 24 #[.int .i64 kind, .int .u32 own, .int .u32 peer, .int .u32 seq, .int .u32 ack, .string body]) (fun f => f)
  have hfl := hf.lt
  obtain ⟨f0, f1, f2, f3, f4, f5, ff⟩ := hf.facts6
  have hconv := conv_one (w1.alloc (.cells #[.int .u8 kind] 5)) w1.heap.size kind ((Has.new _ _ _).cell 0)
  go_wp2_with fail
  go_loopw [4, 6] (fun s i W => ∃ (k : Nat), k ≤ 4 ∧ i = .int .i64 k ∧ s = .string (strOfNums (pre4 kind own peer seq ack k)) ∧
      Has W w.heap.size 24 #[.int .i64 kind, .int .u32 own, .int .u32 peer, .int .u32 seq, .int .u32 ack, .string body] ∧ Has W (w1.heap.size + 1) 22 #[.int .u32 own, .int .u32 peer, .int .u32 seq, .int .u32 ack] ∧ Only (fun _ => False) w W) (fun _ i _ => 4 - (intOf i).toNat)
  case atStart =>
    refine ⟨0, by omega, rfl, rfl, (hf.alloc _).alloc _, ?_, ((((Only.refl _ _).alloc _).trans o1).alloc _).alloc _⟩
    have hn := Has.new (w1.alloc (.cells #[.int .u8 kind] 5)) 22 #[.int .u32 own, .int .u32 peer, .int .u32 seq, .int .u32 ack]
    simpa using hn
  case round =>
    obtain ⟨k, hk, rfl, rfl, hfr, hsl, ho⟩ := hrel
    have hkk : k = 0 ∨ k = 1 ∨ k = 2 ∨ k = 3 ∨ k = 4 := by omega
    clear f0 f1 f2 f3 f4 f5 ff hconv
    rcases hkk with rfl | rfl | rfl | rfl | rfl
    · have e0 : wr.cell? ⟨w1.heap.size + 1, 0, none⟩ = some (.int .u32 own) := hsl.cell 0
      have hct := fun W => HCAT.out W 0 own
      go_wp2_with fail
      refine (F1.out _).mono ?_
      rintro e w3 ⟨rfl, o3⟩
      go_wp2_with fail
      go_roundw
      case rel => exact ⟨1, by omega, rfl, by rw [N0.out], o3.has hfr (fun f => f), o3.has hsl (fun f => f), ho.trans o3⟩
      case measure => simp [intOf]
    · have e0 : wr.cell? ⟨w1.heap.size + 1, 1, none⟩ = some (.int .u32 peer) := hsl.cell 1
      have hct := fun W => HCAT.out W 1 peer
      go_wp2_with fail
      refine (F2.out _).mono ?_
      rintro e w3 ⟨rfl, o3⟩
      go_wp2_with fail
      go_roundw
      case rel => exact ⟨2, by omega, rfl, by rw [N1.out], o3.has hfr (fun f => f), o3.has hsl (fun f => f), ho.trans o3⟩
      case measure => simp [intOf]
    · have e0 : wr.cell? ⟨w1.heap.size + 1, 2, none⟩ = some (.int .u32 seq) := hsl.cell 2
      have hct := fun W => HCAT.out W 2 seq
      go_wp2_with fail
      refine (F3.out _).mono ?_
      rintro e w3 ⟨rfl, o3⟩
      go_wp2_with fail
      go_roundw
      case rel => exact ⟨3, by omega, rfl, by rw [N2.out], o3.has hfr (fun f => f), o3.has hsl (fun f => f), ho.trans o3⟩
      case measure => simp [intOf]
    · have e0 : wr.cell? ⟨w1.heap.size + 1, 3, none⟩ = some (.int .u32 ack) := hsl.cell 3
      have hct := fun W => HCAT.out W 3 ack
      go_wp2_with fail
      refine (F4.out _).mono ?_
      rintro e w3 ⟨rfl, o3⟩
      go_wp2_with fail
      go_roundw
      case rel => exact ⟨4, by omega, rfl, by rw [N3.out], o3.has hfr (fun f => f), o3.has hsl (fun f => f), ho.trans o3⟩
      case measure => simp [intOf]
    · have e5 : wr.cell? ⟨w.heap.size, 5, none⟩ = some (.string body) := hfr.cell 5
      have hct := HCAT2.out
      go_wp2_with fail
      go_ret2
      exact ⟨rfl, ho⟩
end Go.Proofs.YtnaacpopaccjpaaDoor
