/- Chapter 11: the law FrameBack walked. -/
import Derived.Test.YtnaacpopaccjpaaFrB
import Derived.Test.YtnaacpopaccjpaaFrF
set_option linter.unusedSimpArgs false
set_option linter.unusedVariables false
namespace Go.Proofs.Ytnaacpopaccjpaa
open Go.RowKit Go.Lib

theorem told_any (w : World) (f : Fr) : Calls Try.prog 11 #[.agg f.cells] w fun e w' => e = .returned (.agg f.cells) ∧ Only (fun _ => False) w w' := by
  simp only [Fr.cells]
  go_enter Try.func11, Try.ntmps11
  go_wp2
  refine bodyPost_ret (v := .agg f.cells) ?_ rfl ⟨rfl, ((Only.refl _ _).alloc _).alloc _⟩
  simp [results, Try.results11, go_sem, Fr.cells]

set_option maxHeartbeats 1000000 in
theorem back_long (w : World) (f : Fr) (s : ByteArray) (hf : f.body.size ≤ 9223372036854775807) (hs : s.size ≤ 9223372036854775807) (h : 66000 < f.body.size ∨ 66000 < s.size) :
    Calls Try.prog 4 #[.agg f.cells, .string s] w fun e w' => e = .returned (.bool true) ∧ Only (fun _ => False) w w' := by
  obtain ⟨kind, own, peer, seq, ack, body⟩ := f
  simp only at h hf
  rcases h with h | h
  all_goals
    simp only [Fr.cells]
    go_enter Try.func4, Try.ntmps4
    go_wp2_with fail
    all_goals
      refine (awake11_any _).mono ?_
      rintro e w1 ⟨rfl, o1⟩
      go_wp2_with fail
      go_ret
      exact ⟨rfl, ((Only.refl _ _).alloc _).trans o1⟩

theorem held66 {w X W : World} {a b : Nat} {t u : TypeId} {x0 x1 x2 x3 x4 x5 : Value} (o : Only (fun _ => False) X W)
    (h : (X.cell? ⟨a, 0, none⟩ = some x0 ∧ X.cell? ⟨a, 1, none⟩ = some x1 ∧ X.cell? ⟨a, 2, none⟩ = some x2 ∧ X.cell? ⟨a, 3, none⟩ = some x3 ∧ X.cell? ⟨a, 4, none⟩ = some x4 ∧ X.cell? ⟨a, 5, none⟩ = some x5) ∧ (X.cell? ⟨b, 0, none⟩ = some x0 ∧ X.cell? ⟨b, 1, none⟩ = some x1 ∧ X.cell? ⟨b, 2, none⟩ = some x2 ∧ X.cell? ⟨b, 3, none⟩ = some x3 ∧ X.cell? ⟨b, 4, none⟩ = some x4 ∧ X.cell? ⟨b, 5, none⟩ = some x5) ∧ Has X a t #[x0, x1, x2, x3, x4, x5] ∧ Has X b u #[x0, x1, x2, x3, x4, x5] ∧ Only (fun _ => False) w X) :
    (W.cell? ⟨a, 0, none⟩ = some x0 ∧ W.cell? ⟨a, 1, none⟩ = some x1 ∧ W.cell? ⟨a, 2, none⟩ = some x2 ∧ W.cell? ⟨a, 3, none⟩ = some x3 ∧ W.cell? ⟨a, 4, none⟩ = some x4 ∧ W.cell? ⟨a, 5, none⟩ = some x5) ∧ (W.cell? ⟨b, 0, none⟩ = some x0 ∧ W.cell? ⟨b, 1, none⟩ = some x1 ∧ W.cell? ⟨b, 2, none⟩ = some x2 ∧ W.cell? ⟨b, 3, none⟩ = some x3 ∧ W.cell? ⟨b, 4, none⟩ = some x4 ∧ W.cell? ⟨b, 5, none⟩ = some x5) ∧ Has W a t #[x0, x1, x2, x3, x4, x5] ∧ Has W b u #[x0, x1, x2, x3, x4, x5] ∧ Only (fun _ => False) w W := by
  have h1 := o.has h.2.2.1 (fun f => f)
  have h2 := o.has h.2.2.2.1 (fun f => f)
  exact ⟨⟨h1.cell 0, h1.cell 1, h1.cell 2, h1.cell 3, h1.cell 4, h1.cell 5⟩, ⟨h2.cell 0, h2.cell 1, h2.cell 2, h2.cell 3, h2.cell 4, h2.cell 5⟩, h1, h2, h.2.2.2.2.trans o⟩
theorem held66_new {w X : World} {a b : Nat} {t u : TypeId} {x0 x1 x2 x3 x4 x5 : Value} (h1 : Has X a t #[x0, x1, x2, x3, x4, x5]) (h2 : Has X b u #[x0, x1, x2, x3, x4, x5]) (o : Only (fun _ => False) w X) :
    (X.cell? ⟨a, 0, none⟩ = some x0 ∧ X.cell? ⟨a, 1, none⟩ = some x1 ∧ X.cell? ⟨a, 2, none⟩ = some x2 ∧ X.cell? ⟨a, 3, none⟩ = some x3 ∧ X.cell? ⟨a, 4, none⟩ = some x4 ∧ X.cell? ⟨a, 5, none⟩ = some x5) ∧ (X.cell? ⟨b, 0, none⟩ = some x0 ∧ X.cell? ⟨b, 1, none⟩ = some x1 ∧ X.cell? ⟨b, 2, none⟩ = some x2 ∧ X.cell? ⟨b, 3, none⟩ = some x3 ∧ X.cell? ⟨b, 4, none⟩ = some x4 ∧ X.cell? ⟨b, 5, none⟩ = some x5) ∧ Has X a t #[x0, x1, x2, x3, x4, x5] ∧ Has X b u #[x0, x1, x2, x3, x4, x5] ∧ Only (fun _ => False) w X :=
  ⟨⟨h1.cell 0, h1.cell 1, h1.cell 2, h1.cell 3, h1.cell 4, h1.cell 5⟩, ⟨h2.cell 0, h2.cell 1, h2.cell 2, h2.cell 3, h2.cell 4, h2.cell 5⟩, h1, h2, o⟩

set_option maxHeartbeats 2000000 in
theorem back_b_short (w : World) (f : Fr) (s : ByteArray) (hok : f.ok) (hf : f.body.size ≤ 66000) (hs : s.size ≤ 66000) (hc : f.check ≠ 0) (hs17 : s.size < 17) :
    Calls Try.prog 4 #[.agg f.cells, .string s] w fun e w' => e = .returned (.bool true) ∧ Only (fun _ => False) w w' := by
  have hof := Lib.hid (fun W => of_any W f)
  have henc := Lib.hid (fun W => encode_bad W f (by omega) hc)
  obtain ⟨kind, own, peer, seq, ack, body⟩ := f
  simp only [Fr.cells] at *
  clear hc
  go_enter Try.func4, Try.ntmps4
  go_wp2_with fail
  refine (hof.out _).mono ?_
  rintro e w1 ⟨rfl, o1⟩
  go_wp2_with fail
  refine (henc.out _).mono ?_
  rintro e w2 ⟨b, rfl, hb, hlb, o2⟩
  go_wp2_with fail
  have O2 := ((((Only.refl (fun _ => False) w).alloc (.cells #[.int .i64 kind, .int .u32 own, .int .u32 peer, .int .u32 seq, .int .u32 ack, .string body] 24)).trans o1).trans o2)
  refine (decode_short _ s (by omega) hs17).mono ?_
  rintro e v3 ⟨b3, f3, rfl, he3, hl3, p3⟩
  simp only [ev, zeroFr, Fr.cells]
  go_wp2_with fail
  refine (told_any _ zeroFr).mono ?_
  rintro e v4 ⟨rfl, p4⟩
  simp only [zeroFr, Fr.cells]
  go_wp2_with fail
  refine (awake11_any _).mono ?_
  rintro e v5 ⟨rfl, p5⟩
  go_wp2_with fail
  go_ret
  exact ⟨rfl, (((O2.trans p3).alloc _).trans p4).trans p5⟩

set_option maxHeartbeats 2000000 in
theorem back_b_wrong (w : World) (f : Fr) (s : ByteArray) (hok : f.ok) (hf : f.body.size ≤ 66000) (hs : s.size ≤ 66000) (hc : f.check ≠ 0) (hs17 : 17 ≤ s.size) (hsc : (frOf s).check ≠ 0) :
    Calls Try.prog 4 #[.agg f.cells, .string s] w fun e w' => e = .returned (.bool true) ∧ Only (fun _ => False) w w' := by
  have hof := Lib.hid (fun W => of_any W f)
  have henc := Lib.hid (fun W => encode_bad W f (by omega) hc)
  have HSC := Lib.hid hsc
  clear hsc
  obtain ⟨kind, own, peer, seq, ack, body⟩ := f
  simp only [Fr.cells] at *
  clear hc
  go_enter Try.func4, Try.ntmps4
  go_wp2_with fail
  refine (hof.out _).mono ?_
  rintro e w1 ⟨rfl, o1⟩
  go_wp2_with fail
  refine (henc.out _).mono ?_
  rintro e w2 ⟨b, rfl, hb, hlb, o2⟩
  go_wp2_with fail
  have O2 := ((((Only.refl (fun _ => False) w).alloc (.cells #[.int .i64 kind, .int .u32 own, .int .u32 peer, .int .u32 seq, .int .u32 ack, .string body] 24)).trans o1).trans o2)
  refine (decode_wrong _ s (by omega) hs17 HSC.out).mono ?_
  rintro e v3 ⟨b3, rfl, he3, hl3, p3⟩
  simp only [ev, zeroFr, Fr.cells]
  go_wp2_with fail
  refine (told_any _ zeroFr).mono ?_
  rintro e v4 ⟨rfl, p4⟩
  simp only [zeroFr, Fr.cells]
  go_wp2_with fail
  refine (awake11_any _).mono ?_
  rintro e v5 ⟨rfl, p5⟩
  go_wp2_with fail
  go_ret
  exact ⟨rfl, (((O2.trans p3).alloc _).trans p4).trans p5⟩

set_option maxHeartbeats 2000000 in
theorem back_b_good (w : World) (f : Fr) (s : ByteArray) (hok : f.ok) (hf : f.body.size ≤ 66000) (hs : s.size ≤ 66000) (hc : f.check ≠ 0) (hs17 : 17 ≤ s.size) (hsc : (frOf s).check = 0) :
    Calls Try.prog 4 #[.agg f.cells, .string s] w fun e w' => e = .returned (.bool true) ∧ Only (fun _ => False) w w' := by
  have hof := Lib.hid (fun W => of_any W f)
  have henc := Lib.hid (fun W => encode_bad W f (by omega) hc)
  have hgd := Lib.hid (fun W => decode_good W s (by omega) hs17 hsc)
  have hge : ∀ W, Calls Try.prog 9 #[.agg (frOf s).cells] W fun e w' => e = .returned (.tuple #[.string s, .nilIface]) ∧ Only (fun _ => False) W w' := fun W => by
    have := encode_ok W (frOf s) (frOf_ok s) hsc
    rwa [bytes_frOf s hs17] at this
  have HGE := Lib.hid hge
  clear hge hsc
  obtain ⟨gk, go_, gp, gs, ga, gb⟩ := frOf s
  obtain ⟨kind, own, peer, seq, ack, body⟩ := f
  simp only [Fr.cells] at *
  clear hc
  go_enter Try.func4, Try.ntmps4
  go_wp2_with fail
  refine (hof.out _).mono ?_
  rintro e w1 ⟨rfl, o1⟩
  go_wp2_with fail
  refine (henc.out _).mono ?_
  rintro e w2 ⟨b, rfl, hb, hlb, o2⟩
  go_wp2_with fail
  have O2 := ((((Only.refl (fun _ => False) w).alloc (.cells #[.int .i64 kind, .int .u32 own, .int .u32 peer, .int .u32 seq, .int .u32 ack, .string body] 24)).trans o1).trans o2)
  refine (hgd.out _).mono ?_
  rintro e v3 ⟨rfl, p3⟩
  simp only [Fr.cells]
  go_wp2_with fail
  refine (HGE.out _).mono ?_
  rintro e v4 ⟨rfl, p4⟩
  go_wp2_with fail
  refine (awake11_any _).mono ?_
  rintro e v5 ⟨rfl, p5⟩
  go_wp2_with fail
  go_ret
  exact ⟨rfl, (((O2.trans p3).alloc _).trans p4).trans p5⟩

set_option maxHeartbeats 2000000 in
theorem back_g_short (w : World) (f : Fr) (s : ByteArray) (hok : f.ok) (hf : f.body.size ≤ 66000) (hs : s.size ≤ 66000) (hc : f.check = 0) (hs17 : s.size < 17) :
    Calls Try.prog 4 #[.agg f.cells, .string s] w fun e w' => e = .returned (.bool true) ∧ Only (fun _ => False) w w' := by
  have hof := Lib.hid (fun W => of_any W f)
  have henc := Lib.hid (fun W => encode_ok W f hok hc)
  have hkk := check_kind hc
  have hfo := frOf_bytes f hok ⟨hkk.1, hkk.2.1⟩
  have hsz : (strOfNums f.bytes).size = 17 + f.body.size := by rw [strOfNums_size, bytes_length]
  have hdec : ∀ W, Calls Try.prog 10 #[.string (strOfNums f.bytes)] W fun x w' => x = .returned (.tuple #[.agg f.cells, .nilIface]) ∧ Only (fun _ => False) W w' := fun W => by
    have := decode_good W (strOfNums f.bytes) (by omega) (by omega) (by rw [hfo]; exact hc)
    rwa [hfo] at this
  have htl := Lib.hid (fun W => told_any W f)
  have HDEC := Lib.hid hdec
  clear hkk hfo hsz hdec
  generalize strOfNums f.bytes = a at *
  obtain ⟨kind, own, peer, seq, ack, body⟩ := f
  simp only [Fr.cells] at *
  clear hc
  go_enter Try.func4, Try.ntmps4
  go_wp2_with fail
  refine (hof.out _).mono ?_
  rintro e w1 ⟨rfl, o1⟩
  go_wp2_with fail
  refine (henc.out _).mono ?_
  rintro e w2 ⟨rfl, o2⟩
  go_wp2_with fail
  refine (HDEC.out _).mono ?_
  rintro e w3 ⟨rfl, o3⟩
  have k1 := ((o3.has (o2.has (o1.has (Has.new w 24 #[.int .i64 kind, .int .u32 own, .int .u32 peer, .int .u32 seq, .int .u32 ack, .string body]) (fun f => f)) (fun f => f)) (fun f => f)).alloc (.cells #[.int .i64 kind, .int .u32 own, .int .u32 peer, .int .u32 seq, .int .u32 ack, .string body] 27)).drew
  have k2 := (Has.new w3 27 #[.int .i64 kind, .int .u32 own, .int .u32 peer, .int .u32 seq, .int .u32 ack, .string body]).drew
  have k3 := (((((Only.refl (fun _ => False) w).alloc (.cells #[.int .i64 kind, .int .u32 own, .int .u32 peer, .int .u32 seq, .int .u32 ack, .string body] 24)).trans o1).trans o2).trans o3 |>.alloc (.cells #[.int .i64 kind, .int .u32 own, .int .u32 peer, .int .u32 seq, .int .u32 ack, .string body] 27)).drew
  go_wp2_with fail
  go_region_held3 (fun W => (W.cell? ⟨w.heap.size, 0, none⟩ = some (.int .i64 kind) ∧ W.cell? ⟨w.heap.size, 1, none⟩ = some (.int .u32 own) ∧ W.cell? ⟨w.heap.size, 2, none⟩ = some (.int .u32 peer) ∧ W.cell? ⟨w.heap.size, 3, none⟩ = some (.int .u32 seq) ∧ W.cell? ⟨w.heap.size, 4, none⟩ = some (.int .u32 ack) ∧ W.cell? ⟨w.heap.size, 5, none⟩ = some (.string body)) ∧ (W.cell? ⟨w3.heap.size, 0, none⟩ = some (.int .i64 kind) ∧ W.cell? ⟨w3.heap.size, 1, none⟩ = some (.int .u32 own) ∧ W.cell? ⟨w3.heap.size, 2, none⟩ = some (.int .u32 peer) ∧ W.cell? ⟨w3.heap.size, 3, none⟩ = some (.int .u32 seq) ∧ W.cell? ⟨w3.heap.size, 4, none⟩ = some (.int .u32 ack) ∧ W.cell? ⟨w3.heap.size, 5, none⟩ = some (.string body)) ∧ Has W w.heap.size 24 #[.int .i64 kind, .int .u32 own, .int .u32 peer, .int .u32 seq, .int .u32 ack, .string body] ∧ Has W w3.heap.size 27 #[.int .i64 kind, .int .u32 own, .int .u32 peer, .int .u32 seq, .int .u32 ack, .string body] ∧ Only (fun _ => False) w W) (first | exact held66_new k1 k2 k3 | exact held66 (by assumption) (held66_new k1 k2 k3) | exact held66 (by assumption) (by assumption)) (first | (go_at_call 11; refine (htl.out _).mono ?_; rintro e w4 ⟨rfl, o4⟩))
  rename_i hS
  have O2 := hS.2.2.2.2
  clear hS k1 k2 k3
  go_wp2_with fail
  refine (decode_short _ s (by omega) hs17).mono ?_
  rintro e v3 ⟨b3, f3, rfl, he3, hl3, p3⟩
  simp only [ev, zeroFr, Fr.cells]
  go_wp2_with fail
  refine (told_any _ zeroFr).mono ?_
  rintro e v4 ⟨rfl, p4⟩
  simp only [zeroFr, Fr.cells]
  go_wp2_with fail
  refine (awake11_any _).mono ?_
  rintro e v5 ⟨rfl, p5⟩
  go_wp2_with fail
  go_ret
  exact ⟨rfl, (((O2.trans p3).alloc _).trans p4).trans p5⟩

set_option maxHeartbeats 2000000 in
theorem back_g_wrong (w : World) (f : Fr) (s : ByteArray) (hok : f.ok) (hf : f.body.size ≤ 66000) (hs : s.size ≤ 66000) (hc : f.check = 0) (hs17 : 17 ≤ s.size) (hsc : (frOf s).check ≠ 0) :
    Calls Try.prog 4 #[.agg f.cells, .string s] w fun e w' => e = .returned (.bool true) ∧ Only (fun _ => False) w w' := by
  have hof := Lib.hid (fun W => of_any W f)
  have henc := Lib.hid (fun W => encode_ok W f hok hc)
  have hkk := check_kind hc
  have hfo := frOf_bytes f hok ⟨hkk.1, hkk.2.1⟩
  have hsz : (strOfNums f.bytes).size = 17 + f.body.size := by rw [strOfNums_size, bytes_length]
  have hdec : ∀ W, Calls Try.prog 10 #[.string (strOfNums f.bytes)] W fun x w' => x = .returned (.tuple #[.agg f.cells, .nilIface]) ∧ Only (fun _ => False) W w' := fun W => by
    have := decode_good W (strOfNums f.bytes) (by omega) (by omega) (by rw [hfo]; exact hc)
    rwa [hfo] at this
  have htl := Lib.hid (fun W => told_any W f)
  have HDEC := Lib.hid hdec
  clear hkk hfo hsz hdec
  generalize strOfNums f.bytes = a at *
  have HSC := Lib.hid hsc
  clear hsc
  obtain ⟨kind, own, peer, seq, ack, body⟩ := f
  simp only [Fr.cells] at *
  clear hc
  go_enter Try.func4, Try.ntmps4
  go_wp2_with fail
  refine (hof.out _).mono ?_
  rintro e w1 ⟨rfl, o1⟩
  go_wp2_with fail
  refine (henc.out _).mono ?_
  rintro e w2 ⟨rfl, o2⟩
  go_wp2_with fail
  refine (HDEC.out _).mono ?_
  rintro e w3 ⟨rfl, o3⟩
  have k1 := ((o3.has (o2.has (o1.has (Has.new w 24 #[.int .i64 kind, .int .u32 own, .int .u32 peer, .int .u32 seq, .int .u32 ack, .string body]) (fun f => f)) (fun f => f)) (fun f => f)).alloc (.cells #[.int .i64 kind, .int .u32 own, .int .u32 peer, .int .u32 seq, .int .u32 ack, .string body] 27)).drew
  have k2 := (Has.new w3 27 #[.int .i64 kind, .int .u32 own, .int .u32 peer, .int .u32 seq, .int .u32 ack, .string body]).drew
  have k3 := (((((Only.refl (fun _ => False) w).alloc (.cells #[.int .i64 kind, .int .u32 own, .int .u32 peer, .int .u32 seq, .int .u32 ack, .string body] 24)).trans o1).trans o2).trans o3 |>.alloc (.cells #[.int .i64 kind, .int .u32 own, .int .u32 peer, .int .u32 seq, .int .u32 ack, .string body] 27)).drew
  go_wp2_with fail
  go_region_held3 (fun W => (W.cell? ⟨w.heap.size, 0, none⟩ = some (.int .i64 kind) ∧ W.cell? ⟨w.heap.size, 1, none⟩ = some (.int .u32 own) ∧ W.cell? ⟨w.heap.size, 2, none⟩ = some (.int .u32 peer) ∧ W.cell? ⟨w.heap.size, 3, none⟩ = some (.int .u32 seq) ∧ W.cell? ⟨w.heap.size, 4, none⟩ = some (.int .u32 ack) ∧ W.cell? ⟨w.heap.size, 5, none⟩ = some (.string body)) ∧ (W.cell? ⟨w3.heap.size, 0, none⟩ = some (.int .i64 kind) ∧ W.cell? ⟨w3.heap.size, 1, none⟩ = some (.int .u32 own) ∧ W.cell? ⟨w3.heap.size, 2, none⟩ = some (.int .u32 peer) ∧ W.cell? ⟨w3.heap.size, 3, none⟩ = some (.int .u32 seq) ∧ W.cell? ⟨w3.heap.size, 4, none⟩ = some (.int .u32 ack) ∧ W.cell? ⟨w3.heap.size, 5, none⟩ = some (.string body)) ∧ Has W w.heap.size 24 #[.int .i64 kind, .int .u32 own, .int .u32 peer, .int .u32 seq, .int .u32 ack, .string body] ∧ Has W w3.heap.size 27 #[.int .i64 kind, .int .u32 own, .int .u32 peer, .int .u32 seq, .int .u32 ack, .string body] ∧ Only (fun _ => False) w W) (first | exact held66_new k1 k2 k3 | exact held66 (by assumption) (held66_new k1 k2 k3) | exact held66 (by assumption) (by assumption)) (first | (go_at_call 11; refine (htl.out _).mono ?_; rintro e w4 ⟨rfl, o4⟩))
  rename_i hS
  have O2 := hS.2.2.2.2
  clear hS k1 k2 k3
  go_wp2_with fail
  refine (decode_wrong _ s (by omega) hs17 HSC.out).mono ?_
  rintro e v3 ⟨b3, rfl, he3, hl3, p3⟩
  simp only [ev, zeroFr, Fr.cells]
  go_wp2_with fail
  refine (told_any _ zeroFr).mono ?_
  rintro e v4 ⟨rfl, p4⟩
  simp only [zeroFr, Fr.cells]
  go_wp2_with fail
  refine (awake11_any _).mono ?_
  rintro e v5 ⟨rfl, p5⟩
  go_wp2_with fail
  go_ret
  exact ⟨rfl, (((O2.trans p3).alloc _).trans p4).trans p5⟩

set_option maxHeartbeats 2000000 in
theorem back_g_good (w : World) (f : Fr) (s : ByteArray) (hok : f.ok) (hf : f.body.size ≤ 66000) (hs : s.size ≤ 66000) (hc : f.check = 0) (hs17 : 17 ≤ s.size) (hsc : (frOf s).check = 0) :
    Calls Try.prog 4 #[.agg f.cells, .string s] w fun e w' => e = .returned (.bool true) ∧ Only (fun _ => False) w w' := by
  have hof := Lib.hid (fun W => of_any W f)
  have henc := Lib.hid (fun W => encode_ok W f hok hc)
  have hkk := check_kind hc
  have hfo := frOf_bytes f hok ⟨hkk.1, hkk.2.1⟩
  have hsz : (strOfNums f.bytes).size = 17 + f.body.size := by rw [strOfNums_size, bytes_length]
  have hdec : ∀ W, Calls Try.prog 10 #[.string (strOfNums f.bytes)] W fun x w' => x = .returned (.tuple #[.agg f.cells, .nilIface]) ∧ Only (fun _ => False) W w' := fun W => by
    have := decode_good W (strOfNums f.bytes) (by omega) (by omega) (by rw [hfo]; exact hc)
    rwa [hfo] at this
  have htl := Lib.hid (fun W => told_any W f)
  have HDEC := Lib.hid hdec
  clear hkk hfo hsz hdec
  generalize strOfNums f.bytes = a at *
  have hgd := Lib.hid (fun W => decode_good W s (by omega) hs17 hsc)
  have hge : ∀ W, Calls Try.prog 9 #[.agg (frOf s).cells] W fun e w' => e = .returned (.tuple #[.string s, .nilIface]) ∧ Only (fun _ => False) W w' := fun W => by
    have := encode_ok W (frOf s) (frOf_ok s) hsc
    rwa [bytes_frOf s hs17] at this
  have HGE := Lib.hid hge
  clear hge hsc
  obtain ⟨gk, go_, gp, gs, ga, gb⟩ := frOf s
  obtain ⟨kind, own, peer, seq, ack, body⟩ := f
  simp only [Fr.cells] at *
  clear hc
  go_enter Try.func4, Try.ntmps4
  go_wp2_with fail
  refine (hof.out _).mono ?_
  rintro e w1 ⟨rfl, o1⟩
  go_wp2_with fail
  refine (henc.out _).mono ?_
  rintro e w2 ⟨rfl, o2⟩
  go_wp2_with fail
  refine (HDEC.out _).mono ?_
  rintro e w3 ⟨rfl, o3⟩
  have k1 := ((o3.has (o2.has (o1.has (Has.new w 24 #[.int .i64 kind, .int .u32 own, .int .u32 peer, .int .u32 seq, .int .u32 ack, .string body]) (fun f => f)) (fun f => f)) (fun f => f)).alloc (.cells #[.int .i64 kind, .int .u32 own, .int .u32 peer, .int .u32 seq, .int .u32 ack, .string body] 27)).drew
  have k2 := (Has.new w3 27 #[.int .i64 kind, .int .u32 own, .int .u32 peer, .int .u32 seq, .int .u32 ack, .string body]).drew
  have k3 := (((((Only.refl (fun _ => False) w).alloc (.cells #[.int .i64 kind, .int .u32 own, .int .u32 peer, .int .u32 seq, .int .u32 ack, .string body] 24)).trans o1).trans o2).trans o3 |>.alloc (.cells #[.int .i64 kind, .int .u32 own, .int .u32 peer, .int .u32 seq, .int .u32 ack, .string body] 27)).drew
  go_wp2_with fail
  go_region_held3 (fun W => (W.cell? ⟨w.heap.size, 0, none⟩ = some (.int .i64 kind) ∧ W.cell? ⟨w.heap.size, 1, none⟩ = some (.int .u32 own) ∧ W.cell? ⟨w.heap.size, 2, none⟩ = some (.int .u32 peer) ∧ W.cell? ⟨w.heap.size, 3, none⟩ = some (.int .u32 seq) ∧ W.cell? ⟨w.heap.size, 4, none⟩ = some (.int .u32 ack) ∧ W.cell? ⟨w.heap.size, 5, none⟩ = some (.string body)) ∧ (W.cell? ⟨w3.heap.size, 0, none⟩ = some (.int .i64 kind) ∧ W.cell? ⟨w3.heap.size, 1, none⟩ = some (.int .u32 own) ∧ W.cell? ⟨w3.heap.size, 2, none⟩ = some (.int .u32 peer) ∧ W.cell? ⟨w3.heap.size, 3, none⟩ = some (.int .u32 seq) ∧ W.cell? ⟨w3.heap.size, 4, none⟩ = some (.int .u32 ack) ∧ W.cell? ⟨w3.heap.size, 5, none⟩ = some (.string body)) ∧ Has W w.heap.size 24 #[.int .i64 kind, .int .u32 own, .int .u32 peer, .int .u32 seq, .int .u32 ack, .string body] ∧ Has W w3.heap.size 27 #[.int .i64 kind, .int .u32 own, .int .u32 peer, .int .u32 seq, .int .u32 ack, .string body] ∧ Only (fun _ => False) w W) (first | exact held66_new k1 k2 k3 | exact held66 (by assumption) (held66_new k1 k2 k3) | exact held66 (by assumption) (by assumption)) (first | (go_at_call 11; refine (htl.out _).mono ?_; rintro e w4 ⟨rfl, o4⟩))
  rename_i hS
  have O2 := hS.2.2.2.2
  clear hS k1 k2 k3
  go_wp2_with fail
  refine (hgd.out _).mono ?_
  rintro e v3 ⟨rfl, p3⟩
  simp only [Fr.cells]
  go_wp2_with fail
  refine (HGE.out _).mono ?_
  rintro e v4 ⟨rfl, p4⟩
  go_wp2_with fail
  refine (awake11_any _).mono ?_
  rintro e v5 ⟨rfl, p5⟩
  go_wp2_with fail
  go_ret
  exact ⟨rfl, (((O2.trans p3).alloc _).trans p4).trans p5⟩

theorem back_any (w : World) (f : Fr) (s : ByteArray) (hok : f.ok) (hf : f.body.size ≤ 9223372036854775807) (hs : s.size ≤ 9223372036854775807) :
    Calls Try.prog 4 #[.agg f.cells, .string s] w fun e w' => e = .returned (.bool true) ∧ Only (fun _ => False) w w' := by
  by_cases h : 66000 < f.body.size ∨ 66000 < s.size
  · exact back_long w f s hf hs h
  · have hf' : f.body.size ≤ 66000 := by omega
    have hs' : s.size ≤ 66000 := by omega
    by_cases hc : f.check = 0
    · by_cases h17 : s.size < 17
      · exact back_g_short w f s hok hf' hs' hc h17
      · by_cases h2 : (frOf s).check = 0
        · exact back_g_good w f s hok hf' hs' hc (by omega) h2
        · exact back_g_wrong w f s hok hf' hs' hc (by omega) h2
    · by_cases h17 : s.size < 17
      · exact back_b_short w f s hok hf' hs' hc h17
      · by_cases h2 : (frOf s).check = 0
        · exact back_b_good w f s hok hf' hs' hc (by omega) h2
        · exact back_b_wrong w f s hok hf' hs' hc (by omega) h2
end Go.Proofs.Ytnaacpopaccjpaa
