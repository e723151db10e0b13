/- frame.Check, frame.Encode, frame.For. -/
import Derived.Test.YtnaacpopaccjpaaDoorWr
import Derived.Test.YtnaacpopaccjpaaDoorPut
import Derived.Test.YtnaacpopaccjpaaDoorFault
set_option linter.unusedSimpArgs false
set_option linter.unusedVariables false
namespace Go.Proofs.YtnaacpopaccjpaaDoor
open Go.RowKit Go.Lib

structure Fr where
  kind : Int
  own : Int
  peer : Int
  seq : Int
  ack : Int
  body : ByteArray
def Fr.cells (f : Fr) : Array Value := #[.int .i64 f.kind, .int .u32 f.own, .int .u32 f.peer, .int .u32 f.seq, .int .u32 f.ack, .string f.body]
structure Fr.ok (f : Fr) : Prop where
  own : 0 ≤ f.own ∧ f.own ≤ 4294967295
  peer : 0 ≤ f.peer ∧ f.peer ≤ 4294967295
  seq : 0 ≤ f.seq ∧ f.seq ≤ 4294967295
  ack : 0 ≤ f.ack ∧ f.ack ≤ 4294967295

def Fr.late (f : Fr) : Int := if f.own = 0 then 20 else if f.kind ≠ 1 ∧ f.peer = 0 then 20 else if f.kind = 3 ∧ f.seq ≠ 0 then 13 else if 65536 < f.body.size then 2 else 0
def Fr.check (f : Fr) : Int :=
  if f.kind = 1 then if f.seq ≠ 0 ∨ f.ack ≠ 0 then 13 else if f.body.size ≠ 0 then 13 else f.late
  else if f.kind = 3 then if f.body.size ≠ 0 then 13 else f.late
  else if f.kind = 2 then if f.seq = 0 then 13 else f.late
  else 15
def Fr.bytes (f : Fr) : List Int := [f.kind] ++ beB f.own 4 ++ beB f.peer 4 ++ beB f.seq 4 ++ beB f.ack 4 ++ ofStr f.body

theorem str_empty (s : ByteArray) : s.toList.isEmpty = decide (s.size = 0) := by
  have h : s.size = s.data.toList.length := by rw [Array.length_toList]; rfl
  rw [ByteArray.toList_eq, h]
  cases s.data.toList <;> simp

set_option maxHeartbeats 1000000 in
theorem check_any (w : World) (f : Fr) (hb : f.body.size ≤ 140737488351232) : Calls Tryd.prog 9 #[.agg f.cells] w fun e w' => e = .returned (.int .i64 f.check) ∧ Only (fun _ => False) w w' := by
  obtain ⟨kind, own, peer, seq, ack, body⟩ := f
  simp only at hb
  by_cases hk : kind = 1 ∨ kind = 2 ∨ kind = 3
  · rcases hk with rfl | rfl | rfl
    all_goals
      simp only [Fr.cells]
      go_enter Tryd.func9, Tryd.ntmps9
      go_wp2
    all_goals
      go_ret
      refine ⟨?_, (Only.refl _ _).alloc _⟩
      simp_all [Fr.check, Fr.late, str_empty]
      try omega
  · have h1 : (kind == 1) = false := by simp; omega
    have h2 : (kind == 2) = false := by simp; omega
    have h3 : (kind == 3) = false := by simp; omega
    simp only [Fr.cells]
    go_enter Tryd.func9, Tryd.ntmps9
    go_wp2
    go_ret
    refine ⟨?_, (Only.refl _ _).alloc _⟩
    simp_all [Fr.check, Fr.late]

theorem word_bytes (x : Int) (h : 0 ≤ x) : beB x 1 = [x % 256] := by simp [beB]

def pre4 (kind own peer seq ack : Int) : Nat → List Int
  | 0 => [kind]
  | 1 => [kind] ++ beB own 4
  | 2 => [kind] ++ beB own 4 ++ beB peer 4
  | 3 => [kind] ++ beB own 4 ++ beB peer 4 ++ beB seq 4
  | _ => [kind] ++ beB own 4 ++ beB peer 4 ++ beB seq 4 ++ beB ack 4

set_option maxHeartbeats 1000000 in
theorem encode_ok (w : World) (f : Fr) (hok : f.ok) (hc : f.check = 0) : Calls Tryd.prog 6 #[.agg f.cells] w fun e w' => e = .returned (.tuple #[.string (strOfNums f.bytes), .nilIface]) ∧ Only (fun _ => False) w w' := by
  have hk : 1 ≤ f.kind ∧ f.kind ≤ 3 ∧ f.body.size ≤ 65536 := by
    unfold Fr.check Fr.late at hc
    repeat' (split at hc)
    all_goals (first | omega | (simp at hc))
  obtain ⟨hk1, hk3, hbs⟩ := hk
  obtain ⟨⟨ho0, ho1⟩, ⟨hp0, hp1⟩, ⟨hs0, hs1⟩, ⟨ha0, ha1⟩⟩ := hok
  have hcheck := fun W => check_any W f (by omega)
  rw [hc] at hcheck
  have HB : Fr.bytes f = [f.kind] ++ beB f.own 4 ++ beB f.peer 4 ++ beB f.seq 4 ++ beB f.ack 4 ++ ofStr f.body := rfl
  clear hc
  obtain ⟨kind, own, peer, seq, ack, body⟩ := f
  simp only at hk1 hk3 hbs ho0 ho1 hp0 hp1 hs0 hs1 ha0 ha1 HB
  rw [HB]
  have HC := Lib.hid hcheck
  clear hcheck HB
  simp only [Fr.cells] at *
  go_enter Tryd.func6, Tryd.ntmps6
  go_wp2_with fail
  refine (HC.out _).mono ?_
  rintro e w1 ⟨rfl, o1⟩
  have hf := o1.has (Has.new w 30 #[.int .i64 kind, .int .u32 own, .int .u32 peer, .int .u32 seq, .int .u32 ack, .string body]) (fun f => f)
  have hfl := hf.lt
  obtain ⟨f0, f1, f2, f3, f4, f5, ff⟩ := hf.facts6
  go_wp2_with fail
  have hw1 : WAt (w1.alloc (.cells #[.slice none 0 0] 48)) w1.heap.size (w1.heap.size + 1) (.slice none 0 0) [] := ⟨Has.new _ _ _, World.ownsRow_nil _ _ _ _, by simp⟩
  refine (u8_any _ _ _ _ _ kind hw1 (by omega) (by omega) (by simp)).mono ?_
  rintro e w2 ⟨rfl, v2, W2, S2⟩
  have g2 := hw1.keeps S2 (hf.alloc _) (by decide) (by decide)
  have o2 := S2.inner (w0 := w) hw1 ((((Only.refl _ _).alloc _).trans o1).alloc _) (by omega) (by omega)
  clear f0 f1 f2 f3 f4 f5 ff
  obtain ⟨f0, f1, f2, f3, f4, f5, ff⟩ := g2.facts6
  go_wp2_with fail
  have hfl2 := g2.lt
  have hw1l : w.heap.size < w1.heap.size := hfl
  go_loopw [28] (fun i W => ∃ (k : Nat) (v : Value), k ≤ 4 ∧ i = .int .i64 k ∧ WAt W w1.heap.size (w1.heap.size + 1) v (pre4 kind own peer seq ack k) ∧
      Has W w.heap.size 30 #[.int .i64 kind, .int .u32 own, .int .u32 peer, .int .u32 seq, .int .u32 ack, .string body] ∧ Has W w2.heap.size 22 #[.int .u32 own, .int .u32 peer, .int .u32 seq, .int .u32 ack] ∧ Only (fun _ => False) w W) (fun i _ => 4 - (intOf i).toNat)
  case atStart => exact ⟨0, v2, by omega, rfl, W2.alloc _, g2.alloc _, Has.new _ _ _, o2.alloc _⟩
  case round =>
    obtain ⟨k, v, hk, rfl, hW, hfr, hsl, ho⟩ := hrel
    have hkk : k = 0 ∨ k = 1 ∨ k = 2 ∨ k = 3 ∨ k = 4 := by omega
    clear f0 f1 f2 f3 f4 f5 ff
    rcases hkk with rfl | rfl | rfl | rfl | rfl
    · have e0 : wr.cell? ⟨w2.heap.size, 0, none⟩ = some (.int .u32 own) := hsl.cell 0
      go_wp2_with fail
      refine (u32_any _ _ _ _ _ own hW (by omega) (by omega) (by simp [pre4, beB_length])).mono ?_
      rintro e w3 ⟨rfl, v3, W3, S3⟩
      have g3 := hW.keeps S3 hfr (by decide) (by decide)
      have s3 := hW.keeps S3 hsl (by decide) (by decide)
      have o3 := S3.inner (w0 := w) hW ho (by omega) (by omega)
      go_wp2_with fail
      go_roundw
      case rel => exact ⟨1, v3, by omega, rfl, W3, g3, s3, o3⟩
      case measure => simp [intOf]
    · have e0 : wr.cell? ⟨w2.heap.size, 1, none⟩ = some (.int .u32 peer) := hsl.cell 1
      go_wp2_with fail
      refine (u32_any _ _ _ _ _ peer hW (by omega) (by omega) (by simp [pre4, beB_length])).mono ?_
      rintro e w3 ⟨rfl, v3, W3, S3⟩
      have g3 := hW.keeps S3 hfr (by decide) (by decide)
      have s3 := hW.keeps S3 hsl (by decide) (by decide)
      have o3 := S3.inner (w0 := w) hW ho (by omega) (by omega)
      go_wp2_with fail
      go_roundw
      case rel => exact ⟨2, v3, by omega, rfl, W3, g3, s3, o3⟩
      case measure => simp [intOf]
    · have e0 : wr.cell? ⟨w2.heap.size, 2, none⟩ = some (.int .u32 seq) := hsl.cell 2
      go_wp2_with fail
      refine (u32_any _ _ _ _ _ seq hW (by omega) (by omega) (by simp [pre4, beB_length])).mono ?_
      rintro e w3 ⟨rfl, v3, W3, S3⟩
      have g3 := hW.keeps S3 hfr (by decide) (by decide)
      have s3 := hW.keeps S3 hsl (by decide) (by decide)
      have o3 := S3.inner (w0 := w) hW ho (by omega) (by omega)
      go_wp2_with fail
      go_roundw
      case rel => exact ⟨3, v3, by omega, rfl, W3, g3, s3, o3⟩
      case measure => simp [intOf]
    · have e0 : wr.cell? ⟨w2.heap.size, 3, none⟩ = some (.int .u32 ack) := hsl.cell 3
      go_wp2_with fail
      refine (u32_any _ _ _ _ _ ack hW (by omega) (by omega) (by simp [pre4, beB_length])).mono ?_
      rintro e w3 ⟨rfl, v3, W3, S3⟩
      have g3 := hW.keeps S3 hfr (by decide) (by decide)
      have s3 := hW.keeps S3 hsl (by decide) (by decide)
      have o3 := S3.inner (w0 := w) hW ho (by omega) (by omega)
      go_wp2_with fail
      go_roundw
      case rel => exact ⟨4, v3, by omega, rfl, W3, g3, s3, o3⟩
      case measure => simp [intOf]
    · have e5 : wr.cell? ⟨w.heap.size, 5, none⟩ = some (.string body) := hfr.cell 5
      go_wp2_with fail
      refine (raw_any _ _ _ _ _ body hW (by omega) (by simp [pre4, beB_length])).mono ?_
      rintro e w3 ⟨rfl, v3, W3, S3⟩
      have o3 := S3.inner (w0 := w) hW ho (by omega) (by omega)
      go_wp2_with fail
      refine (bytes_any _ _ _ _ _ W3).mono ?_
      rintro e w4 ⟨rfl, rfl⟩
      go_wp2_with fail
      go_ret2
      exact ⟨rfl, o3⟩

theorem encode_bad (w : World) (f : Fr) (hb : f.body.size ≤ 140737488351232) (hc : f.check ≠ 0) : Calls Tryd.prog 6 #[.agg f.cells] w fun e w' =>
    ∃ b, e = .returned (.tuple #[.string ⟨#[]⟩, .iface 65 (.pointer (some ⟨b, 0, none⟩))]) ∧ Has w' b 67 #[.int .i64 f.check, .string ⟨#[102, 114, 97, 109, 101]⟩, .nilIface] ∧ w.heap.size ≤ b ∧ Only (fun _ => False) w w' := by
  have hcheck := fun W => check_any W f hb
  have h1 : (f.check != 0) = true := by simpa using hc
  generalize f.check = c at *
  obtain ⟨kind, own, peer, seq, ack, body⟩ := f
  have HC := Lib.hid hcheck
  clear hcheck
  simp only [Fr.cells] at *
  go_enter Tryd.func6, Tryd.ntmps6
  go_wp2_with fail
  refine (HC.out _).mono ?_
  rintro e w1 ⟨rfl, o1⟩
  go_wp2_with fail
  refine (fnew_any _ c _ hc).mono ?_
  rintro e w2 ⟨rfl, rfl⟩
  go_wp2_with fail
  go_ret2
  refine ⟨w1.heap.size, rfl, Has.new _ _ _, ?_, (((Only.refl _ _).alloc _).trans o1).alloc _⟩
  have := o1.size
  simp at this
  omega
end Go.Proofs.YtnaacpopaccjpaaDoor
