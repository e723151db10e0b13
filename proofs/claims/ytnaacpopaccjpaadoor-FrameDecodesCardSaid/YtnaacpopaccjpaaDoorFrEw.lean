/- Chapter 11: FrameEncodes walked. -/
import Derived.Test.YtnaacpopaccjpaaDoorFrE2
import Derived.Test.YtnaacpopaccjpaaDoorFc
set_option linter.unusedSimpArgs false
set_option linter.unusedVariables false
namespace Go.Proofs.YtnaacpopaccjpaaDoor
open Go.RowKit Go.Lib

abbrev FAt (w : World) (b : Nat) (t : TypeId) (kind own peer seq ack : Int) (body : ByteArray) : Prop := Has w b t #[.int .i64 kind, .int .u32 own, .int .u32 peer, .int .u32 seq, .int .u32 ack, .string body]
abbrev Fcs (W : World) (b : Nat) (kind own peer seq ack : Int) (body : ByteArray) : Prop := W.cell? ⟨b, 0, none⟩ = some (.int .i64 kind) ∧ W.cell? ⟨b, 1, none⟩ = some (.int .u32 own) ∧ W.cell? ⟨b, 2, none⟩ = some (.int .u32 peer) ∧ W.cell? ⟨b, 3, none⟩ = some (.int .u32 seq) ∧ W.cell? ⟨b, 4, none⟩ = some (.int .u32 ack) ∧ W.cell? ⟨b, 5, none⟩ = some (.string body)
theorem FAt.cs {w : World} {b : Nat} {t : TypeId} {kind own peer seq ack : Int} {body : ByteArray} (h : FAt w b t kind own peer seq ack body) : Fcs w b kind own peer seq ack body := ⟨h.cell 0, h.cell 1, h.cell 2, h.cell 3, h.cell 4, h.cell 5⟩

set_option maxRecDepth 100000 in
set_option maxHeartbeats 2000000 in
theorem encodes_ok (w : World) (f : Fr) (hok : f.ok) (hf : f.body.size ≤ 66000) (hc : f.check = 0) :
    Calls Tryd.prog 3 #[.agg f.cells] w fun e w' => e = .returned (.bool true) ∧ Only (fun _ => False) w w' := by
  have HOF := Lib.hid (fun W => of_any W f)
  have HE := Lib.hid (fun W => encode_ok W f hok hc)
  have HR := Lib.hid (fun W => rencode_ok W f hok hc)
  have HCK := fun W => check_any W f (by omega)
  have HRC := fun W => rcheck_any W f (by omega)
  rw [hc] at HCK HRC
  have HCK := Lib.hid HCK
  have HRC := Lib.hid HRC
  have HAW := Lib.hid awake11_any
  generalize strOfNums f.bytes = S at HE HR
  clear hc hok
  obtain ⟨kind, own, peer, seq, ack, body⟩ := f
  simp only [Fr.cells] at *
  have hl : ¬ (66000 : Int) < (body.size : Int) := by omega
  go_enter Tryd.func3, Tryd.ntmps3
  go_wp2_with fail
  refine (HOF.out _).mono ?_; rintro e w1 ⟨rfl, o1⟩
  have F1 : FAt w1 w.heap.size 24 kind own peer seq ack body := o1.has (Has.new _ _ _) (fun f => f)
  go_wp2_with fail
  refine (HE.out _).mono ?_; rintro e w2 ⟨rfl, o2⟩
  have F2 : FAt w2 w.heap.size 24 kind own peer seq ack body := o2.has F1 (fun f => f)
  obtain ⟨f0, f1, f2, f3, f4, f5⟩ := F2.cs
  go_wp2_with fail
  refine (HR.out _).mono ?_; rintro e w3 ⟨rfl, o3⟩
  have F3 : FAt w3.drew w.heap.size 24 kind own peer seq ack body := (o3.has F2 (fun f => f)).drew
  have O3 : Only (fun _ => False) w w3.drew := (((((Only.refl _ _).alloc _).trans o1).trans o2).trans o3).drew
  clear f0 f1 f2 f3 f4 f5
  go_wp2_with fail
  go_region_held3 (fun W => (W.cell? ⟨w.heap.size, 0, none⟩ = some (.int .i64 kind) ∧ W.cell? ⟨w.heap.size, 1, none⟩ = some (.int .u32 own) ∧ W.cell? ⟨w.heap.size, 2, none⟩ = some (.int .u32 peer) ∧ W.cell? ⟨w.heap.size, 3, none⟩ = some (.int .u32 seq) ∧ W.cell? ⟨w.heap.size, 4, none⟩ = some (.int .u32 ack) ∧ W.cell? ⟨w.heap.size, 5, none⟩ = some (.string body)) ∧ Only (fun _ => False) w W) (exact ⟨FAt.cs (t := 24) (by assumption), by assumption⟩) (first
    | (go_at_call 7; refine (HOF.out _).mono ?_; rintro e w6 ⟨rfl, o6⟩; have F6 : FAt w6 w.heap.size 24 kind own peer seq ack body := Only.has o6 (by assumption) (fun f => f); have O6 : Only (fun _ => False) w w6 := Only.trans (by assumption) o6)
    | (go_at_call 9; refine (HCK.out _).mono ?_; rintro e w6 ⟨rfl, o6⟩; have F6 : FAt w6 w.heap.size 24 kind own peer seq ack body := Only.has o6 (by assumption) (fun f => f); have O6 : Only (fun _ => False) w w6 := Only.trans (by assumption) o6)
    | (go_at_call 10; refine (HRC.out _).mono ?_; rintro e w6 ⟨rfl, o6⟩; have F6 : FAt w6 w.heap.size 24 kind own peer seq ack body := Only.has o6 (by assumption) (fun f => f); have O6 : Only (fun _ => False) w w6 := Only.trans (by assumption) o6)
    | (go_at_call 11; refine (code_nil _).mono ?_; rintro e w6 ⟨rfl, o6⟩; have F6 : FAt w6 w.heap.size 24 kind own peer seq ack body := Only.has o6 (by assumption) (fun f => f); have O6 : Only (fun _ => False) w w6 := Only.trans (by assumption) o6)
    | (go_at_call 5; refine (HAW.out _).mono ?_; rintro e w6 ⟨rfl, o6⟩; have F6 : FAt w6 w.heap.size 24 kind own peer seq ack body := Only.has o6 (by assumption) (fun f => f); have O6 : Only (fun _ => False) w w6 := Only.trans (by assumption) o6))
  rename_i hS
  have O := hS.2
  clear hS
  go_wp2_with fail
  go_ret
  exact ⟨rfl, O⟩
end Go.Proofs.YtnaacpopaccjpaaDoor
