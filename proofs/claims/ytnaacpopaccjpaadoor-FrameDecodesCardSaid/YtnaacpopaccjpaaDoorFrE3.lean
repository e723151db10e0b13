/- Chapter 11: FrameEncodes walked, of every frame. -/
import Derived.Test.YtnaacpopaccjpaaDoorFrEw
set_option linter.unusedSimpArgs false
set_option linter.unusedVariables false
namespace Go.Proofs.YtnaacpopaccjpaaDoor
open Go.RowKit Go.Lib

set_option maxRecDepth 100000 in
set_option maxHeartbeats 2000000 in
theorem encodes_bad (w : World) (f : Fr) (hf : f.body.size ≤ 66000) (hc : f.check ≠ 0) (hE : Et w) :
    Calls Tryd.prog 3 #[.agg f.cells] w fun e w' => e = .returned (.bool true) ∧ Only (fun _ => False) w w' := by
  have HOF := Lib.hid (fun W => of_any W f)
  have HE := fun W => encode_bad W f (by omega) hc
  have HR := fun W => rencode_bad W f (by omega) hc
  have HCK := fun W => check_any W f (by omega)
  have HRC := fun W => rcheck_any W f (by omega)
  generalize f.check = c at *
  have HE := Lib.hid HE
  have HR := Lib.hid HR
  have HCK := Lib.hid HCK
  have HRC := Lib.hid HRC
  have HAW := Lib.hid awake11_any
  clear hc
  obtain ⟨kind, own, peer, seq, ack, body⟩ := f
  simp only [Fr.cells] at *
  have hl : ¬ (66000 : Int) < (body.size : Int) := by omega
  go_enter Tryd.func3, Tryd.ntmps3
  go_wp2_with fail
  refine (HOF.out _).mono ?_; rintro e w1 ⟨rfl, o1⟩
  have F1 : FAt w1 w.heap.size 24 kind own peer seq ack body := o1.has (Has.new _ _ _) (fun f => f)
  go_wp2_with fail
  refine (HE.out _).mono ?_; rintro e w2 ⟨b, rfl, B2, _, o2⟩
  have F2 : FAt w2 w.heap.size 24 kind own peer seq ack body := o2.has F1 (fun f => f)
  obtain ⟨f0, f1, f2, f3, f4, f5⟩ := F2.cs
  go_wp2_with fail
  refine (HR.out _).mono ?_; rintro e w3 ⟨rfl, o3⟩
  have F3 : FAt w3.drew w.heap.size 24 kind own peer seq ack body := (o3.has F2 (fun f => f)).drew
  have B3 : Has w3.drew b 67 #[.int .i64 c, .string ⟨#[102, 114, 97, 109, 101]⟩, .nilIface] := (o3.has B2 (fun f => f)).drew
  have O3 : Only (fun _ => False) w w3.drew := (((((Only.refl _ _).alloc _).trans o1).trans o2).trans o3).drew
  have E3 : Et w3.drew := hE.only O3 (fun f => f)
  clear f0 f1 f2 f3 f4 f5
  go_wp2_with fail
  go_region_held3 (fun W => (W.cell? ⟨w.heap.size, 0, none⟩ = some (.int .i64 kind) ∧ W.cell? ⟨w.heap.size, 1, none⟩ = some (.int .u32 own) ∧ W.cell? ⟨w.heap.size, 2, none⟩ = some (.int .u32 peer) ∧ W.cell? ⟨w.heap.size, 3, none⟩ = some (.int .u32 seq) ∧ W.cell? ⟨w.heap.size, 4, none⟩ = some (.int .u32 ack) ∧ W.cell? ⟨w.heap.size, 5, none⟩ = some (.string body)) ∧ Only (fun _ => False) w W) (exact ⟨FAt.cs (t := 24) (by assumption), by assumption⟩) (first
    | (go_at_call 7; refine (HOF.out _).mono ?_; rintro e w6 ⟨rfl, o6⟩; have F6 : FAt w6 w.heap.size 24 kind own peer seq ack body := Only.has o6 (by assumption) (fun f => f); have O6 : Only (fun _ => False) w w6 := Only.trans (by assumption) o6; have B6 : Has w6 b 67 #[.int .i64 c, .string ⟨#[102, 114, 97, 109, 101]⟩, .nilIface] := Only.has o6 (by assumption) (fun f => f); have E6 : Et w6 := Et.only (by assumption) o6 (fun f => f))
    | (go_at_call 9; refine (HCK.out _).mono ?_; rintro e w6 ⟨rfl, o6⟩; have F6 : FAt w6 w.heap.size 24 kind own peer seq ack body := Only.has o6 (by assumption) (fun f => f); have O6 : Only (fun _ => False) w w6 := Only.trans (by assumption) o6; have B6 : Has w6 b 67 #[.int .i64 c, .string ⟨#[102, 114, 97, 109, 101]⟩, .nilIface] := Only.has o6 (by assumption) (fun f => f); have E6 : Et w6 := Et.only (by assumption) o6 (fun f => f))
    | (go_at_call 10; refine (HRC.out _).mono ?_; rintro e w6 ⟨rfl, o6⟩; have F6 : FAt w6 w.heap.size 24 kind own peer seq ack body := Only.has o6 (by assumption) (fun f => f); have O6 : Only (fun _ => False) w w6 := Only.trans (by assumption) o6; have B6 : Has w6 b 67 #[.int .i64 c, .string ⟨#[102, 114, 97, 109, 101]⟩, .nilIface] := Only.has o6 (by assumption) (fun f => f); have E6 : Et w6 := Et.only (by assumption) o6 (fun f => f))
    | (go_at_call 11; refine (code_new _ b c _ (by assumption) (by assumption)).mono ?_; rintro e w6 ⟨rfl, o6⟩; have F6 : FAt w6 w.heap.size 24 kind own peer seq ack body := Only.has o6 (by assumption) (fun f => f); have O6 : Only (fun _ => False) w w6 := Only.trans (by assumption) o6; have B6 : Has w6 b 67 #[.int .i64 c, .string ⟨#[102, 114, 97, 109, 101]⟩, .nilIface] := Only.has o6 (by assumption) (fun f => f); have E6 : Et w6 := Et.only (by assumption) o6 (fun f => f))
    | (go_at_call 5; refine (HAW.out _).mono ?_; rintro e w6 ⟨rfl, o6⟩; have F6 : FAt w6 w.heap.size 24 kind own peer seq ack body := Only.has o6 (by assumption) (fun f => f); have O6 : Only (fun _ => False) w w6 := Only.trans (by assumption) o6; have B6 : Has w6 b 67 #[.int .i64 c, .string ⟨#[102, 114, 97, 109, 101]⟩, .nilIface] := Only.has o6 (by assumption) (fun f => f); have E6 : Et w6 := Et.only (by assumption) o6 (fun f => f)))
  rename_i hS
  have O := hS.2
  clear hS
  go_wp2_with fail
  go_ret
  exact ⟨rfl, O⟩

theorem encodes_any (w : World) (f : Fr) (hok : f.ok) (hf : f.body.size ≤ 9223372036854775807) (hE : Et w) :
    Calls Tryd.prog 3 #[.agg f.cells] w fun e w' => e = .returned (.bool true) ∧ Only (fun _ => False) w w' := by
  by_cases hl : f.body.size ≤ 66000
  · by_cases hc : f.check = 0
    · exact encodes_ok w f hok hl hc
    · exact encodes_bad w f hl hc hE
  · have hl' : (66000 : Int) < (f.body.size : Int) := by omega
    have HAW := Lib.hid awake11_any
    clear hl hok
    obtain ⟨kind, own, peer, seq, ack, body⟩ := f
    simp only [Fr.cells] at *
    go_enter Tryd.func3, Tryd.ntmps3
    go_wp2_with fail
    refine (HAW.out _).mono ?_; rintro e w1 ⟨rfl, o1⟩
    go_wp2_with fail
    go_ret
    exact ⟨rfl, ((Only.refl _ _).alloc _).trans o1⟩
end Go.Proofs.YtnaacpopaccjpaaDoor
