/- Chapter 11: FrameDecodes walked. -/
import Derived.Test.YtnaacpopaccjpaaDoorFrR
import Derived.Test.YtnaacpopaccjpaaDoorFrE3
import Derived.Test.YtnaacpopaccjpaaDoorFrBt
import Derived.Test.YtnaacpopaccjpaaDoorCc
set_option linter.unusedSimpArgs false
set_option linter.unusedVariables false
namespace Go.Proofs.YtnaacpopaccjpaaDoor
open Go.RowKit Go.Lib

set_option maxRecDepth 100000 in
set_option maxHeartbeats 2000000 in
theorem decodes_short (w : World) (s : ByteArray) (hs : s.size ≤ 66000) (hs17 : s.size < 17) (hE : Et w) :
    Calls Tryd.prog 4 #[.string s] w fun e w' => e = .returned (.bool true) ∧ Only (fun _ => False) w w' := by
  have HD := fun W => decode_short W s (by omega) hs17
  have HR := fun W => rdecode_short W s (by omega) hs17
  have HT := fun W => told_any W zeroFr
  simp only [zeroFr, Fr.cells, ev] at HD HR HT
  have HD := Lib.hid HD
  have HR := Lib.hid HR
  have HT := Lib.hid HT
  clear hs17
  have HAW := Lib.hid awake11_any
  have hl : ¬ (66000 : Int) < (s.size : Int) := by omega
  go_enter Tryd.func4, Tryd.ntmps4
  go_wp2_with fail
  refine (HD.out _).mono ?_; rintro e w1 ⟨b, fd, rfl, R1, _, o1⟩
  skip
  go_wp2_with fail
  have X1 : FAt (w1.alloc (.cells #[.int .i64 0, .int .u32 0, .int .u32 0, .int .u32 0, .int .u32 0, .string ⟨#[]⟩] 30)) w1.heap.size 30 0 0 0 0 0 ⟨#[]⟩ := Has.new _ _ _
  refine (HR.out _).mono ?_; rintro e w2 ⟨rfl, o2⟩
  have X2 := o2.has X1 (fun f => f)
  have Y3 : FAt (w2.alloc (.cells #[.int .i64 0, .int .u32 0, .int .u32 0, .int .u32 0, .int .u32 0, .string ⟨#[]⟩] 24)).drew w2.heap.size 24 0 0 0 0 0 ⟨#[]⟩ := (Has.new _ _ _).drew
  have X3 : FAt (w2.alloc (.cells #[.int .i64 0, .int .u32 0, .int .u32 0, .int .u32 0, .int .u32 0, .string ⟨#[]⟩] 24)).drew w1.heap.size 30 0 0 0 0 0 ⟨#[]⟩ := (X2.alloc _).drew
  have O3 : Only (fun _ => False) w (w2.alloc (.cells #[.int .i64 0, .int .u32 0, .int .u32 0, .int .u32 0, .int .u32 0, .string ⟨#[]⟩] 24)).drew := (((o1.alloc _).trans o2).alloc _).drew
  have E3 := hE.only O3 (fun f => f)
  have R3 : ErrAt (w2.alloc (.cells #[.int .i64 0, .int .u32 0, .int .u32 0, .int .u32 0, .int .u32 0, .string ⟨#[]⟩] 24)).drew (some b) [nFrame, wireName, fd] 12 := R1.only ((((Only.refl (fun _ => False) w1).alloc _).trans o2).alloc _).drew (fun _ _ _ f => f)
  go_wp2_with fail
  go_region_held3 (fun W => (W.cell? ⟨w1.heap.size, 0, none⟩ = some (.int .i64 0) ∧ W.cell? ⟨w1.heap.size, 1, none⟩ = some (.int .u32 0) ∧ W.cell? ⟨w1.heap.size, 2, none⟩ = some (.int .u32 0) ∧ W.cell? ⟨w1.heap.size, 3, none⟩ = some (.int .u32 0) ∧ W.cell? ⟨w1.heap.size, 4, none⟩ = some (.int .u32 0) ∧ W.cell? ⟨w1.heap.size, 5, none⟩ = some (.string ⟨#[]⟩)) ∧ (W.cell? ⟨w2.heap.size, 0, none⟩ = some (.int .i64 0) ∧ W.cell? ⟨w2.heap.size, 1, none⟩ = some (.int .u32 0) ∧ W.cell? ⟨w2.heap.size, 2, none⟩ = some (.int .u32 0) ∧ W.cell? ⟨w2.heap.size, 3, none⟩ = some (.int .u32 0) ∧ W.cell? ⟨w2.heap.size, 4, none⟩ = some (.int .u32 0) ∧ W.cell? ⟨w2.heap.size, 5, none⟩ = some (.string ⟨#[]⟩)) ∧ Only (fun _ => False) w W) (exact ⟨FAt.cs (t := 30) (by assumption), FAt.cs (t := 24) (by assumption), by assumption⟩) (first
    | (go_at_call 14; refine (HT.out _).mono ?_; rintro e w6 ⟨rfl, o6⟩; have H6 : FAt w6 w1.heap.size 30 0 0 0 0 0 ⟨#[]⟩ := Only.has o6 (by assumption) (fun f => f); have G6 : FAt w6 w2.heap.size 24 0 0 0 0 0 ⟨#[]⟩ := Only.has o6 (by assumption) (fun f => f); have O6 : Only (fun _ => False) w w6 := Only.trans (by assumption) o6; have E6 : Et w6 := Et.only (by assumption) o6 (fun f => f); have R6 := ErrAt.only o6 (fun _ _ _ f => f) (l := [nFrame, wireName, fd]) (e := some b) (c := 12) (by assumption))
    | (go_at_call 11; refine (code_chain _ b _ _ (by assumption) (by assumption)).mono ?_; rintro e w6 ⟨rfl, o6⟩; have H6 : FAt w6 w1.heap.size 30 0 0 0 0 0 ⟨#[]⟩ := Only.has o6 (by assumption) (fun f => f); have G6 : FAt w6 w2.heap.size 24 0 0 0 0 0 ⟨#[]⟩ := Only.has o6 (by assumption) (fun f => f); have O6 : Only (fun _ => False) w w6 := Only.trans (by assumption) o6; have E6 : Et w6 := Et.only (by assumption) o6 (fun f => f); have R6 := ErrAt.only o6 (fun _ _ _ f => f) (l := [nFrame, wireName, fd]) (e := some b) (c := 12) (by assumption))
    | (go_at_call 5; refine (HAW.out _).mono ?_; rintro e w6 ⟨rfl, o6⟩; have H6 : FAt w6 w1.heap.size 30 0 0 0 0 0 ⟨#[]⟩ := Only.has o6 (by assumption) (fun f => f); have G6 : FAt w6 w2.heap.size 24 0 0 0 0 0 ⟨#[]⟩ := Only.has o6 (by assumption) (fun f => f); have O6 : Only (fun _ => False) w w6 := Only.trans (by assumption) o6; have E6 : Et w6 := Et.only (by assumption) o6 (fun f => f); have R6 := ErrAt.only o6 (fun _ _ _ f => f) (l := [nFrame, wireName, fd]) (e := some b) (c := 12) (by assumption)))
  rename_i hS
  have O := hS.2.2
  clear hS
  go_wp2_with fail
  go_ret
  exact ⟨rfl, O⟩

set_option maxRecDepth 100000 in
set_option maxHeartbeats 2000000 in
theorem decodes_wrong (w : World) (s : ByteArray) (hs : s.size ≤ 66000) (hs17 : 17 ≤ s.size) (hc : (frOf s).check ≠ 0) (hE : Et w) :
    Calls Tryd.prog 4 #[.string s] w fun e w' => e = .returned (.bool true) ∧ Only (fun _ => False) w w' := by
  have HD := fun W => decode_wrong W s (by omega) hs17 hc
  have HR := fun W => rdecode_any W s (by omega) hs17 _ rfl
  have HT := fun W => told_any W zeroFr
  simp only [if_neg hc] at HR
  simp only [zeroFr, Fr.cells, ev] at HD HR HT
  generalize (frOf s).check = c at HD HR
  have HD := Lib.hid HD
  have HR := Lib.hid HR
  have HT := Lib.hid HT
  clear hs17 hc
  have HAW := Lib.hid awake11_any
  have hl : ¬ (66000 : Int) < (s.size : Int) := by omega
  go_enter Tryd.func4, Tryd.ntmps4
  go_wp2_with fail
  refine (HD.out _).mono ?_; rintro e w1 ⟨b, rfl, R1, _, o1⟩
  skip
  go_wp2_with fail
  have X1 : FAt (w1.alloc (.cells #[.int .i64 0, .int .u32 0, .int .u32 0, .int .u32 0, .int .u32 0, .string ⟨#[]⟩] 30)) w1.heap.size 30 0 0 0 0 0 ⟨#[]⟩ := Has.new _ _ _
  refine (HR.out _).mono ?_; rintro e w2 ⟨rfl, o2⟩
  have X2 := o2.has X1 (fun f => f)
  have Y3 : FAt (w2.alloc (.cells #[.int .i64 0, .int .u32 0, .int .u32 0, .int .u32 0, .int .u32 0, .string ⟨#[]⟩] 24)).drew w2.heap.size 24 0 0 0 0 0 ⟨#[]⟩ := (Has.new _ _ _).drew
  have X3 : FAt (w2.alloc (.cells #[.int .i64 0, .int .u32 0, .int .u32 0, .int .u32 0, .int .u32 0, .string ⟨#[]⟩] 24)).drew w1.heap.size 30 0 0 0 0 0 ⟨#[]⟩ := (X2.alloc _).drew
  have O3 : Only (fun _ => False) w (w2.alloc (.cells #[.int .i64 0, .int .u32 0, .int .u32 0, .int .u32 0, .int .u32 0, .string ⟨#[]⟩] 24)).drew := (((o1.alloc _).trans o2).alloc _).drew
  have E3 := hE.only O3 (fun f => f)
  have R3 : ErrAt (w2.alloc (.cells #[.int .i64 0, .int .u32 0, .int .u32 0, .int .u32 0, .int .u32 0, .string ⟨#[]⟩] 24)).drew (some b) [nFrame] c := R1.only ((((Only.refl (fun _ => False) w1).alloc _).trans o2).alloc _).drew (fun _ _ _ f => f)
  go_wp2_with fail
  go_region_held3 (fun W => (W.cell? ⟨w1.heap.size, 0, none⟩ = some (.int .i64 0) ∧ W.cell? ⟨w1.heap.size, 1, none⟩ = some (.int .u32 0) ∧ W.cell? ⟨w1.heap.size, 2, none⟩ = some (.int .u32 0) ∧ W.cell? ⟨w1.heap.size, 3, none⟩ = some (.int .u32 0) ∧ W.cell? ⟨w1.heap.size, 4, none⟩ = some (.int .u32 0) ∧ W.cell? ⟨w1.heap.size, 5, none⟩ = some (.string ⟨#[]⟩)) ∧ (W.cell? ⟨w2.heap.size, 0, none⟩ = some (.int .i64 0) ∧ W.cell? ⟨w2.heap.size, 1, none⟩ = some (.int .u32 0) ∧ W.cell? ⟨w2.heap.size, 2, none⟩ = some (.int .u32 0) ∧ W.cell? ⟨w2.heap.size, 3, none⟩ = some (.int .u32 0) ∧ W.cell? ⟨w2.heap.size, 4, none⟩ = some (.int .u32 0) ∧ W.cell? ⟨w2.heap.size, 5, none⟩ = some (.string ⟨#[]⟩)) ∧ Only (fun _ => False) w W) (exact ⟨FAt.cs (t := 30) (by assumption), FAt.cs (t := 24) (by assumption), by assumption⟩) (first
    | (go_at_call 14; refine (HT.out _).mono ?_; rintro e w6 ⟨rfl, o6⟩; have H6 : FAt w6 w1.heap.size 30 0 0 0 0 0 ⟨#[]⟩ := Only.has o6 (by assumption) (fun f => f); have G6 : FAt w6 w2.heap.size 24 0 0 0 0 0 ⟨#[]⟩ := Only.has o6 (by assumption) (fun f => f); have O6 : Only (fun _ => False) w w6 := Only.trans (by assumption) o6; have E6 : Et w6 := Et.only (by assumption) o6 (fun f => f); have R6 := ErrAt.only o6 (fun _ _ _ f => f) (l := [nFrame]) (e := some b) (c := c) (by assumption))
    | (go_at_call 11; refine (code_chain _ b _ c (by assumption) (by assumption)).mono ?_; rintro e w6 ⟨rfl, o6⟩; have H6 : FAt w6 w1.heap.size 30 0 0 0 0 0 ⟨#[]⟩ := Only.has o6 (by assumption) (fun f => f); have G6 : FAt w6 w2.heap.size 24 0 0 0 0 0 ⟨#[]⟩ := Only.has o6 (by assumption) (fun f => f); have O6 : Only (fun _ => False) w w6 := Only.trans (by assumption) o6; have E6 : Et w6 := Et.only (by assumption) o6 (fun f => f); have R6 := ErrAt.only o6 (fun _ _ _ f => f) (l := [nFrame]) (e := some b) (c := c) (by assumption))
    | (go_at_call 5; refine (HAW.out _).mono ?_; rintro e w6 ⟨rfl, o6⟩; have H6 : FAt w6 w1.heap.size 30 0 0 0 0 0 ⟨#[]⟩ := Only.has o6 (by assumption) (fun f => f); have G6 : FAt w6 w2.heap.size 24 0 0 0 0 0 ⟨#[]⟩ := Only.has o6 (by assumption) (fun f => f); have O6 : Only (fun _ => False) w w6 := Only.trans (by assumption) o6; have E6 : Et w6 := Et.only (by assumption) o6 (fun f => f); have R6 := ErrAt.only o6 (fun _ _ _ f => f) (l := [nFrame]) (e := some b) (c := c) (by assumption)))
  rename_i hS
  have O := hS.2.2
  clear hS
  go_wp2_with fail
  go_ret
  exact ⟨rfl, O⟩

set_option maxRecDepth 100000 in
set_option maxHeartbeats 2000000 in
theorem decodes_good (w : World) (s : ByteArray) (hs : s.size ≤ 66000) (hs17 : 17 ≤ s.size) (hc : (frOf s).check = 0) (hE : Et w) :
    Calls Tryd.prog 4 #[.string s] w fun e w' => e = .returned (.bool true) ∧ Only (fun _ => False) w w' := by
  have HD := fun W => decode_good W s (by omega) hs17 hc
  have HR := fun W => rdecode_any W s (by omega) hs17 _ hc
  have HT := fun W => told_any W (frOf s)
  simp only [if_true] at HR
  generalize frOf s = F at *
  obtain ⟨kind, own, peer, seq, ack, body⟩ := F
  simp only [Fr.cells] at HD HR HT
  have HD := Lib.hid HD
  have HR := Lib.hid HR
  have HT := Lib.hid HT
  clear hs17 hc
  have HAW := Lib.hid awake11_any
  have hl : ¬ (66000 : Int) < (s.size : Int) := by omega
  go_enter Tryd.func4, Tryd.ntmps4
  go_wp2_with fail
  refine (HD.out _).mono ?_; rintro e w1 ⟨rfl, o1⟩
  skip
  go_wp2_with fail
  have X1 : FAt (w1.alloc (.cells #[.int .i64 kind, .int .u32 own, .int .u32 peer, .int .u32 seq, .int .u32 ack, .string body] 30)) w1.heap.size 30 kind own peer seq ack body := Has.new _ _ _
  refine (HR.out _).mono ?_; rintro e w2 ⟨rfl, o2⟩
  have X2 := o2.has X1 (fun f => f)
  have Y3 : FAt (w2.alloc (.cells #[.int .i64 kind, .int .u32 own, .int .u32 peer, .int .u32 seq, .int .u32 ack, .string body] 24)).drew w2.heap.size 24 kind own peer seq ack body := (Has.new _ _ _).drew
  have X3 : FAt (w2.alloc (.cells #[.int .i64 kind, .int .u32 own, .int .u32 peer, .int .u32 seq, .int .u32 ack, .string body] 24)).drew w1.heap.size 30 kind own peer seq ack body := (X2.alloc _).drew
  have O3 : Only (fun _ => False) w (w2.alloc (.cells #[.int .i64 kind, .int .u32 own, .int .u32 peer, .int .u32 seq, .int .u32 ack, .string body] 24)).drew := (((o1.alloc _).trans o2).alloc _).drew
  have E3 := hE.only O3 (fun f => f)
  skip
  go_wp2_with fail
  go_region_held3 (fun W => (W.cell? ⟨w1.heap.size, 0, none⟩ = some (.int .i64 kind) ∧ W.cell? ⟨w1.heap.size, 1, none⟩ = some (.int .u32 own) ∧ W.cell? ⟨w1.heap.size, 2, none⟩ = some (.int .u32 peer) ∧ W.cell? ⟨w1.heap.size, 3, none⟩ = some (.int .u32 seq) ∧ W.cell? ⟨w1.heap.size, 4, none⟩ = some (.int .u32 ack) ∧ W.cell? ⟨w1.heap.size, 5, none⟩ = some (.string body)) ∧ (W.cell? ⟨w2.heap.size, 0, none⟩ = some (.int .i64 kind) ∧ W.cell? ⟨w2.heap.size, 1, none⟩ = some (.int .u32 own) ∧ W.cell? ⟨w2.heap.size, 2, none⟩ = some (.int .u32 peer) ∧ W.cell? ⟨w2.heap.size, 3, none⟩ = some (.int .u32 seq) ∧ W.cell? ⟨w2.heap.size, 4, none⟩ = some (.int .u32 ack) ∧ W.cell? ⟨w2.heap.size, 5, none⟩ = some (.string body)) ∧ Only (fun _ => False) w W) (exact ⟨FAt.cs (t := 30) (by assumption), FAt.cs (t := 24) (by assumption), by assumption⟩) (first
    | (go_at_call 14; refine (HT.out _).mono ?_; rintro e w6 ⟨rfl, o6⟩; have H6 : FAt w6 w1.heap.size 30 kind own peer seq ack body := Only.has o6 (by assumption) (fun f => f); have G6 : FAt w6 w2.heap.size 24 kind own peer seq ack body := Only.has o6 (by assumption) (fun f => f); have O6 : Only (fun _ => False) w w6 := Only.trans (by assumption) o6; have E6 : Et w6 := Et.only (by assumption) o6 (fun f => f))
    | (go_at_call 11; refine (code_nil _).mono ?_; rintro e w6 ⟨rfl, o6⟩; have H6 : FAt w6 w1.heap.size 30 kind own peer seq ack body := Only.has o6 (by assumption) (fun f => f); have G6 : FAt w6 w2.heap.size 24 kind own peer seq ack body := Only.has o6 (by assumption) (fun f => f); have O6 : Only (fun _ => False) w w6 := Only.trans (by assumption) o6; have E6 : Et w6 := Et.only (by assumption) o6 (fun f => f))
    | (go_at_call 5; refine (HAW.out _).mono ?_; rintro e w6 ⟨rfl, o6⟩; have H6 : FAt w6 w1.heap.size 30 kind own peer seq ack body := Only.has o6 (by assumption) (fun f => f); have G6 : FAt w6 w2.heap.size 24 kind own peer seq ack body := Only.has o6 (by assumption) (fun f => f); have O6 : Only (fun _ => False) w w6 := Only.trans (by assumption) o6; have E6 : Et w6 := Et.only (by assumption) o6 (fun f => f)))
  rename_i hS
  have O := hS.2.2
  clear hS
  go_wp2_with fail
  go_ret
  exact ⟨rfl, O⟩

theorem decodes_any (w : World) (s : ByteArray) (hs : s.size ≤ 9223372036854775807) (hE : Et w) :
    Calls Tryd.prog 4 #[.string s] w fun e w' => e = .returned (.bool true) ∧ Only (fun _ => False) w w' := by
  by_cases hl : s.size ≤ 66000
  · by_cases h17 : s.size < 17
    · exact decodes_short w s hl h17 hE
    · by_cases hc : (frOf s).check = 0
      · exact decodes_good w s hl (by omega) hc hE
      · exact decodes_wrong w s hl (by omega) hc hE
  · have hl' : (66000 : Int) < (s.size : Int) := by omega
    have HAW := Lib.hid awake11_any
    clear hl
    go_enter Tryd.func4, Tryd.ntmps4
    go_wp2_with fail
    refine (HAW.out _).mono ?_; rintro e w1 ⟨rfl, o1⟩
    go_wp2_with fail
    go_ret
    exact ⟨rfl, o1⟩
end Go.Proofs.YtnaacpopaccjpaaDoor
