/- Layer 10: the example; the law MsgChecks walked. -/
import Derived.Test.YtbajgbjpaliecaaMp6
import Derived.Test.YtbajgbjpaliecaaMn
import Derived.Test.YtbajgbjpaliecaaMe4
set_option linter.unusedSimpArgs false
set_option linter.unusedVariables false
namespace Go.Proofs.Ytbajgbjpaliecaa
open Go.RowKit

def ackM : Mg := ⟨12, 0, 0, 0, ⟨0, 0, 0, 0, 0⟩, 0, 0, 0, 7, 0, ⟨#[]⟩, 0, [], List.replicate 32 0, List.replicate 32 0, []⟩
theorem ack_at (w : World) : MgAt w ackM (.slice none 0 0) (.slice none 0 0) :=
  ⟨⟨by decide, by decide, by decide, by decide, by decide, by decide, by decide, by decide, by decide, by decide, (fun x h => by cases h), by decide, rfl, rfl, by decide, by decide⟩, ⟨none, 0, rfl, fun i h => absurd h (Nat.not_lt_zero i)⟩, ⟨none, 0, rfl, fun i h => absurd h (Nat.not_lt_zero i)⟩⟩
theorem ack_built : Try.prog.built 39 [(0, .int .i64 12), (8, .int .u32 7)] = some (ackM.cells (.slice none 0 0) (.slice none 0 0)).toArray := by kernel_rfl
theorem ack_bytes : strOfNums (ackM.kind :: ackM.body) = ⟨#[12, 0, 0, 0, 7]⟩ := by decide +kernel
theorem ack_check : ackM.check = 0 := by decide +kernel
theorem short_of {w : World} {m : Mg} {vs : Value} (h : SlSh w vs m.shares) : m.Short := by
  intro s hs
  obtain ⟨i, hi, rfl⟩ := List.getElem_of_mem hs
  obtain ⟨A, c, _, hc⟩ := h
  obtain ⟨ad, va, vb, vc, _, _, _, _, hu⟩ := hc i hi
  exact ⟨hu.la, hu.lb, hu.lc⟩
set_option maxRecDepth 100000 in
set_option maxHeartbeats 2000000 in
theorem awake10_any (w : World) : Calls Try.prog 7 #[] w fun e w' => e = .returned (.bool true) ∧ Only (fun _ => False) w w' := by
  have HE := Lib.hid (encode_ok w ackM _ _ (ack_at w) (short_of (ack_at w).shares) ack_check)
  rw [ack_bytes] at HE
  have HN := Lib.hid (fun W => name_any W 10)
  rw [show nmOf 10 = ⟨#[103, 114, 97, 110, 116]⟩ by decide +kernel] at HN
  have HB := Lib.hid ack_built
  generalize (ackM.cells (.slice none 0 0) (.slice none 0 0)).toArray = cs at *
  go_enter Try.func7, Try.ntmps7
  go_upto_region 1 with fail
  refine wp_region_lit ?_
  refine wpList_build rfl 39 _ rfl cs HB.out ?_
  go_wp2_with fail
  refine (HE.out).mono ?_; rintro e w1 ⟨rfl, o1⟩
  go_wp2_with fail
  refine (HN.out _).mono ?_; rintro e w2 ⟨rfl, o2⟩
  go_wp2_with fail
  go_ret
  exact ⟨rfl, o1.trans o2⟩
theorem rng_only {a b : World} {g o : Nat} {l : List Value} (h : a.rangeAt g o l) (k : Only (fun _ => False) a b) : b.rangeAt g o l := fun j v hv => k.cell (h j v hv) (fun f => f)
theorem rmsg_info : (Try.prog.info? 32).map (·.size) = some 82 := by kernel_rfl
set_option maxRecDepth 100000 in
set_option maxHeartbeats 4000000 in
theorem checks_law (w : World) (m : Mg) (vw vs : Value) (n : Int) (h : MgAt w m vw vs) (hn0 : 0 ≤ n) (hn1 : n ≤ 65535) : Calls Try.prog 3 #[.agg (m.cells vw vs).toArray, .int .u16 n] w fun e w' => e = .returned (.bool true) ∧ Only (fun _ => False) w w' := by
  have hs := short_of h.shares
  have hl82 : (m.cells vw vs).length = 82 := Mg.cells_length h.ok vw vs
  have B0 := Has.new w 32 (m.cells vw vs).toArray
  have O0 := (Only.refl (fun _ => False) w).alloc (.cells (m.cells vw vs).toArray 32)
  have HSM := Lib.hid (fun W (o : Only (fun _ => False) w W) => small_some W m vw vs (h.only o))
  have HOF := Lib.hid (fun W (o : Only (fun _ => False) w W) => of_any W m vw vs (h.only o))
  have HCK := Lib.hid (fun W (o : Only (fun _ => False) w W) => mcheck_any W m vw vs (h.only o) hs)
  have HRC := Lib.hid (fun W (o : Only (fun _ => False) w W) => rmcheck_any W m vw vs (h.only o) hs)
  have HNM := Lib.hid (fun W => name_any W m.kind)
  have HCS := Lib.hid (fun W => colsize_any W n hn0 (by omega))
  have HRS := Lib.hid (fun W => rcolsize_any W n hn0 (by omega))
  have HF := Lib.hid (fun W (h2 : Has W w.heap.size 32 (m.cells vw vs).toArray) => (mf_of h2 h.ok).c0)
  clear h hs
  generalize m.check = ck at *
  generalize colSize n = cz at *
  generalize m.kind = kd at *
  generalize m.cells vw vs = l at *
  have hsz : l.toArray.size = 82 := by simpa using hl82
  have hun : IntKind.u32.wrap n = n := by rw [IntKind.wrap_u32]; omega
  go_enter Try.func3, Try.ntmps3
  go_wp2_with fail
  refine wp_load_box rfl rfl B0 Try.underlying32 (by rw [rmsg_info, hsz]) ?_
  go_wp2_with fail
  refine (HSM.out _ O0).mono ?_; rintro e w1 ⟨⟨b, rfl⟩, o1⟩
  have B1 := o1.has B0 (fun f => f)
  have O1 := O0.trans o1
  cases b
  · go_wp2_with fail
    refine (awake10_any _).mono ?_; rintro e w2 ⟨rfl, o2⟩
    go_wp2_with fail
    go_ret
    exact ⟨rfl, O1.trans o2⟩
  · generalize hW : (w1.alloc (.cells #[.string ⟨#[117, 110, 107, 110, 111, 119, 110]⟩, .string ⟨#[115, 116, 97, 114, 116]⟩, .string ⟨#[99, 111, 108, 115]⟩, .string ⟨#[99, 111, 114, 114]⟩, .string ⟨#[99, 111, 109, 109, 105, 116]⟩, .string ⟨#[114, 101, 118, 101, 97, 108]⟩, .string ⟨#[111, 112, 101, 110]⟩, .string ⟨#[118, 101, 114, 100, 105, 99, 116]⟩, .string ⟨#[109, 97, 114, 107]⟩, .string ⟨#[119, 97, 110, 116]⟩, .string ⟨#[103, 114, 97, 110, 116]⟩, .string ⟨#[100, 101, 110, 121]⟩, .string ⟨#[97, 99, 107]⟩, .string ⟨#[97, 98, 111, 114, 116]⟩] 9)) = W4
    have N4 : Has W4 w1.heap.size 9 nmCells := by rw [← hW]; exact Has.new _ _ _
    have B4 : Has W4 w.heap.size 32 l.toArray := by rw [← hW]; exact B1.alloc _
    have O4 : Only (fun _ => False) w W4 := by rw [← hW]; exact O1.alloc _
    have HW := Lib.hid hW
    have q0 : W4.cell? ⟨w1.heap.size, 0, none⟩ = some (.string ⟨#[117, 110, 107, 110, 111, 119, 110]⟩) := (N4.cell 0).trans (nm_cell (k := 0) (by decide))
    have f0 := HF.out _ B4
    have R4 : W4.rangeAt w.heap.size 0 l := B4.range 0 l (fun j v hv => by rw [Nat.zero_add]; simpa using hv)
    have O5 : Only (fun _ => False) W4 W4.drew := (Only.refl _ _).drew
    have HR := Lib.hid R4
    have HO4 := Lib.hid O4
    have HC0 := Lib.hid f0
    clear hW B0 B1 O0 O1 B4 R4 O4 o1
    have hu := Try.underlying32
    have hi : (Try.prog.info? 32).map (·.size) = some l.length := by rw [rmsg_info, hl82]
    have HU := Lib.hid hu
    have HI := Lib.hid hi
    clear hu hi
    by_cases hk : 0 < kd ∧ kd < 14
    · obtain ⟨j, rfl⟩ := Int.eq_ofNat_of_zero_le (show 0 ≤ kd by omega)
      have qj := (N4.cell j).trans (nm_cell (k := j) (by omega))
      rw [show nmOf (j : Int) = nmL.getD j ByteArray.empty from if_pos hk] at HNM
      generalize nmL.getD j ByteArray.empty = z at *
      obtain ⟨hk1, hk2⟩ := hk
      clear N4
      go_upto_region 4 with fail
      rw [HW.out]
      go_upto_region 7 with fail
      refine wp_region_held_drew (S := (fun W => W.rangeAt w.heap.size 0 l ∧ W.cell? ⟨w.heap.size, 0, none⟩ = some (.int .i64 j) ∧ Only (fun _ => False) W4 W)) (by kernel_rfl) ⟨rng_only HR.out O5, Only.cell O5 HC0.out (fun f => f), O5⟩ (fun hHeld => ?_)
      refine wpAnyH_take (i := 0) (oi := _) (v := _) rfl (by kernel_rfl) (by kernel_rfl) (by kernel_rfl) (fun _ _ _ h => h) (yieldsIf_load_mid (by rfl) 32 _ rfl w.heap.size 0 rfl l _ (fun W h => h.1) HU.out rfl HI.out) hHeld ?_
      try simp only [Act.put, List.getElem_toArray, List.getElem_cons_succ, List.getElem_cons_zero, List.setIfInBounds_toArray, List.set_cons_zero, List.set_cons_succ]
      refine wpAnyH_take (i := 3) (oi := _) (v := _) rfl (by kernel_rfl) (by kernel_rfl) (by kernel_rfl) (fun _ _ _ h => h) (yieldsIf_load_mid (by rfl) 32 _ rfl w.heap.size 0 rfl l _ (fun W h => h.1) HU.out rfl HI.out) hHeld ?_
      try simp only [Act.put, List.getElem_toArray, List.getElem_cons_succ, List.getElem_cons_zero, List.setIfInBounds_toArray, List.set_cons_zero, List.set_cons_succ]
      refine wpAnyH_ready (rs := [1]) (by kernel_rfl) (by simp) ?_
      refine AllReadyH.cons (o := _) rfl (fun K hK => ?_) AllReadyH.nil
      go_simp
      (go_at_call 9; refine (HOF.out _ (Only.trans HO4.out O5)).mono ?_; rintro e wa ⟨rfl, oa⟩; have Oa := Only.trans O5 oa)
      go_wp2_with fail
      refine hK.out _ _ (by exact ⟨rng_only HR.out Oa, Only.cell Oa HC0.out (fun f => f), Oa⟩) (fun hNext => ?_)
      clear hK K hHeld
      have hHeld := hNext
      clear hNext
      try simp only [Act.put, List.getElem_toArray, List.getElem_cons_succ, List.getElem_cons_zero, List.setIfInBounds_toArray, List.set_cons_zero, List.set_cons_succ]
      refine wpAnyH_ready (rs := [2]) (by kernel_rfl) (by simp) ?_
      refine AllReadyH.cons (o := _) rfl (fun K hK => ?_) AllReadyH.nil
      go_simp
      (go_at_call 8; refine (HCK.out _ (Only.trans HO4.out Oa)).mono ?_; rintro e wb ⟨rfl, ob⟩; have Ob := Only.trans Oa ob)
      go_wp2_with fail
      refine hK.out _ _ (by exact ⟨rng_only HR.out Ob, Only.cell Ob HC0.out (fun f => f), Ob⟩) (fun hNext => ?_)
      clear hK K hHeld
      have hHeld := hNext
      clear hNext
      try simp only [Act.put, List.getElem_toArray, List.getElem_cons_succ, List.getElem_cons_zero, List.setIfInBounds_toArray, List.set_cons_zero, List.set_cons_succ]
      refine wpAnyH_ready (rs := [4]) (by kernel_rfl) (by simp) ?_
      refine AllReadyH.cons (o := _) rfl (fun K hK => ?_) AllReadyH.nil
      go_simp
      (go_at_call 10; refine (HRC.out _ (Only.trans HO4.out Ob)).mono ?_; rintro e wc ⟨rfl, oc⟩; have Oc := Only.trans Ob oc)
      go_wp2_with fail
      refine hK.out _ _ (by exact ⟨rng_only HR.out Oc, Only.cell Oc HC0.out (fun f => f), Oc⟩) (fun hNext => ?_)
      clear hK K hHeld
      have hHeld := hNext
      clear hNext
      try simp only [Act.put, List.getElem_toArray, List.getElem_cons_succ, List.getElem_cons_zero, List.setIfInBounds_toArray, List.set_cons_zero, List.set_cons_succ]
      refine wpAnyH_take (i := 5) (oi := _) (v := ?_) rfl (by kernel_rfl) (by kernel_rfl) (by kernel_rfl) (fun _ _ _ h => h) (Or.inl ⟨by rfl, ?_⟩) hHeld ?_
      rotate_left
      · intro w hSw
        try dsimp only at hSw
        go_simp
        try with_reducible rfl
      try simp only [Act.put, List.getElem_toArray, List.getElem_cons_succ, List.getElem_cons_zero, List.setIfInBounds_toArray, List.set_cons_zero, List.set_cons_succ]
      refine wpAnyH_take (i := 6) (oi := _) (v := ?_) rfl (by kernel_rfl) (by kernel_rfl) (by kernel_rfl) (fun _ _ _ h => h) (Or.inl ⟨by rfl, ?_⟩) hHeld ?_
      rotate_left
      · intro w hSw
        try dsimp only at hSw
        go_simp
        try with_reducible rfl
      try simp only [Act.put, List.getElem_toArray, List.getElem_cons_succ, List.getElem_cons_zero, List.setIfInBounds_toArray, List.set_cons_zero, List.set_cons_succ]
      refine wpAnyH_take (i := 7) (oi := _) (v := ?_) rfl (by kernel_rfl) (by kernel_rfl) (by kernel_rfl) (fun _ _ _ h => h) (Or.inl ⟨by rfl, ?_⟩) hHeld ?_
      rotate_left
      · intro w hSw
        try dsimp only at hSw
        go_simp
        try with_reducible rfl
      try simp only [Act.put, List.getElem_toArray, List.getElem_cons_succ, List.getElem_cons_zero, List.setIfInBounds_toArray, List.set_cons_zero, List.set_cons_succ]
      refine wpAnyH_take (i := 8) (oi := _) (v := ?_) rfl (by kernel_rfl) (by kernel_rfl) (by kernel_rfl) (fun _ _ _ h => h) (Or.inl ⟨by rfl, ?_⟩) hHeld ?_
      rotate_left
      · intro w hSw
        try dsimp only at hSw
        go_simp
        try with_reducible rfl
      try simp only [Act.put, List.getElem_toArray, List.getElem_cons_succ, List.getElem_cons_zero, List.setIfInBounds_toArray, List.set_cons_zero, List.set_cons_succ]
      refine wpAnyH_take (i := 10) (oi := _) (v := ?_) rfl (by kernel_rfl) (by kernel_rfl) (by kernel_rfl) (fun _ _ _ h => h) (Or.inl ⟨by rfl, ?_⟩) hHeld ?_
      rotate_left
      · intro w hSw
        try dsimp only at hSw
        go_simp
        try with_reducible rfl
      try simp only [Act.put, List.getElem_toArray, List.getElem_cons_succ, List.getElem_cons_zero, List.setIfInBounds_toArray, List.set_cons_zero, List.set_cons_succ]
      refine wpAnyH_ready (rs := [9]) (by kernel_rfl) (by simp) ?_
      refine AllReadyH.cons (o := _) rfl (fun K hK => ?_) AllReadyH.nil
      go_simp
      (go_at_call 11; refine (HNM.out _).mono ?_; rintro e wd ⟨rfl, od⟩; have Od := Only.trans Oc od)
      go_wp2_with fail
      refine hK.out _ _ (by exact ⟨rng_only HR.out Od, Only.cell Od HC0.out (fun f => f), Od⟩) (fun hNext => ?_)
      clear hK K hHeld
      have hHeld := hNext
      clear hNext
      try simp only [Act.put, List.getElem_toArray, List.getElem_cons_succ, List.getElem_cons_zero, List.setIfInBounds_toArray, List.set_cons_zero, List.set_cons_succ]
      refine wpAnyH_take (i := 11) (oi := _) (v := ?_) rfl (by kernel_rfl) (by kernel_rfl) (by kernel_rfl) (fun _ _ _ h => h) (Or.inl ⟨by rfl, ?_⟩) hHeld ?_
      rotate_left
      · intro w hSw
        try dsimp only at hSw
        go_simp
        try with_reducible rfl
      try simp only [Act.put, List.getElem_toArray, List.getElem_cons_succ, List.getElem_cons_zero, List.setIfInBounds_toArray, List.set_cons_zero, List.set_cons_succ]
      refine wpAnyH_take (i := 12) (oi := _) (v := ?_) rfl (by kernel_rfl) (by kernel_rfl) (by kernel_rfl) (fun _ _ _ h => h) (Or.inl ⟨by rfl, ?_⟩) hHeld ?_
      rotate_left
      · intro w hSw
        try dsimp only at hSw
        go_simp
        try with_reducible rfl
      try simp only [Act.put, List.getElem_toArray, List.getElem_cons_succ, List.getElem_cons_zero, List.setIfInBounds_toArray, List.set_cons_zero, List.set_cons_succ]
      refine wpAnyH_take (i := 13) (oi := _) (v := ?_) rfl (by kernel_rfl) (by kernel_rfl) (by kernel_rfl) (fun _ _ _ h => h) (Or.inl ⟨by rfl, ?_⟩) hHeld ?_
      rotate_left
      · intro w hSw
        try dsimp only at hSw
        go_simp
        try with_reducible rfl
      try simp only [Act.put, List.getElem_toArray, List.getElem_cons_succ, List.getElem_cons_zero, List.setIfInBounds_toArray, List.set_cons_zero, List.set_cons_succ]
      refine wpAnyH_take (i := 14) (oi := _) (v := ?_) rfl (by kernel_rfl) (by kernel_rfl) (by kernel_rfl) (fun _ _ _ h => h) (Or.inl ⟨by rfl, ?_⟩) hHeld ?_
      rotate_left
      · intro w hSw
        try dsimp only at hSw
        go_simp
        try with_reducible rfl
      try simp only [Act.put, List.getElem_toArray, List.getElem_cons_succ, List.getElem_cons_zero, List.setIfInBounds_toArray, List.set_cons_zero, List.set_cons_succ]
      refine wpAnyH_take (i := 15) (oi := _) (v := ?_) rfl (by kernel_rfl) (by kernel_rfl) (by kernel_rfl) (fun _ _ _ h => h) (Or.inl ⟨by rfl, ?_⟩) hHeld ?_
      rotate_left
      · intro w hSw
        try dsimp only at hSw
        go_simp
        try with_reducible rfl
      try simp only [Act.put, List.getElem_toArray, List.getElem_cons_succ, List.getElem_cons_zero, List.setIfInBounds_toArray, List.set_cons_zero, List.set_cons_succ]
      refine wpAnyH_take (i := 17) (oi := _) (v := ?_) rfl (by kernel_rfl) (by kernel_rfl) (by kernel_rfl) (fun _ _ _ h => h) (Or.inl ⟨by rfl, ?_⟩) hHeld ?_
      rotate_left
      · intro w hSw
        try dsimp only at hSw
        go_simp
        try with_reducible rfl
      try simp only [Act.put, List.getElem_toArray, List.getElem_cons_succ, List.getElem_cons_zero, List.setIfInBounds_toArray, List.set_cons_zero, List.set_cons_succ]
      refine wpAnyH_take (i := 18) (oi := _) (v := ?_) rfl (by kernel_rfl) (by kernel_rfl) (by kernel_rfl) (fun _ _ _ h => h) (Or.inl ⟨by rfl, ?_⟩) hHeld ?_
      rotate_left
      · intro w hSw
        try dsimp only at hSw
        go_simp
        try with_reducible rfl
      try simp only [Act.put, List.getElem_toArray, List.getElem_cons_succ, List.getElem_cons_zero, List.setIfInBounds_toArray, List.set_cons_zero, List.set_cons_succ]
      refine wpAnyH_ready (rs := [16]) (by kernel_rfl) (by simp) ?_
      refine AllReadyH.cons (o := _) rfl (fun K hK => ?_) AllReadyH.nil
      go_simp
      (go_at_call 12; refine (HCS.out _).mono ?_; rintro e wx ⟨rfl, rfl⟩)
      go_wp2_with fail
      refine hK.out _ _ (by exact ⟨rng_only HR.out Od, Only.cell Od HC0.out (fun f => f), Od⟩) (fun hNext => ?_)
      clear hK K hHeld
      have hHeld := hNext
      clear hNext
      try simp only [Act.put, List.getElem_toArray, List.getElem_cons_succ, List.getElem_cons_zero, List.setIfInBounds_toArray, List.set_cons_zero, List.set_cons_succ]
      refine wpAnyH_ready (rs := [19]) (by kernel_rfl) (by simp) ?_
      refine AllReadyH.cons (o := _) rfl (fun K hK => ?_) AllReadyH.nil
      go_simp
      (go_at_call 13; refine (HRS.out _).mono ?_; rintro e wx ⟨rfl, rfl⟩)
      go_wp2_with fail
      refine hK.out _ _ (by exact ⟨rng_only HR.out Od, Only.cell Od HC0.out (fun f => f), Od⟩) (fun hNext => ?_)
      clear hK K hHeld
      have hHeld := hNext
      clear hNext
      try simp only [Act.put, List.getElem_toArray, List.getElem_cons_succ, List.getElem_cons_zero, List.setIfInBounds_toArray, List.set_cons_zero, List.set_cons_succ]
      refine wpAnyH_take (i := 20) (oi := _) (v := ?_) rfl (by kernel_rfl) (by kernel_rfl) (by kernel_rfl) (fun _ _ _ h => h) (Or.inl ⟨by rfl, ?_⟩) hHeld ?_
      rotate_left
      · intro w hSw
        try dsimp only at hSw
        go_simp
        try with_reducible rfl
      try simp only [Act.put, List.getElem_toArray, List.getElem_cons_succ, List.getElem_cons_zero, List.setIfInBounds_toArray, List.set_cons_zero, List.set_cons_succ]
      refine wpAnyH_take (i := 21) (oi := _) (v := ?_) rfl (by kernel_rfl) (by kernel_rfl) (by kernel_rfl) (fun _ _ _ h => h) (Or.inl ⟨by rfl, ?_⟩) hHeld ?_
      rotate_left
      · intro w hSw
        try dsimp only at hSw
        go_simp
        try with_reducible rfl
      try simp only [Act.put, List.getElem_toArray, List.getElem_cons_succ, List.getElem_cons_zero, List.setIfInBounds_toArray, List.set_cons_zero, List.set_cons_succ]
      refine wpAnyH_take (i := 22) (oi := _) (v := ?_) rfl (by kernel_rfl) (by kernel_rfl) (by kernel_rfl) (fun _ _ _ h => h) (Or.inl ⟨by rfl, ?_⟩) hHeld ?_
      rotate_left
      · intro w hSw
        try dsimp only at hSw
        go_simp
        try with_reducible rfl
      try simp only [Act.put, List.getElem_toArray, List.getElem_cons_succ, List.getElem_cons_zero, List.setIfInBounds_toArray, List.set_cons_zero, List.set_cons_succ]
      refine wpAnyH_ready (rs := [23]) (by kernel_rfl) (by simp) ?_
      refine AllReadyH.cons (o := _) rfl (fun K hK => ?_) AllReadyH.nil
      go_simp
      (go_at_call 7; refine (awake10_any _).mono ?_; rintro e we ⟨rfl, oe⟩; have Oe := Only.trans Od oe)
      go_wp2_with fail
      refine hK.out _ _ (by exact ⟨rng_only HR.out Oe, Only.cell Oe HC0.out (fun f => f), Oe⟩) (fun hNext => ?_)
      clear hK K hHeld
      have hHeld := hNext
      clear hNext
      try simp only [Act.put, List.getElem_toArray, List.getElem_cons_succ, List.getElem_cons_zero, List.setIfInBounds_toArray, List.set_cons_zero, List.set_cons_succ]
      refine wpAnyH_take (i := 24) (oi := _) (v := ?_) rfl (by kernel_rfl) (by kernel_rfl) (by kernel_rfl) (fun _ _ _ h => h) (Or.inl ⟨by rfl, ?_⟩) hHeld ?_
      rotate_left
      · intro w hSw
        try dsimp only at hSw
        go_simp
        try with_reducible rfl
      try simp only [Act.put, List.getElem_toArray, List.getElem_cons_succ, List.getElem_cons_zero, List.setIfInBounds_toArray, List.set_cons_zero, List.set_cons_succ]
      refine wpAnyH_take (i := 25) (oi := _) (v := ?_) rfl (by kernel_rfl) (by kernel_rfl) (by kernel_rfl) (fun _ _ _ h => h) (Or.inl ⟨by rfl, ?_⟩) hHeld ?_
      rotate_left
      · intro w hSw
        try dsimp only at hSw
        go_simp
        try with_reducible rfl
      try simp only [Act.put, List.getElem_toArray, List.getElem_cons_succ, List.getElem_cons_zero, List.setIfInBounds_toArray, List.set_cons_zero, List.set_cons_succ]
      refine wpAnyH_done (by kernel_rfl) ?_ _
      go_wp2_with fail
      go_ret
      exact ⟨rfl, HO4.out.trans Oe⟩
    · rw [show nmOf kd = ⟨#[117, 110, 107, 110, 111, 119, 110]⟩ from if_neg hk] at HNM
      have hk2 : kd ≤ 0 ∨ (0 < kd ∧ 14 ≤ kd) := by omega
      clear hk
      rcases hk2 with hk | ⟨hk, hk2⟩
      all_goals
        go_upto_region 4 with fail
        rw [HW.out]
        go_upto_region 7 with fail
        refine wp_region_held_drew (S := (fun W => W.rangeAt w.heap.size 0 l ∧ W.cell? ⟨w.heap.size, 0, none⟩ = some (.int .i64 kd) ∧ Only (fun _ => False) W4 W)) (by kernel_rfl) ⟨rng_only HR.out O5, Only.cell O5 HC0.out (fun f => f), O5⟩ (fun hHeld => ?_)
        refine wpAnyH_take (i := 0) (oi := _) (v := _) rfl (by kernel_rfl) (by kernel_rfl) (by kernel_rfl) (fun _ _ _ h => h) (yieldsIf_load_mid (by rfl) 32 _ rfl w.heap.size 0 rfl l _ (fun W h => h.1) HU.out rfl HI.out) hHeld ?_
        try simp only [Act.put, List.getElem_toArray, List.getElem_cons_succ, List.getElem_cons_zero, List.setIfInBounds_toArray, List.set_cons_zero, List.set_cons_succ]
        refine wpAnyH_take (i := 3) (oi := _) (v := _) rfl (by kernel_rfl) (by kernel_rfl) (by kernel_rfl) (fun _ _ _ h => h) (yieldsIf_load_mid (by rfl) 32 _ rfl w.heap.size 0 rfl l _ (fun W h => h.1) HU.out rfl HI.out) hHeld ?_
        try simp only [Act.put, List.getElem_toArray, List.getElem_cons_succ, List.getElem_cons_zero, List.setIfInBounds_toArray, List.set_cons_zero, List.set_cons_succ]
        refine wpAnyH_ready (rs := [1]) (by kernel_rfl) (by simp) ?_
        refine AllReadyH.cons (o := _) rfl (fun K hK => ?_) AllReadyH.nil
        go_simp
        (go_at_call 9; refine (HOF.out _ (Only.trans HO4.out O5)).mono ?_; rintro e wa ⟨rfl, oa⟩; have Oa := Only.trans O5 oa)
        go_wp2_with fail
        refine hK.out _ _ (by exact ⟨rng_only HR.out Oa, Only.cell Oa HC0.out (fun f => f), Oa⟩) (fun hNext => ?_)
        clear hK K hHeld
        have hHeld := hNext
        clear hNext
        try simp only [Act.put, List.getElem_toArray, List.getElem_cons_succ, List.getElem_cons_zero, List.setIfInBounds_toArray, List.set_cons_zero, List.set_cons_succ]
        refine wpAnyH_ready (rs := [2]) (by kernel_rfl) (by simp) ?_
        refine AllReadyH.cons (o := _) rfl (fun K hK => ?_) AllReadyH.nil
        go_simp
        (go_at_call 8; refine (HCK.out _ (Only.trans HO4.out Oa)).mono ?_; rintro e wb ⟨rfl, ob⟩; have Ob := Only.trans Oa ob)
        go_wp2_with fail
        refine hK.out _ _ (by exact ⟨rng_only HR.out Ob, Only.cell Ob HC0.out (fun f => f), Ob⟩) (fun hNext => ?_)
        clear hK K hHeld
        have hHeld := hNext
        clear hNext
        try simp only [Act.put, List.getElem_toArray, List.getElem_cons_succ, List.getElem_cons_zero, List.setIfInBounds_toArray, List.set_cons_zero, List.set_cons_succ]
        refine wpAnyH_ready (rs := [4]) (by kernel_rfl) (by simp) ?_
        refine AllReadyH.cons (o := _) rfl (fun K hK => ?_) AllReadyH.nil
        go_simp
        (go_at_call 10; refine (HRC.out _ (Only.trans HO4.out Ob)).mono ?_; rintro e wc ⟨rfl, oc⟩; have Oc := Only.trans Ob oc)
        go_wp2_with fail
        refine hK.out _ _ (by exact ⟨rng_only HR.out Oc, Only.cell Oc HC0.out (fun f => f), Oc⟩) (fun hNext => ?_)
        clear hK K hHeld
        have hHeld := hNext
        clear hNext
        try simp only [Act.put, List.getElem_toArray, List.getElem_cons_succ, List.getElem_cons_zero, List.setIfInBounds_toArray, List.set_cons_zero, List.set_cons_succ]
        refine wpAnyH_take (i := 5) (oi := _) (v := ?_) rfl (by kernel_rfl) (by kernel_rfl) (by kernel_rfl) (fun _ _ _ h => h) (Or.inl ⟨by rfl, ?_⟩) hHeld ?_
        rotate_left
        · intro w hSw
          try dsimp only at hSw
          go_simp
          try with_reducible rfl
        try simp only [Act.put, List.getElem_toArray, List.getElem_cons_succ, List.getElem_cons_zero, List.setIfInBounds_toArray, List.set_cons_zero, List.set_cons_succ]
        refine wpAnyH_take (i := 6) (oi := _) (v := ?_) rfl (by kernel_rfl) (by kernel_rfl) (by kernel_rfl) (fun _ _ _ h => h) (Or.inl ⟨by rfl, ?_⟩) hHeld ?_
        rotate_left
        · intro w hSw
          try dsimp only at hSw
          go_simp
          try with_reducible rfl
        try simp only [Act.put, List.getElem_toArray, List.getElem_cons_succ, List.getElem_cons_zero, List.setIfInBounds_toArray, List.set_cons_zero, List.set_cons_succ]
        refine wpAnyH_take (i := 7) (oi := _) (v := ?_) rfl (by kernel_rfl) (by kernel_rfl) (by kernel_rfl) (fun _ _ _ h => h) (Or.inl ⟨by rfl, ?_⟩) hHeld ?_
        rotate_left
        · intro w hSw
          try dsimp only at hSw
          go_simp
          try with_reducible rfl
        try simp only [Act.put, List.getElem_toArray, List.getElem_cons_succ, List.getElem_cons_zero, List.setIfInBounds_toArray, List.set_cons_zero, List.set_cons_succ]
        refine wpAnyH_take (i := 8) (oi := _) (v := ?_) rfl (by kernel_rfl) (by kernel_rfl) (by kernel_rfl) (fun _ _ _ h => h) (Or.inl ⟨by rfl, ?_⟩) hHeld ?_
        rotate_left
        · intro w hSw
          try dsimp only at hSw
          go_simp
          try with_reducible rfl
        try simp only [Act.put, List.getElem_toArray, List.getElem_cons_succ, List.getElem_cons_zero, List.setIfInBounds_toArray, List.set_cons_zero, List.set_cons_succ]
        refine wpAnyH_take (i := 10) (oi := _) (v := ?_) rfl (by kernel_rfl) (by kernel_rfl) (by kernel_rfl) (fun _ _ _ h => h) (Or.inl ⟨by rfl, ?_⟩) hHeld ?_
        rotate_left
        · intro w hSw
          try dsimp only at hSw
          go_simp
          try with_reducible rfl
        try simp only [Act.put, List.getElem_toArray, List.getElem_cons_succ, List.getElem_cons_zero, List.setIfInBounds_toArray, List.set_cons_zero, List.set_cons_succ]
        refine wpAnyH_ready (rs := [9]) (by kernel_rfl) (by simp) ?_
        refine AllReadyH.cons (o := _) rfl (fun K hK => ?_) AllReadyH.nil
        go_simp
        (go_at_call 11; refine (HNM.out _).mono ?_; rintro e wd ⟨rfl, od⟩; have Od := Only.trans Oc od)
        go_wp2_with fail
        refine hK.out _ _ (by exact ⟨rng_only HR.out Od, Only.cell Od HC0.out (fun f => f), Od⟩) (fun hNext => ?_)
        clear hK K hHeld
        have hHeld := hNext
        clear hNext
        try simp only [Act.put, List.getElem_toArray, List.getElem_cons_succ, List.getElem_cons_zero, List.setIfInBounds_toArray, List.set_cons_zero, List.set_cons_succ]
        refine wpAnyH_take (i := 11) (oi := _) (v := ?_) rfl (by kernel_rfl) (by kernel_rfl) (by kernel_rfl) (fun _ _ _ h => h) (Or.inl ⟨by rfl, ?_⟩) hHeld ?_
        rotate_left
        · intro w hSw
          try dsimp only at hSw
          go_simp
          try with_reducible rfl
        try simp only [Act.put, List.getElem_toArray, List.getElem_cons_succ, List.getElem_cons_zero, List.setIfInBounds_toArray, List.set_cons_zero, List.set_cons_succ]
        refine wpAnyH_take (i := 12) (oi := _) (v := ?_) rfl (by kernel_rfl) (by kernel_rfl) (by kernel_rfl) (fun _ _ _ h => h) (Or.inl ⟨by rfl, ?_⟩) hHeld ?_
        rotate_left
        · intro w hSw
          try dsimp only at hSw
          go_simp
          try with_reducible rfl
        try simp only [Act.put, List.getElem_toArray, List.getElem_cons_succ, List.getElem_cons_zero, List.setIfInBounds_toArray, List.set_cons_zero, List.set_cons_succ]
        refine wpAnyH_take (i := 13) (oi := _) (v := ?_) rfl (by kernel_rfl) (by kernel_rfl) (by kernel_rfl) (fun _ _ _ h => h) (Or.inl ⟨by rfl, ?_⟩) hHeld ?_
        rotate_left
        · intro w hSw
          try dsimp only at hSw
          go_simp
          try with_reducible rfl
        try simp only [Act.put, List.getElem_toArray, List.getElem_cons_succ, List.getElem_cons_zero, List.setIfInBounds_toArray, List.set_cons_zero, List.set_cons_succ]
        refine wpAnyH_take (i := 14) (oi := _) (v := ?_) rfl (by kernel_rfl) (by kernel_rfl) (by kernel_rfl) (fun _ _ _ h => h) (Or.inl ⟨by rfl, ?_⟩) hHeld ?_
        rotate_left
        · intro w hSw
          try dsimp only at hSw
          go_simp
          try with_reducible rfl
        try simp only [Act.put, List.getElem_toArray, List.getElem_cons_succ, List.getElem_cons_zero, List.setIfInBounds_toArray, List.set_cons_zero, List.set_cons_succ]
        refine wpAnyH_take (i := 15) (oi := _) (v := ?_) rfl (by kernel_rfl) (by kernel_rfl) (by kernel_rfl) (fun _ _ _ h => h) (Or.inl ⟨by rfl, ?_⟩) hHeld ?_
        rotate_left
        · intro w hSw
          try dsimp only at hSw
          go_simp
          try with_reducible rfl
        try simp only [Act.put, List.getElem_toArray, List.getElem_cons_succ, List.getElem_cons_zero, List.setIfInBounds_toArray, List.set_cons_zero, List.set_cons_succ]
        refine wpAnyH_take (i := 17) (oi := _) (v := ?_) rfl (by kernel_rfl) (by kernel_rfl) (by kernel_rfl) (fun _ _ _ h => h) (Or.inl ⟨by rfl, ?_⟩) hHeld ?_
        rotate_left
        · intro w hSw
          try dsimp only at hSw
          go_simp
          try with_reducible rfl
        try simp only [Act.put, List.getElem_toArray, List.getElem_cons_succ, List.getElem_cons_zero, List.setIfInBounds_toArray, List.set_cons_zero, List.set_cons_succ]
        refine wpAnyH_take (i := 18) (oi := _) (v := ?_) rfl (by kernel_rfl) (by kernel_rfl) (by kernel_rfl) (fun _ _ _ h => h) (Or.inl ⟨by rfl, ?_⟩) hHeld ?_
        rotate_left
        · intro w hSw
          try dsimp only at hSw
          go_simp
          try with_reducible rfl
        try simp only [Act.put, List.getElem_toArray, List.getElem_cons_succ, List.getElem_cons_zero, List.setIfInBounds_toArray, List.set_cons_zero, List.set_cons_succ]
        refine wpAnyH_ready (rs := [16]) (by kernel_rfl) (by simp) ?_
        refine AllReadyH.cons (o := _) rfl (fun K hK => ?_) AllReadyH.nil
        go_simp
        (go_at_call 12; refine (HCS.out _).mono ?_; rintro e wx ⟨rfl, rfl⟩)
        go_wp2_with fail
        refine hK.out _ _ (by exact ⟨rng_only HR.out Od, Only.cell Od HC0.out (fun f => f), Od⟩) (fun hNext => ?_)
        clear hK K hHeld
        have hHeld := hNext
        clear hNext
        try simp only [Act.put, List.getElem_toArray, List.getElem_cons_succ, List.getElem_cons_zero, List.setIfInBounds_toArray, List.set_cons_zero, List.set_cons_succ]
        refine wpAnyH_ready (rs := [19]) (by kernel_rfl) (by simp) ?_
        refine AllReadyH.cons (o := _) rfl (fun K hK => ?_) AllReadyH.nil
        go_simp
        (go_at_call 13; refine (HRS.out _).mono ?_; rintro e wx ⟨rfl, rfl⟩)
        go_wp2_with fail
        refine hK.out _ _ (by exact ⟨rng_only HR.out Od, Only.cell Od HC0.out (fun f => f), Od⟩) (fun hNext => ?_)
        clear hK K hHeld
        have hHeld := hNext
        clear hNext
        try simp only [Act.put, List.getElem_toArray, List.getElem_cons_succ, List.getElem_cons_zero, List.setIfInBounds_toArray, List.set_cons_zero, List.set_cons_succ]
        refine wpAnyH_take (i := 20) (oi := _) (v := ?_) rfl (by kernel_rfl) (by kernel_rfl) (by kernel_rfl) (fun _ _ _ h => h) (Or.inl ⟨by rfl, ?_⟩) hHeld ?_
        rotate_left
        · intro w hSw
          try dsimp only at hSw
          go_simp
          try with_reducible rfl
        try simp only [Act.put, List.getElem_toArray, List.getElem_cons_succ, List.getElem_cons_zero, List.setIfInBounds_toArray, List.set_cons_zero, List.set_cons_succ]
        refine wpAnyH_take (i := 21) (oi := _) (v := ?_) rfl (by kernel_rfl) (by kernel_rfl) (by kernel_rfl) (fun _ _ _ h => h) (Or.inl ⟨by rfl, ?_⟩) hHeld ?_
        rotate_left
        · intro w hSw
          try dsimp only at hSw
          go_simp
          try with_reducible rfl
        try simp only [Act.put, List.getElem_toArray, List.getElem_cons_succ, List.getElem_cons_zero, List.setIfInBounds_toArray, List.set_cons_zero, List.set_cons_succ]
        refine wpAnyH_take (i := 22) (oi := _) (v := ?_) rfl (by kernel_rfl) (by kernel_rfl) (by kernel_rfl) (fun _ _ _ h => h) (Or.inl ⟨by rfl, ?_⟩) hHeld ?_
        rotate_left
        · intro w hSw
          try dsimp only at hSw
          go_simp
          try with_reducible rfl
        try simp only [Act.put, List.getElem_toArray, List.getElem_cons_succ, List.getElem_cons_zero, List.setIfInBounds_toArray, List.set_cons_zero, List.set_cons_succ]
        refine wpAnyH_ready (rs := [23]) (by kernel_rfl) (by simp) ?_
        refine AllReadyH.cons (o := _) rfl (fun K hK => ?_) AllReadyH.nil
        go_simp
        (go_at_call 7; refine (awake10_any _).mono ?_; rintro e we ⟨rfl, oe⟩; have Oe := Only.trans Od oe)
        go_wp2_with fail
        refine hK.out _ _ (by exact ⟨rng_only HR.out Oe, Only.cell Oe HC0.out (fun f => f), Oe⟩) (fun hNext => ?_)
        clear hK K hHeld
        have hHeld := hNext
        clear hNext
        try simp only [Act.put, List.getElem_toArray, List.getElem_cons_succ, List.getElem_cons_zero, List.setIfInBounds_toArray, List.set_cons_zero, List.set_cons_succ]
        refine wpAnyH_take (i := 24) (oi := _) (v := ?_) rfl (by kernel_rfl) (by kernel_rfl) (by kernel_rfl) (fun _ _ _ h => h) (Or.inl ⟨by rfl, ?_⟩) hHeld ?_
        rotate_left
        · intro w hSw
          try dsimp only at hSw
          go_simp
          try with_reducible rfl
        try simp only [Act.put, List.getElem_toArray, List.getElem_cons_succ, List.getElem_cons_zero, List.setIfInBounds_toArray, List.set_cons_zero, List.set_cons_succ]
        refine wpAnyH_take (i := 25) (oi := _) (v := ?_) rfl (by kernel_rfl) (by kernel_rfl) (by kernel_rfl) (fun _ _ _ h => h) (Or.inl ⟨by rfl, ?_⟩) hHeld ?_
        rotate_left
        · intro w hSw
          try dsimp only at hSw
          go_simp
          try with_reducible rfl
        try simp only [Act.put, List.getElem_toArray, List.getElem_cons_succ, List.getElem_cons_zero, List.setIfInBounds_toArray, List.set_cons_zero, List.set_cons_succ]
        refine wpAnyH_done (by kernel_rfl) ?_ _
        go_wp2_with fail
        go_ret
        exact ⟨rfl, HO4.out.trans Oe⟩
end Go.Proofs.Ytbajgbjpaliecaa
