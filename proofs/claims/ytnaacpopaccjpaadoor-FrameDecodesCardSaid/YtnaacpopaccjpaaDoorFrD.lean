/- frame.Decode. -/
import Derived.Test.YtnaacpopaccjpaaDoorRn
import Derived.Test.YtnaacpopaccjpaaDoorFrC
set_option linter.unusedSimpArgs false
set_option linter.unusedVariables false
namespace Go.Proofs.YtnaacpopaccjpaaDoor
open Go.RowKit Go.Lib

theorem number_bound (r : Rs8) (s f : ByteArray) (n : Nat) : 0 ≤ (r.number s f n).2 ∧ (r.number s f n).2 < 256 ^ n := by
  have hl : (r.take s f n).2.size ≤ n := by
    unfold Rs8.take
    split
    · simp [ByteArray.size]
    · split
      · simp [ByteArray.size]
      · simp; omega
  have hb := beV_bound (ofStr (r.take s f n).2) (ofStr_range _)
  rw [ofStr_length] at hb
  refine ⟨hb.1, Int.lt_of_lt_of_le hb.2 ?_⟩
  have h2 := Int.ofNat_le.2 (Nat.pow_le_pow_right (show 0 < 256 by decide) hl)
  rw [Int.natCast_pow, Int.natCast_pow] at h2
  exact h2

theorem ru8_any (w : World) (p : Nat) (s f : ByteArray) (r : Rs8) (hs : s.size ≤ 140737488351232) (h : RS w p s r) : Calls Tryd.prog 23 #[.pointer (some ⟨p, 0, none⟩), .string f] w fun x w' =>
    x = .returned (.int .u8 (r.number s f 1).2) ∧ RS w' p s (r.number s f 1).1 ∧ Only (· = p) w w' := by
  have hb := number_bound r s f 1
  have hn := number_any w p s f r 1 hs (by omega) h
  obtain ⟨hb0, hb1⟩ := hb
  have hb2 : (r.number s f 1).2 ≤ 255 := by
    have : (256 : Int) ^ 1 = 256 := by decide
    omega
  clear hb1
  generalize (r.number s f 1).2 = x at *
  generalize (r.number s f 1).1 = r' at *
  have HN := Lib.hid hn
  clear hn h
  go_enter Tryd.func23, Tryd.ntmps23
  go_wp2_with fail
  refine HN.out.mono ?_
  rintro e w1 ⟨rfl, h1, o1⟩
  go_wp2_with fail
  go_ret
  exact ⟨rfl, h1, o1⟩
theorem ru32_any (w : World) (p : Nat) (s f : ByteArray) (r : Rs8) (hs : s.size ≤ 140737488351232) (h : RS w p s r) : Calls Tryd.prog 24 #[.pointer (some ⟨p, 0, none⟩), .string f] w fun x w' =>
    x = .returned (.int .u32 (r.number s f 4).2) ∧ RS w' p s (r.number s f 4).1 ∧ Only (· = p) w w' := by
  have hb := number_bound r s f 4
  have hn := number_any w p s f r 4 hs (by omega) h
  obtain ⟨hb0, hb1⟩ := hb
  have hb2 : (r.number s f 4).2 ≤ 4294967295 := by
    have : (256 : Int) ^ 4 = 4294967296 := by decide
    omega
  clear hb1
  generalize (r.number s f 4).2 = x at *
  generalize (r.number s f 4).1 = r' at *
  have HN := Lib.hid hn
  clear hn h
  go_enter Tryd.func24, Tryd.ntmps24
  go_wp2_with fail
  refine HN.out.mono ?_
  rintro e w1 ⟨rfl, h1, o1⟩
  go_wp2_with fail
  go_ret
  exact ⟨rfl, h1, o1⟩

/-! the five fields of a frame -/
def nKind : ByteArray := ⟨#[107, 105, 110, 100]⟩
def nOwn : ByteArray := ⟨#[111, 119, 110]⟩
def nPeer : ByteArray := ⟨#[112, 101, 101, 114]⟩
def nSeq : ByteArray := ⟨#[115, 101, 113]⟩
def nAck : ByteArray := ⟨#[97, 99, 107]⟩
def nFrame : ByteArray := ⟨#[102, 114, 97, 109, 101]⟩
def d0 (s : ByteArray) : Rs8 × Int := Rs8.number ⟨0, none⟩ s nKind 1
def d1 (s : ByteArray) : Rs8 × Int := (d0 s).1.number s nOwn 4
def d2 (s : ByteArray) : Rs8 × Int := (d1 s).1.number s nPeer 4
def d3 (s : ByteArray) : Rs8 × Int := (d2 s).1.number s nSeq 4
def d4 (s : ByteArray) : Rs8 × Int := (d3 s).1.number s nAck 4
def num (s : ByteArray) (i n : Nat) : Int := beV (ofStr (s.extract i (i + n)))

theorem num_ok {s f : ByteArray} {a n : Nat} (h : a + n ≤ s.size) : Rs8.number ⟨a, none⟩ s f n = (⟨a + n, none⟩, num s a n) := by
  simp only [Rs8.number, Rs8.take]
  rw [if_neg (by omega)]
  rfl
theorem num_short {s f : ByteArray} {a n : Nat} (h : s.size < a + n) : Rs8.number ⟨a, none⟩ s f n = (⟨a, some ([wireName, f], 12)⟩, 0) := by
  simp only [Rs8.number, Rs8.take]
  rw [if_pos h]
  rfl
theorem num_had {s f : ByteArray} {a n : Nat} {x : List ByteArray × Int} : Rs8.number ⟨a, some x⟩ s f n = (⟨a, some x⟩, 0) := rfl

theorem d_ok {s : ByteArray} (h : 17 ≤ s.size) : (d4 s).1 = ⟨17, none⟩ ∧ (d0 s).2 = num s 0 1 ∧ (d1 s).2 = num s 1 4 ∧ (d2 s).2 = num s 5 4 ∧ (d3 s).2 = num s 9 4 ∧ (d4 s).2 = num s 13 4 := by
  have e0 : d0 s = (⟨1, none⟩, num s 0 1) := num_ok (by omega)
  have e1 : d1 s = (⟨5, none⟩, num s 1 4) := by unfold d1; rw [e0]; exact num_ok (by omega)
  have e2 : d2 s = (⟨9, none⟩, num s 5 4) := by unfold d2; rw [e1]; exact num_ok (by omega)
  have e3 : d3 s = (⟨13, none⟩, num s 9 4) := by unfold d3; rw [e2]; exact num_ok (by omega)
  have e4 : d4 s = (⟨17, none⟩, num s 13 4) := by unfold d4; rw [e3]; exact num_ok (by omega)
  rw [e0, e1, e2, e3, e4]
  exact ⟨rfl, rfl, rfl, rfl, rfl, rfl⟩
theorem d_short {s : ByteArray} (h : s.size < 17) : ∃ a f, (d4 s).1 = ⟨a, some ([wireName, f], 12)⟩ := by
  by_cases h0 : s.size < 1
  · have e0 : d0 s = (⟨0, some ([wireName, nKind], 12)⟩, 0) := num_short (by omega)
    exact ⟨0, nKind, by unfold d4 d3 d2 d1; rw [e0]; rfl⟩
  have e0 : d0 s = (⟨1, none⟩, num s 0 1) := num_ok (by omega)
  by_cases h1 : s.size < 5
  · have e1 : d1 s = (⟨1, some ([wireName, nOwn], 12)⟩, 0) := by unfold d1; rw [e0]; exact num_short (by omega)
    exact ⟨1, nOwn, by unfold d4 d3 d2; rw [e1]; rfl⟩
  have e1 : d1 s = (⟨5, none⟩, num s 1 4) := by unfold d1; rw [e0]; exact num_ok (by omega)
  by_cases h2 : s.size < 9
  · have e2 : d2 s = (⟨5, some ([wireName, nPeer], 12)⟩, 0) := by unfold d2; rw [e1]; exact num_short (by omega)
    exact ⟨5, nPeer, by unfold d4 d3; rw [e2]; rfl⟩
  have e2 : d2 s = (⟨9, none⟩, num s 5 4) := by unfold d2; rw [e1]; exact num_ok (by omega)
  by_cases h3 : s.size < 13
  · have e3 : d3 s = (⟨9, some ([wireName, nSeq], 12)⟩, 0) := by unfold d3; rw [e2]; exact num_short (by omega)
    exact ⟨9, nSeq, by unfold d4; rw [e3]; rfl⟩
  have e3 : d3 s = (⟨13, none⟩, num s 9 4) := by unfold d3; rw [e2]; exact num_ok (by omega)
  exact ⟨13, nAck, by unfold d4; rw [e3, num_short (by omega)]⟩

/-- The frame that bytes are, if they are enough. -/
def frOf (s : ByteArray) : Fr := ⟨num s 0 1, num s 1 4, num s 5 4, num s 9 4, num s 13 4, s.extract 17 s.size⟩
def zeroFr : Fr := ⟨0, 0, 0, 0, 0, ⟨#[]⟩⟩
theorem res_dec {W : World} {b : Nat} {x0 x1 x2 x3 x4 x5 n : Value} {tm : Array Value} (h : Has W b 30 #[x0, x1, x2, x3, x4, x5]) (h8 : tm.getD 2 undef = .pointer (some ⟨b, 0, none⟩)) (h9 : tm.getD 3 undef = n) :
    (results Tryd.f12 tm).run Tryd.prog W = .ok (.tuple #[.agg #[x0, x1, x2, x3, x4, x5], n]) W := by
  obtain ⟨c0, c1, c2, c3, c4, c5, _⟩ := h.facts6
  simp only [Array.getD_eq_getD_getElem?] at h8 h9
  simp [results, Tryd.results12, go_sem, h8, h9, c0, c1, c2, c3, c4, c5]

set_option maxHeartbeats 1000000 in
theorem decode_short (w : World) (s : ByteArray) (hs : s.size ≤ 140737488351232) (hs17 : s.size < 17) : Calls Tryd.prog 12 #[.string s] w fun x w' =>
    ∃ b f, x = .returned (.tuple #[.agg zeroFr.cells, ev (some b)]) ∧ ErrAt w' (some b) [nFrame, wireName, f] 12 ∧ w.heap.size ≤ b ∧ Only (fun _ => False) w w' := by
  obtain ⟨a, fd, hd⟩ := d_short hs17
  have HD := Lib.hid hd
  clear hd
  go_enter Tryd.func12, Tryd.ntmps12
  go_wp2_with fail
  refine (newreader_any _ s).mono ?_
  rintro e w0 ⟨rfl, r1, o1⟩
  have z1 := o1.size
  simp only [World.size_alloc] at z1
  have q0 := o1.has (Has.new w 30 zeroFr.cells) (fun f => f)
  have R0 : RS w0 (w.heap.size + 1) s ⟨0, none⟩ := ⟨none, by simpa using r1, Nat.zero_le _, rfl⟩
  go_wp2_with fail
  refine (ru8_any _ _ s _ _ hs R0).mono ?_
  rintro e w1 ⟨rfl, R1, p1⟩
  have q1 := p1.has q0 (by omega)
  go_wp2_with fail
  refine (ru32_any _ _ s _ _ hs R1).mono ?_
  rintro e w2 ⟨rfl, R2, p2⟩
  have q2 := p2.has q1 (by omega)
  go_wp2_with fail
  refine (ru32_any _ _ s _ _ hs R2).mono ?_
  rintro e w3 ⟨rfl, R3, p3⟩
  have q3 := p3.has q2 (by omega)
  go_wp2_with fail
  refine (ru32_any _ _ s _ _ hs R3).mono ?_
  rintro e w4 ⟨rfl, R4, p4⟩
  have q4 := p4.has q3 (by omega)
  go_wp2_with fail
  refine (ru32_any _ _ s _ _ hs R4).mono ?_
  rintro e w5 ⟨rfl, R5, p5⟩
  have q5 := p5.has q4 (by omega)
  go_wp2_with fail
  have R5' : RS w5 (w.heap.size + 1) s (d4 s).1 := R5
  have O5 := ((((((Only.refl (fun _ => False) w).alloc _).trans o1).then_ p1 (fun i hi e => absurd hi (by omega))).then_ p2 (fun i hi e => absurd hi (by omega))).then_ p3 (fun i hi e => absurd hi (by omega)) |>.then_ p4 (fun i hi e => absurd hi (by omega))) |>.then_ p5 (fun i hi e => absurd hi (by omega))
  rw [HD.out] at R5'
  obtain ⟨e5, ha5, _, hne5, he5⟩ := R5'
  obtain ⟨b, rfl⟩ : ∃ b, e5 = some b := by
    cases e5 with
    | none => exact absurd rfl hne5
    | some b => exact ⟨b, rfl⟩
  obtain ⟨f0, f1, f2, f3, f4, f5, ff⟩ := Has.facts6 (x0 := .int .i64 0) (x1 := .int .u32 0) (x2 := .int .u32 0) (x3 := .int .u32 0) (x4 := .int .u32 0) (x5 := .string ⟨#[]⟩) q5
  have l5 := q5.lt
  refine (err_any _ _ s _ _ (ha5.alloc _)).mono ?_
  rintro e w6 ⟨rfl, rfl⟩
  simp only [ev]
  go_wp2_with fail
  refine (fwrap_any _ _ _ _).mono ?_
  rintro e w7 ⟨rfl, rfl⟩
  go_wp2_with fail
  have P0 := Only.put6 w5 w.heap.size (.int .i64 0) (.int .u32 0) (.int .u32 0) (.int .u32 0) (.int .u32 0) (.string ⟨#[]⟩)
  have O6 := O5.then_ P0 (fun i hi e => absurd hi (by omega))
  have E6 := he5.only P0 (fun k cs hk e => (hk.apart q5 (by decide)) e)
  have zz : ∀ o : Obj, (((((((w5.setCell ⟨w.heap.size, 0, none⟩ (.int .i64 0)).setCell ⟨w.heap.size, 1, none⟩ (.int .u32 0)).setCell ⟨w.heap.size, 2, none⟩ (.int .u32 0)).setCell ⟨w.heap.size, 3, none⟩ (.int .u32 0)).setCell ⟨w.heap.size, 4, none⟩ (.int .u32 0)).setCell ⟨w.heap.size, 5, none⟩ (.string ⟨#[]⟩)).alloc o).heap.size = w5.heap.size + 1 := by
    intro o
    simp [World.setCell]
  refine bodyPost_ret (v := .tuple #[.agg zeroFr.cells, ev (some (w5.heap.size + 1))]) ?hr rfl ?hp
  case hr =>
    refine res_dec (b := w.heap.size) ?_ rfl rfl
    exact ((q5.put6 rfl _ _ _ _ _ _).alloc _).alloc _
  case hp =>
    refine ⟨w5.heap.size + 1, fd, rfl, ⟨w5.heap.size + 1, b, rfl, ?_, ?_⟩, by omega, (O6.alloc _).alloc _⟩
    · rw [← zz]
      exact Has.new _ _ _
    · exact (E6.only ((Only.refl (fun _ => False) _).alloc _) (fun _ _ _ f => f)).only ((Only.refl (fun _ => False) _).alloc _) (fun _ _ _ f => f)

set_option maxHeartbeats 1000000 in
theorem decode_good (w : World) (s : ByteArray) (hs : s.size ≤ 140737488351232) (hs17 : 17 ≤ s.size) (hc : (frOf s).check = 0) : Calls Tryd.prog 12 #[.string s] w fun x w' =>
    x = .returned (.tuple #[.agg (frOf s).cells, .nilIface]) ∧ Only (fun _ => False) w w' := by
  have HCC := Lib.hid hc
  clear hc
  obtain ⟨hd, h0, h1, h2, h3, h4⟩ := d_ok hs17
  have b0 := number_bound ⟨0, none⟩ s nKind 1
  have HD := Lib.hid hd
  have K0 := Lib.hid (show (Rs8.number (⟨0, none⟩ : Rs8) s ⟨#[107, 105, 110, 100]⟩ 1).2 = num s 0 1 from h0)
  have K1 := Lib.hid (show (Rs8.number (Rs8.number (⟨0, none⟩ : Rs8) s ⟨#[107, 105, 110, 100]⟩ 1).1 s ⟨#[111, 119, 110]⟩ 4).2 = num s 1 4 from h1)
  have K2 := Lib.hid (show (Rs8.number (Rs8.number (Rs8.number (⟨0, none⟩ : Rs8) s ⟨#[107, 105, 110, 100]⟩ 1).1 s ⟨#[111, 119, 110]⟩ 4).1 s ⟨#[112, 101, 101, 114]⟩ 4).2 = num s 5 4 from h2)
  have K3 := Lib.hid (show (Rs8.number (Rs8.number (Rs8.number (Rs8.number (⟨0, none⟩ : Rs8) s ⟨#[107, 105, 110, 100]⟩ 1).1 s ⟨#[111, 119, 110]⟩ 4).1 s ⟨#[112, 101, 101, 114]⟩ 4).1 s ⟨#[115, 101, 113]⟩ 4).2 = num s 9 4 from h3)
  have K4 := Lib.hid (show (Rs8.number (Rs8.number (Rs8.number (Rs8.number (Rs8.number (⟨0, none⟩ : Rs8) s ⟨#[107, 105, 110, 100]⟩ 1).1 s ⟨#[111, 119, 110]⟩ 4).1 s ⟨#[112, 101, 101, 114]⟩ 4).1 s ⟨#[115, 101, 113]⟩ 4).1 s ⟨#[97, 99, 107]⟩ 4).2 = num s 13 4 from h4)
  rw [show (Rs8.number ⟨0, none⟩ s nKind 1).2 = num s 0 1 from h0] at b0
  have b1 : num s 0 1 ≤ 255 := by
    have : (256 : Int) ^ 1 = 256 := by decide
    omega
  have b2 := b0.1
  clear b0
  clear hd h0 h1 h2 h3 h4
  go_enter Tryd.func12, Tryd.ntmps12
  go_wp2_with fail
  refine (newreader_any _ s).mono ?_
  rintro e w0 ⟨rfl, r1, o1⟩
  have z1 := o1.size
  simp only [World.size_alloc] at z1
  have q0 := o1.has (Has.new w 30 zeroFr.cells) (fun f => f)
  have R0 : RS w0 (w.heap.size + 1) s ⟨0, none⟩ := ⟨none, by simpa using r1, Nat.zero_le _, rfl⟩
  go_wp2_with fail
  refine (ru8_any _ _ s _ _ hs R0).mono ?_
  rw [K0.out]
  rintro e w1 ⟨rfl, R1, p1⟩
  have q1 := p1.has q0 (by omega)
  go_wp2_with fail
  refine (ru32_any _ _ s _ _ hs R1).mono ?_
  rw [K1.out]
  rintro e w2 ⟨rfl, R2, p2⟩
  have q2 := p2.has q1 (by omega)
  go_wp2_with fail
  refine (ru32_any _ _ s _ _ hs R2).mono ?_
  rw [K2.out]
  rintro e w3 ⟨rfl, R3, p3⟩
  have q3 := p3.has q2 (by omega)
  go_wp2_with fail
  refine (ru32_any _ _ s _ _ hs R3).mono ?_
  rw [K3.out]
  rintro e w4 ⟨rfl, R4, p4⟩
  have q4 := p4.has q3 (by omega)
  go_wp2_with fail
  refine (ru32_any _ _ s _ _ hs R4).mono ?_
  rw [K4.out]
  rintro e w5 ⟨rfl, R5, p5⟩
  have q5 := p5.has q4 (by omega)
  go_wp2_with fail
  have R5' : RS w5 (w.heap.size + 1) s (d4 s).1 := R5
  have O5 := ((((((Only.refl (fun _ => False) w).alloc _).trans o1).then_ p1 (fun i hi e => absurd hi (by omega))).then_ p2 (fun i hi e => absurd hi (by omega))).then_ p3 (fun i hi e => absurd hi (by omega)) |>.then_ p4 (fun i hi e => absurd hi (by omega))) |>.then_ p5 (fun i hi e => absurd hi (by omega))
  rw [HD.out] at R5'
  obtain ⟨e5, ha5, _, he5⟩ := R5'
  obtain rfl : e5 = none := he5
  obtain ⟨f0, f1, f2, f3, f4, f5, ff⟩ := Has.facts6 (x0 := .int .i64 0) (x1 := .int .u32 0) (x2 := .int .u32 0) (x3 := .int .u32 0) (x4 := .int .u32 0) (x5 := .string ⟨#[]⟩) q5
  have l5 := q5.lt
  refine (err_any _ _ s _ _ (ha5.alloc _)).mono ?_
  rintro e w6 ⟨rfl, rfl⟩
  simp only [ev]
  go_wp2_with fail
  have hbody : (s.extract 17 s.size).size ≤ 140737488351232 := by simp; omega
  refine (check_any _ (frOf s) hbody).mono ?_
  rintro e w7 ⟨rfl, o7⟩
  have q7 := o7.has (q5.alloc (.cells #[.int .i64 (num s 0 1), .int .u32 (num s 1 4), .int .u32 (num s 5 4), .int .u32 (num s 9 4), .int .u32 (num s 13 4), .string (s.extract 17 s.size)] 30)) (fun f => f)
  have g7 := o7.has (Has.new w5 30 #[.int .i64 (num s 0 1), .int .u32 (num s 1 4), .int .u32 (num s 5 4), .int .u32 (num s 9 4), .int .u32 (num s 13 4), .string (s.extract 17 s.size)]) (fun f => f)
  have l7 := q7.lt
  have O7 := (O5.alloc (.cells #[.int .i64 (num s 0 1), .int .u32 (num s 1 4), .int .u32 (num s 5 4), .int .u32 (num s 9 4), .int .u32 (num s 13 4), .string (s.extract 17 s.size)] 30)).trans o7
  have z7 := o7.size
  simp at z7
  clear f0 f1 f2 f3 f4 f5 ff
  obtain ⟨f0, f1, f2, f3, f4, f5, ff⟩ := Has.facts6 (x0 := .int .i64 0) (x1 := .int .u32 0) (x2 := .int .u32 0) (x3 := .int .u32 0) (x4 := .int .u32 0) (x5 := .string ⟨#[]⟩) q7
  obtain ⟨g0, g1, g2, g3, g4, g5, gf⟩ := g7.facts6
  have hc := HCC.out
  rw [hc]
  have HC := Lib.hid hc
  clear hc
  go_wp2_with fail
  refine bodyPost_ret (v := .tuple #[.agg (frOf s).cells, .nilIface]) ?hr1 rfl ?hp1
  case hr1 =>
    refine res_dec (b := w.heap.size) ?_ rfl rfl
    exact (q7.put6 rfl _ _ _ _ _ _)
  case hp1 =>
    exact ⟨rfl, O7.then_ (Only.put6 w7 w.heap.size (.int .i64 (num s 0 1)) (.int .u32 (num s 1 4)) (.int .u32 (num s 5 4)) (.int .u32 (num s 9 4)) (.int .u32 (num s 13 4)) (.string (s.extract 17 s.size))) (fun i hi e => absurd hi (by omega))⟩

set_option maxHeartbeats 1000000 in
theorem decode_wrong (w : World) (s : ByteArray) (hs : s.size ≤ 140737488351232) (hs17 : 17 ≤ s.size) (hc : (frOf s).check ≠ 0) : Calls Tryd.prog 12 #[.string s] w fun x w' =>
    ∃ b, x = .returned (.tuple #[.agg zeroFr.cells, ev (some b)]) ∧ ErrAt w' (some b) [nFrame] (frOf s).check ∧ w.heap.size ≤ b ∧ Only (fun _ => False) w w' := by
  have HCC := Lib.hid hc
  clear hc
  obtain ⟨hd, h0, h1, h2, h3, h4⟩ := d_ok hs17
  have b0 := number_bound ⟨0, none⟩ s nKind 1
  have HD := Lib.hid hd
  have K0 := Lib.hid (show (Rs8.number (⟨0, none⟩ : Rs8) s ⟨#[107, 105, 110, 100]⟩ 1).2 = num s 0 1 from h0)
  have K1 := Lib.hid (show (Rs8.number (Rs8.number (⟨0, none⟩ : Rs8) s ⟨#[107, 105, 110, 100]⟩ 1).1 s ⟨#[111, 119, 110]⟩ 4).2 = num s 1 4 from h1)
  have K2 := Lib.hid (show (Rs8.number (Rs8.number (Rs8.number (⟨0, none⟩ : Rs8) s ⟨#[107, 105, 110, 100]⟩ 1).1 s ⟨#[111, 119, 110]⟩ 4).1 s ⟨#[112, 101, 101, 114]⟩ 4).2 = num s 5 4 from h2)
  have K3 := Lib.hid (show (Rs8.number (Rs8.number (Rs8.number (Rs8.number (⟨0, none⟩ : Rs8) s ⟨#[107, 105, 110, 100]⟩ 1).1 s ⟨#[111, 119, 110]⟩ 4).1 s ⟨#[112, 101, 101, 114]⟩ 4).1 s ⟨#[115, 101, 113]⟩ 4).2 = num s 9 4 from h3)
  have K4 := Lib.hid (show (Rs8.number (Rs8.number (Rs8.number (Rs8.number (Rs8.number (⟨0, none⟩ : Rs8) s ⟨#[107, 105, 110, 100]⟩ 1).1 s ⟨#[111, 119, 110]⟩ 4).1 s ⟨#[112, 101, 101, 114]⟩ 4).1 s ⟨#[115, 101, 113]⟩ 4).1 s ⟨#[97, 99, 107]⟩ 4).2 = num s 13 4 from h4)
  rw [show (Rs8.number ⟨0, none⟩ s nKind 1).2 = num s 0 1 from h0] at b0
  have b1 : num s 0 1 ≤ 255 := by
    have : (256 : Int) ^ 1 = 256 := by decide
    omega
  have b2 := b0.1
  clear b0
  clear hd h0 h1 h2 h3 h4
  go_enter Tryd.func12, Tryd.ntmps12
  go_wp2_with fail
  refine (newreader_any _ s).mono ?_
  rintro e w0 ⟨rfl, r1, o1⟩
  have z1 := o1.size
  simp only [World.size_alloc] at z1
  have q0 := o1.has (Has.new w 30 zeroFr.cells) (fun f => f)
  have R0 : RS w0 (w.heap.size + 1) s ⟨0, none⟩ := ⟨none, by simpa using r1, Nat.zero_le _, rfl⟩
  go_wp2_with fail
  refine (ru8_any _ _ s _ _ hs R0).mono ?_
  rw [K0.out]
  rintro e w1 ⟨rfl, R1, p1⟩
  have q1 := p1.has q0 (by omega)
  go_wp2_with fail
  refine (ru32_any _ _ s _ _ hs R1).mono ?_
  rw [K1.out]
  rintro e w2 ⟨rfl, R2, p2⟩
  have q2 := p2.has q1 (by omega)
  go_wp2_with fail
  refine (ru32_any _ _ s _ _ hs R2).mono ?_
  rw [K2.out]
  rintro e w3 ⟨rfl, R3, p3⟩
  have q3 := p3.has q2 (by omega)
  go_wp2_with fail
  refine (ru32_any _ _ s _ _ hs R3).mono ?_
  rw [K3.out]
  rintro e w4 ⟨rfl, R4, p4⟩
  have q4 := p4.has q3 (by omega)
  go_wp2_with fail
  refine (ru32_any _ _ s _ _ hs R4).mono ?_
  rw [K4.out]
  rintro e w5 ⟨rfl, R5, p5⟩
  have q5 := p5.has q4 (by omega)
  go_wp2_with fail
  have R5' : RS w5 (w.heap.size + 1) s (d4 s).1 := R5
  have O5 := ((((((Only.refl (fun _ => False) w).alloc _).trans o1).then_ p1 (fun i hi e => absurd hi (by omega))).then_ p2 (fun i hi e => absurd hi (by omega))).then_ p3 (fun i hi e => absurd hi (by omega)) |>.then_ p4 (fun i hi e => absurd hi (by omega))) |>.then_ p5 (fun i hi e => absurd hi (by omega))
  rw [HD.out] at R5'
  obtain ⟨e5, ha5, _, he5⟩ := R5'
  obtain rfl : e5 = none := he5
  obtain ⟨f0, f1, f2, f3, f4, f5, ff⟩ := Has.facts6 (x0 := .int .i64 0) (x1 := .int .u32 0) (x2 := .int .u32 0) (x3 := .int .u32 0) (x4 := .int .u32 0) (x5 := .string ⟨#[]⟩) q5
  have l5 := q5.lt
  refine (err_any _ _ s _ _ (ha5.alloc _)).mono ?_
  rintro e w6 ⟨rfl, rfl⟩
  simp only [ev]
  go_wp2_with fail
  have hbody : (s.extract 17 s.size).size ≤ 140737488351232 := by simp; omega
  refine (check_any _ (frOf s) hbody).mono ?_
  rintro e w7 ⟨rfl, o7⟩
  have q7 := o7.has (q5.alloc (.cells #[.int .i64 (num s 0 1), .int .u32 (num s 1 4), .int .u32 (num s 5 4), .int .u32 (num s 9 4), .int .u32 (num s 13 4), .string (s.extract 17 s.size)] 30)) (fun f => f)
  have g7 := o7.has (Has.new w5 30 #[.int .i64 (num s 0 1), .int .u32 (num s 1 4), .int .u32 (num s 5 4), .int .u32 (num s 9 4), .int .u32 (num s 13 4), .string (s.extract 17 s.size)]) (fun f => f)
  have l7 := q7.lt
  have O7 := (O5.alloc (.cells #[.int .i64 (num s 0 1), .int .u32 (num s 1 4), .int .u32 (num s 5 4), .int .u32 (num s 9 4), .int .u32 (num s 13 4), .string (s.extract 17 s.size)] 30)).trans o7
  have z7 := o7.size
  simp at z7
  clear f0 f1 f2 f3 f4 f5 ff
  obtain ⟨f0, f1, f2, f3, f4, f5, ff⟩ := Has.facts6 (x0 := .int .i64 0) (x1 := .int .u32 0) (x2 := .int .u32 0) (x3 := .int .u32 0) (x4 := .int .u32 0) (x5 := .string ⟨#[]⟩) q7
  obtain ⟨g0, g1, g2, g3, g4, g5, gf⟩ := g7.facts6
  have hc := HCC.out
  obtain ⟨c, hcc⟩ : ∃ c, (frOf s).check = c := ⟨_, rfl⟩
  rw [hcc] at hc
  rw [hcc]
  have hcb : (c != 0) = true := by simpa using hc
  have HC := Lib.hid hc
  have HCE := Lib.hid hcc
  clear hc hcc
  go_wp2_with fail
  refine (fnew_any _ c _ HC.out).mono ?_
  rintro e w8 ⟨rfl, rfl⟩
  go_wp2_with fail
  have P0 := Only.put6 w7 w.heap.size (.int .i64 0) (.int .u32 0) (.int .u32 0) (.int .u32 0) (.int .u32 0) (.string ⟨#[]⟩)
  have O8 := O7.then_ P0 (fun i hi e => absurd hi (by omega))
  have zz : (((((((w7.setCell ⟨w.heap.size, 0, none⟩ (.int .i64 0)).setCell ⟨w.heap.size, 1, none⟩ (.int .u32 0)).setCell ⟨w.heap.size, 2, none⟩ (.int .u32 0)).setCell ⟨w.heap.size, 3, none⟩ (.int .u32 0)).setCell ⟨w.heap.size, 4, none⟩ (.int .u32 0)).setCell ⟨w.heap.size, 5, none⟩ (.string ⟨#[]⟩))).heap.size = w7.heap.size := by
    simp [World.setCell]
  refine bodyPost_ret (v := .tuple #[.agg zeroFr.cells, ev (some w7.heap.size)]) ?hr2 rfl ?hp2
  case hr2 =>
    refine res_dec (b := w.heap.size) ?_ rfl rfl
    exact (q7.put6 rfl _ _ _ _ _ _).alloc _
  case hp2 =>
    rw [HCE.out]
    refine ⟨w7.heap.size, rfl, ⟨w7.heap.size, rfl, ?_⟩, by omega, O8.alloc _⟩
    rw [← zz]
    exact Has.new _ _ _
end Go.Proofs.YtnaacpopaccjpaaDoor
