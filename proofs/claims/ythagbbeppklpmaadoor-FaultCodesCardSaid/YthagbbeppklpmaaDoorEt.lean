/- Chapter 1: errors as trees: what lies in memory, and the tests of their kinds. -/
import Derived.Test.YthagbbeppklpmaaDoorFn
import Derived.Stop.Asserts
set_option linter.unusedSimpArgs false
set_option linter.unusedVariables false
namespace Go.Proofs.YthagbbeppklpmaaDoor
open Go.RowKit

/-- An error as a tree: none, a root with a place, a number alone, one that came by a place, two in one. -/
inductive Tr where
  | none
  | root (c : Int) (s : ByteArray)
  | num (c : Int)
  | wrap (s : ByteArray) (t : Tr)
  | both (x y : Tr)
def Tr.some : Tr → Bool
  | .none => false
  | .root _ _ => true
  | .num _ => true
  | .wrap _ _ => true
  | .both _ _ => true
def pf (b : Nat) : Value := .iface 59 (.pointer (some ⟨b, 0, none⟩))
def pj (b : Nat) : Value := .iface 91 (.pointer (some ⟨b, 0, none⟩))
def pn (c : Int) : Value := .iface 46 (.int .i64 c)
/-- A row that begins with these two errors. -/
def Two (w : World) (g : Nat) (u1 u2 : Value) : Prop := ∃ cs, Has w g 32 cs ∧ cs[0]? = some u1 ∧ cs[1]? = some u2
theorem Two.c0 {w : World} {g : Nat} {u1 u2 : Value} (h : Two w g u1 u2) : w.cell? ⟨g, 0, none⟩ = some u1 := by
  obtain ⟨cs, hc, h0, h1⟩ := h
  rw [hc.cell 0, h0]
theorem Two.c1 {w : World} {g : Nat} {u1 u2 : Value} (h : Two w g u1 u2) : w.cell? ⟨g, 1, none⟩ = some u2 := by
  obtain ⟨cs, hc, h0, h1⟩ := h
  rw [hc.cell 1, h1]
theorem Two.lt {w : World} {g : Nat} {u1 u2 : Value} (h : Two w g u1 u2) : g < w.heap.size := by
  obtain ⟨cs, hc, -⟩ := h
  exact hc.lt
theorem Two.only {w w' : World} {g : Nat} {u1 u2 : Value} {S : Nat → Prop} (h : Two w g u1 u2) (o : Only S w w') (hS : ∀ cs, Has w g 32 cs → ¬ S g) : Two w' g u1 u2 := by
  obtain ⟨cs, hc, h0, h1⟩ := h
  exact ⟨cs, o.has hc (hS _ hc), h0, h1⟩
/-- The value is this error; no list of two lies in the block av. -/
def TrAt (w : World) (av : Option Nat) : Tr → Value → Prop
  | .none, v => v = .nilIface
  | .root c s, v => ∃ b, v = pf b ∧ Has w b 63 #[.int .i64 c, .string s, .nilIface]
  | .num c, v => v = pn c
  | .wrap s t, v => ∃ b u, v = pf b ∧ Has w b 63 #[.int .i64 0, .string s, u] ∧ t.some = true ∧ TrAt w av t u
  | .both x y, v => ∃ b g n u1 u2, v = pj b ∧ Has w b 93 #[.slice (some ⟨g, 0, none⟩) 2 n] ∧ Two w g u1 u2 ∧ some g ≠ av ∧ x.some = true ∧ y.some = true ∧ TrAt w av x u1 ∧ TrAt w av y u2
theorem TrAt.only {w w' : World} {S : Nat → Prop} {av : Option Nat} (o : Only S w w') (h1 : ∀ k cs, Has w k 63 cs → ¬ S k) (h2 : ∀ k cs, Has w k 93 cs → ¬ S k) (h3 : ∀ k cs, Has w k 32 cs → some k ≠ av → ¬ S k) :
    ∀ {t : Tr} {v : Value}, TrAt w av t v → TrAt w' av t v
  | .none, _, h => h
  | .root c s, _, ⟨b, e, h⟩ => ⟨b, e, o.has h (h1 _ _ h)⟩
  | .num c, _, h => h
  | .wrap s t, _, ⟨b, u, e, h, hs, ht⟩ => ⟨b, u, e, o.has h (h1 _ _ h), hs, ht.only o h1 h2 h3⟩
  | .both x y, _, ⟨b, g, n, u1, u2, e, h, hg, hne, hx, hy, tx, ty⟩ => ⟨b, g, n, u1, u2, e, o.has h (h2 _ _ h), hg.only o (fun cs hc => h3 _ _ hc hne), hne, hx, hy, tx.only o h1 h2 h3, ty.only o h1 h2 h3⟩
theorem TrAt.keep {w w' : World} {av : Option Nat} {t : Tr} {v : Value} (h : TrAt w av t v) (o : Only (fun _ => False) w w') : TrAt w' av t v := h.only o (fun _ _ _ f => f) (fun _ _ _ f => f) (fun _ _ _ _ f => f)
/-- No list of two lies in a block that was not there. -/
theorem TrAt.away {w : World} {av : Option Nat} {n : Nat} (hn : w.heap.size ≤ n) : ∀ {t : Tr} {v : Value}, TrAt w av t v → TrAt w (some n) t v
  | .none, _, h => h
  | .root c s, _, h => h
  | .num c, _, h => h
  | .wrap s t, _, ⟨b, u, e, h, hs, ht⟩ => ⟨b, u, e, h, hs, ht.away hn⟩
  | .both x y, _, ⟨b, g, k, u1, u2, e, h, hg, hne, hx, hy, tx, ty⟩ => ⟨b, g, k, u1, u2, e, h, hg, fun e => by have := hg.lt; obtain rfl := Option.some.inj e; omega, hx, hy, tx.away hn, ty.away hn⟩
theorem TrAt.shape {w : World} {av : Option Nat} : ∀ {t : Tr} {v : Value}, TrAt w av t v → t.some = true → (∃ b, v = pf b) ∨ (∃ c, v = pn c) ∨ ∃ b, v = pj b
  | .none, _, _, h => by cases h
  | .root c s, _, ⟨b, e, _⟩, _ => .inl ⟨b, e⟩
  | .num c, _, h, _ => .inr (.inl ⟨c, h⟩)
  | .wrap s t, _, ⟨b, u, e, _⟩, _ => .inl ⟨b, e⟩
  | .both x y, _, ⟨b, g, k, u1, u2, e, _⟩, _ => .inr (.inr ⟨b, e⟩)
theorem TrAt.iface {w : World} {av : Option Nat} {t : Tr} {v : Value} (h : TrAt w av t v) (hs : t.some = true) : ∃ T x, v = .iface T x := by
  rcases h.shape hs with ⟨b, rfl⟩ | ⟨c, rfl⟩ | ⟨b, rfl⟩ <;> exact ⟨_, _, rfl⟩

/-- The numbers of all roots. -/
def Tr.codes : Tr → List Int
  | .none => []
  | .root c _ => [c]
  | .num c => [c]
  | .wrap _ t => t.codes
  | .both x y => x.codes ++ y.codes
def colon : ByteArray := ⟨#[58, 32]⟩
def semi : ByteArray := ⟨#[59, 32]⟩
def Tr.txt : Tr → ByteArray
  | .none => ⟨#[]⟩
  | .root c s => s ++ colon ++ word c
  | .num c => word c
  | .wrap s t => s ++ colon ++ t.txt
  | .both x y => x.txt ++ semi ++ y.txt
def Tr.path : Tr → List ByteArray
  | .root _ s => [s]
  | .wrap s t => s :: t.path
  | .none => []
  | .num _ => []
  | .both _ _ => []
/-- The first place in the tree. -/
def Tr.place : Tr → Option ByteArray
  | .root _ s => Option.some s
  | .wrap s _ => Option.some s
  | .none => Option.none
  | .num _ => Option.none
  | .both x y => match x.place with | Option.some s => Option.some s | Option.none => y.place

/-! The tests of kinds -/
theorem miss_pj_pf (v : Value) (xT : TypeId) (W : World) : (Instr.typeAssert (.iface 91 v) xT 59 true).run Tryd.prog W = .ok (.tuple #[.pointer none, .bool false]) W := by kernel_rfl
theorem miss_pn_pf (v : Value) (xT : TypeId) (W : World) : (Instr.typeAssert (.iface 46 v) xT 59 true).run Tryd.prog W = .ok (.tuple #[.pointer none, .bool false]) W := by kernel_rfl
theorem miss_pj_pn (v : Value) (xT : TypeId) (W : World) : (Instr.typeAssert (.iface 91 v) xT 46 true).run Tryd.prog W = .ok (.tuple #[.int .i64 0, .bool false]) W := by kernel_rfl
theorem hit_pn_pn (v : Value) (xT : TypeId) (W : World) : (Instr.typeAssert (.iface 46 v) xT 46 true).run Tryd.prog W = .ok (.tuple #[v, .bool true]) W := by kernel_rfl
theorem list_pj (v : Value) (xT : TypeId) (W : World) : (Instr.typeAssert (.iface 91 v) xT 65 true).run Tryd.prog W = .ok (.tuple #[.iface 91 v, .bool true]) W := run_typeAssert_hasB Tryd.underlying65 (by kernel_rfl) v xT W
theorem list_pn (v : Value) (xT : TypeId) (W : World) : (Instr.typeAssert (.iface 46 v) xT 65 true).run Tryd.prog W = .ok (.tuple #[.nilIface, .bool false]) W := run_typeAssert_lacksB Tryd.underlying65 (by kernel_rfl) (by kernel_rfl) v xT W
theorem unwrap_pj (v : Value) (xT : TypeId) (W : World) : (Instr.typeAssert (.iface 91 v) xT 85 true).run Tryd.prog W = .ok (.tuple #[.nilIface, .bool false]) W := run_typeAssert_lacksB Tryd.underlying85 (by kernel_rfl) (by kernel_rfl) v xT W
theorem unwrap_pn (v : Value) (xT : TypeId) (W : World) : (Instr.typeAssert (.iface 46 v) xT 85 true).run Tryd.prog W = .ok (.tuple #[.nilIface, .bool false]) W := run_typeAssert_lacksB Tryd.underlying85 (by kernel_rfl) (by kernel_rfl) v xT W
theorem as_pj (v : Value) (xT : TypeId) (W : World) : (Instr.typeAssert (.iface 91 v) xT 99 true).run Tryd.prog W = .ok (.tuple #[.nilIface, .bool false]) W := run_typeAssert_lacksB Tryd.underlying99 (by kernel_rfl) (by kernel_rfl) v xT W
theorem as_pn (v : Value) (xT : TypeId) (W : World) : (Instr.typeAssert (.iface 46 v) xT 99 true).run Tryd.prog W = .ok (.tuple #[.nilIface, .bool false]) W := run_typeAssert_lacksB Tryd.underlying99 (by kernel_rfl) (by kernel_rfl) v xT W
theorem is_pj (v : Value) (xT : TypeId) (W : World) : (Instr.typeAssert (.iface 91 v) xT 102 true).run Tryd.prog W = .ok (.tuple #[.nilIface, .bool false]) W := run_typeAssert_lacksB Tryd.underlying102 (by kernel_rfl) (by kernel_rfl) v xT W
theorem is_pn (v : Value) (xT : TypeId) (W : World) : (Instr.typeAssert (.iface 46 v) xT 102 true).run Tryd.prog W = .ok (.tuple #[.nilIface, .bool false]) W := run_typeAssert_lacksB Tryd.underlying102 (by kernel_rfl) (by kernel_rfl) v xT W
theorem is_pf (v : Value) (xT : TypeId) (W : World) : (Instr.typeAssert (.iface 59 v) xT 102 true).run Tryd.prog W = .ok (.tuple #[.iface 59 v, .bool true]) W := run_typeAssert_hasB Tryd.underlying102 (by kernel_rfl) v xT W
theorem method_list (h : Value) (w : World) : (Go.method 235 91 h "Unwrap").run Tryd.prog w = .ok (67, h) w := by kernel_rfl
theorem method_is (h : Value) (w : World) : (Go.method 235 59 h "Is").run Tryd.prog w = .ok (61, h) w := by kernel_rfl
theorem list_any (w : World) (b : Nat) (u : Value) (hb : Has w b 93 #[u]) : Calls Tryd.prog 67 #[.pointer (some ⟨b, 0, none⟩)] w fun e w' => e = .returned u ∧ w = w' := by
  have c0 : w.cell? ⟨b, 0, none⟩ = some u := hb.cell 0
  go_enter Tryd.func67, Tryd.ntmps67
  go_wp2_with fail
  go_ret
  exact ⟨rfl, rfl⟩
end Go.Proofs.YthagbbeppklpmaaDoor
