/- The reference's Get. -/
import Derived.Test.YtigcfgmblnbleaaDoorSgr
set_option linter.unusedSimpArgs false
set_option linter.unusedVariables false
namespace Go.Proofs.YtigcfgmblnbleaaDoor
open Go.RowKit

theorem cell_two_new (w : World) (o : Obj) (x : Value) (t : TypeId) : ∀ j u, [x][j]? = some u → ((w.alloc o).alloc (.cells #[x] t)).cell? ((⟨w.heap.size + 1, 0, none⟩ : Addr).add j) = some u := by
  have h := cell_one_new (w.alloc o) x t
  rwa [show (w.alloc o).heap.size = w.heap.size + 1 by simp] at h
theorem own_ge {w : World} {base : Nat} {e : TypeId} {size n : Nat} {v : Value} {xs : List Value} (h : w.ownsRow base e size v n xs) {k : Nat} (q : v.ownBlock = some k) : base ≤ k := by
  rcases h.2 with ⟨rfl, _⟩ | ⟨g, cap, cur, rfl, hb, _⟩
  · cases q
  · cases q; exact hb
theorem Tryd.info_int : (Tryd.prog.info? 3).map (fun i => (i.zero, i.size, i.bytes)) = some (some (.int .i64 0), 1, 8) := by kernel_rfl
def niV (s : ByteArray) (k : Nat) : List Value := (List.range k).map fun i => .int .i64 (nv s i)
theorem niV_length (s : ByteArray) (k : Nat) : (niV s k).length = k := by simp [niV]
theorem niV_succ (s : ByteArray) (k : Nat) : niV s (k + 1) = niV s k ++ [.int .i64 (nv s k)] := by simp [niV, List.range_succ]
theorem res_gg {W : World} {b g : Nat} {x0 x1 x2 y0 y1 y2 y3 y4 : Value} {tm : Array Value} (h : Has W b 51 #[x0, x1, x2]) (h2 : Has W g 23 #[y0, y1, y2, y3, y4]) (h8 : tm.getD 2 undef = .pointer (some ⟨b, 0, none⟩)) (h9 : tm.getD 3 undef = .pointer (some ⟨g, 0, none⟩)) :
    (results Tryd.f30 tm).run Tryd.prog W = .ok (.tuple #[.agg #[x0, x1, x2], .agg #[y0, y1, y2, y3, y4]]) W := by
  obtain ⟨c0, c1, c2, _⟩ := h.facts3
  obtain ⟨d0, d1, d2, d3, d4, _⟩ := h2.facts5
  simp only [Array.getD_eq_getD_getElem?] at h8 h9
  simp [results, Tryd.results30, go_sem, h8, h9, c0, c1, c2, d0, d1, d2, d3, d4]
/-- The number of the fault. -/
def getE (s : ByteArray) : Int := if s.size < 5 then 12 else (rawC s).check

end Go.Proofs.YtigcfgmblnbleaaDoor
