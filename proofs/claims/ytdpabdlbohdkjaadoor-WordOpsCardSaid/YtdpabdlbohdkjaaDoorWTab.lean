/-
  What the row's list gives the walks: the table of operations stands in memory (block 0), its fourteen functions by number.
-/
import Derived.Test.YtdpabdlbohdkjaaDoorFrame
import Derived.Test.YtdpabdlbohdkjaaDoorWOps
import Derived.LaidMore
import Derived.Stop.Joined
namespace Go.Proofs.YtdpabdlbohdkjaaDoor
open Go Go.ChangeShapes Go.WideShapes Go.ChangeAt Go.RowKit

theorem gTab : Tryd.prog.globalNamed "scoria/word.operations" = some 0 := by kernel_rfl
theorem tTab : (Tryd.prog.globals[0]?).map (·.type) = some 35 := by kernel_rfl
theorem cellsF : Tryd.prog.cellsOf 32 = 1 := by kernel_rfl
theorem cellsB : Tryd.prog.cellsOf 4 = 1 := by kernel_rfl
theorem cellsO : Tryd.prog.cellsOf 34 = 3 := by kernel_rfl
theorem cellsT : Tryd.prog.cellsOf 35 = 42 := by kernel_rfl

theorem open_entry {W : World} {m : Nat} {cs : List Value} {b : UInt8} {r : List UInt8} {c t : Bool} {p : List MemPlace} {f0 : FuncId}
    (hone : ((List.range Tryd.prog.funcs.size).filter fun f => (Tryd.prog.funcs[f]?).any (·.name.toUTF8.data.toList == b :: r)) = [f0])
    (h : DataW.trod (funcToken Tryd.prog) Tryd.prog W 0 (fun _ => true) true m 34 cs = some (.agg [.held (b :: r), .lit (.bool c), .lit (.bool t)], p)) :
    cs = [.func (.func f0) #[] #[], .bool c, .bool t] := by
  obtain ⟨xs, n, rfl, hx, hl, hn, hel⟩ := DataW.trod_struct Tryd.underlying34 h
  rw [cellsO] at hl
  have h0 : DataW.trod (funcToken Tryd.prog) Tryd.prog W 0 (fun _ => true) true n 32 ((cs.drop 0).take (Tryd.prog.cellsOf 32)) = xs[0]? := hel 0 _ rfl
  have h1 : DataW.trod (funcToken Tryd.prog) Tryd.prog W 0 (fun _ => true) true n 4 ((cs.drop 1).take (Tryd.prog.cellsOf 4)) = xs[1]? := hel 1 _ rfl
  have h2 : DataW.trod (funcToken Tryd.prog) Tryd.prog W 0 (fun _ => true) true n 4 ((cs.drop 2).take (Tryd.prog.cellsOf 4)) = xs[2]? := hel 2 _ rfl
  rw [cellsF] at h0
  rw [cellsB] at h1 h2
  match cs, hl, xs, hn, hx with
  | [c0, c1, c2], _, [x0, x1, x2], _, hx =>
    simp only [List.map_cons, List.map_nil, Prod.mk.injEq, DataW.agg.injEq, List.cons.injEq, and_true] at hx
    obtain ⟨⟨e0, e1, e2⟩, _⟩ := hx
    obtain ⟨y0, q0⟩ := x0
    obtain ⟨y1, q1⟩ := x1
    obtain ⟨y2, q2⟩ := x2
    simp only at e0 e1 e2
    subst e0 e1 e2
    have k0 := func_of_trod (f0 := f0) Tryd.underlying32 hone (show DataW.trod (funcToken Tryd.prog) Tryd.prog W 0 (fun _ => true) true n 32 [c0] = some (.held (b :: r), q0) from h0)
    obtain ⟨b1, e1, g1⟩ := DataW.trod_bool Tryd.underlying4 (show DataW.trod (funcToken Tryd.prog) Tryd.prog W 0 (fun _ => true) true n 4 [c1] = some (.lit (.bool c), q1) from h1)
    obtain ⟨b2, e2, g2⟩ := DataW.trod_bool Tryd.underlying4 (show DataW.trod (funcToken Tryd.prog) Tryd.prog W 0 (fun _ => true) true n 4 [c2] = some (.lit (.bool t), q2) from h2)
    simp only [Prod.mk.injEq, DataW.lit.injEq, Lit.bool.injEq] at g1 g2
    simp only [List.cons.injEq, and_true] at e1 e2
    rw [k0, e1, e2, g1.1, g2.1]

def opNames : List (List UInt8) := [[115, 99, 111, 114, 105, 97, 47, 119, 111, 114, 100, 46, 111, 112, 101, 114, 97, 116, 105, 111, 110, 115, 36, 49], [115, 99, 111, 114, 105, 97, 47, 119, 111, 114, 100, 46, 111, 112, 101, 114, 97, 116, 105, 111, 110, 115, 36, 50], [115, 99, 111, 114, 105, 97, 47, 119, 111, 114, 100, 46, 111, 112, 101, 114, 97, 116, 105, 111, 110, 115, 36, 51], [115, 99, 111, 114, 105, 97, 47, 119, 111, 114, 100, 46, 111, 112, 101, 114, 97, 116, 105, 111, 110, 115, 36, 52], [115, 99, 111, 114, 105, 97, 47, 119, 111, 114, 100, 46, 111, 112, 101, 114, 97, 116, 105, 111, 110, 115, 36, 53], [115, 99, 111, 114, 105, 97, 47, 119, 111, 114, 100, 46, 111, 112, 101, 114, 97, 116, 105, 111, 110, 115, 36, 54], [115, 99, 111, 114, 105, 97, 47, 119, 111, 114, 100, 46, 111, 112, 101, 114, 97, 116, 105, 111, 110, 115, 36, 55], [115, 99, 111, 114, 105, 97, 47, 119, 111, 114, 100, 46, 111, 112, 101, 114, 97, 116, 105, 111, 110, 115, 36, 56], [115, 99, 111, 114, 105, 97, 47, 119, 111, 114, 100, 46, 111, 112, 101, 114, 97, 116, 105, 111, 110, 115, 36, 57], [115, 99, 111, 114, 105, 97, 47, 119, 111, 114, 100, 46, 111, 112, 101, 114, 97, 116, 105, 111, 110, 115, 36, 49, 48], [115, 99, 111, 114, 105, 97, 47, 119, 111, 114, 100, 46, 111, 112, 101, 114, 97, 116, 105, 111, 110, 115, 36, 49, 49], [115, 99, 111, 114, 105, 97, 47, 119, 111, 114, 100, 46, 111, 112, 101, 114, 97, 116, 105, 111, 110, 115, 36, 49, 50], [115, 99, 111, 114, 105, 97, 47, 119, 111, 114, 100, 46, 111, 112, 101, 114, 97, 116, 105, 111, 110, 115, 36, 49, 51], [115, 99, 111, 114, 105, 97, 47, 119, 111, 114, 100, 46, 111, 112, 101, 114, 97, 116, 105, 111, 110, 115, 36, 49, 52]]
def opData (i : Nat) : DataW (List UInt8) := .agg [.held (opNames.getD i []), .lit (.bool (i == 3 || i == 4)), .lit (.bool (decide (10 ≤ i)))]

theorem tab_of_laid {W : World} (h : laidMetH Tryd.prog Rows.wordRingRow.laid W) : Tab W := by
  obtain ⟨g, t, cs, fuel, p, hg, ht, hv, hd⟩ := h.funcs (List.mem_singleton.2 rfl)
  obtain rfl := Option.some.inj (gTab.symm.trans hg)
  obtain rfl := Option.some.inj (tTab.symm.trans ht)
  have hd' : DataW.trod (funcToken Tryd.prog) Tryd.prog W 0 (fun _ => true) true fuel 35 cs.toList = some (.agg ((List.range 14).map opData), p) := hd
  obtain ⟨xs, m, rfl, hx, hl, hn, hel⟩ := DataW.trod_array Tryd.underlying35 hd'
  rw [cellsT] at hl
  rw [cellsO] at hel
  have hcell := World.var?_cell hg hv
  have hsz : 0 < W.heap.size := by
    have h0 := hcell 0
    have : (W.cell? ⟨0, 0, none⟩).isSome := by rw [h0]; simp; simp at hl; omega
    rcases Nat.lt_or_ge 0 W.heap.size with h | h
    · exact h
    · simp [World.cell?, Array.getElem?_eq_none h] at this
  have hx1 : xs.map (·.1) = (List.range 14).map opData := by
    have := (Prod.mk.inj hx).1; simpa using this.symm
  have key : ∀ i, i < 14 → ∃ q, DataW.trod (funcToken Tryd.prog) Tryd.prog W 0 (fun _ => true) true m 34 ((cs.toList.drop (i * 3)).take 3) = some (opData i, q) := by
    intro i hi
    have h1 := hel i hi
    have h2 : (xs.map (·.1))[i]? = some (opData i) := by rw [hx1]; simp [hi]
    rw [List.getElem?_map] at h2
    cases hxi : xs[i]? with
    | none => rw [hxi] at h2; simp at h2
    | some y => rw [hxi] at h1 h2; simp at h2; exact ⟨y.2, by rw [h1, ← h2]⟩
  have parts : ∀ i, i < 14 → (cs.toList.drop (i * 3)).take 3 = [tabCell (3 * i), tabCell (3 * i + 1), tabCell (3 * i + 2)] := by
    intro i hi
    obtain ⟨q, hq⟩ := key i hi
    rcases (show i = 0 ∨ i = 1 ∨ i = 2 ∨ i = 3 ∨ i = 4 ∨ i = 5 ∨ i = 6 ∨ i = 7 ∨ i = 8 ∨ i = 9 ∨ i = 10 ∨ i = 11 ∨ i = 12 ∨ i = 13 from by omega) with rfl | rfl | rfl | rfl | rfl | rfl | rfl | rfl | rfl | rfl | rfl | rfl | rfl | rfl
    all_goals exact open_entry (by kernel_rfl) hq
  refine ⟨hsz, fun i hi => ?_⟩
  rw [hcell i]
  have hp := parts (i / 3) (by omega)
  have hr : i % 3 = 0 ∨ i % 3 = 1 ∨ i % 3 = 2 := by omega
  have hget : cs[i]? = ((cs.toList.drop (i / 3 * 3)).take 3)[i % 3]? := by
    rw [List.getElem?_take, if_pos (by omega), List.getElem?_drop, show i / 3 * 3 + i % 3 = i from by omega, Array.getElem?_toList]
  rw [hget, hp]
  rcases hr with h | h | h
  · rw [h]; exact congrArg (fun j => some (tabCell j)) (by omega)
  · rw [h]; exact congrArg (fun j => some (tabCell j)) (by omega)
  · rw [h]; exact congrArg (fun j => some (tabCell j)) (by omega)
end Go.Proofs.YtdpabdlbohdkjaaDoor
