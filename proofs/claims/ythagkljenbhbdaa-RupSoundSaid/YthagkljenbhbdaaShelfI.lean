/-
  slices.Clone and slices.Delete at []int: the shelf's contracts at this program, and in the words of OwnS. No condition of its own.
-/
import Derived.Test.YthagkljenbhbdaaOwnL
import Derived.Test.YthagkljenbhbdaaProg
import Derived.Shelf.Slices.Delete
import Derived.Shelf.Slices.Cells
import Derived.Shelf.Slices.Empties
import Derived.Shelf.Slices.Clone
import Derived.WalkSmall
import Derived.Laws.IdiomCopy
import Derived.Lib.EndianMore
namespace Go.Proofs.Ythagkljenbhbdaa
open Go Go.RowKit

def renI : Go.Shelf.Ren := ⟨fun | 15 => 35 | 23 => 52 | n => n, fun | 0 => 0 | 3 => 3 | 4 => 4 | 22 => 22 | n => n, fun n => n⟩
theorem laysDelI : Lays2.n23 Try.prog renI := {
  mixed := by kernel_rfl
  f23 := Try.func52.trans (congrArg some (by kernel_rfl))
  t0 := Try.underlying0
  a0 := Try.isAgg0
  z0 := Try.sizeOf0
  v0 := Try.zeroValue0
  t3 := Try.underlying3
  a3 := Try.isAgg3
  z3 := Try.sizeOf3
  v3 := Try.zeroValue3
  t4 := Try.underlying4
  a4 := Try.isAgg4
  z4 := Try.sizeOf4
  v4 := Try.zeroValue4
  t22 := Try.underlying22
  a22 := Try.isAgg22
  z22 := Try.sizeOf22
  v22 := Try.zeroValue22
  i3 := by kernel_rfl }
theorem laysCloneI : Lays2.n15 Try.prog renI := {
  mixed := by kernel_rfl
  f15 := Try.func35.trans (congrArg some (by kernel_rfl))
  t3 := Try.underlying3
  a3 := Try.isAgg3
  z3 := Try.sizeOf3
  v3 := Try.zeroValue3
  t4 := Try.underlying4
  a4 := Try.isAgg4
  z4 := Try.sizeOf4
  v4 := Try.zeroValue4
  t22 := Try.underlying22
  a22 := Try.isAgg22
  z22 := Try.sizeOf22
  v22 := Try.zeroValue22
  i3 := by kernel_rfl }

/-- Numbers as the cells of a slice. -/
def n6s (l : List Int) : List Value := l.map (Value.int .i64)
theorem cloneInts_any (v : Value) (l : List Int) (w : World) (hv : RdL (IntV .i64) w v l) (hl : l.length ≤ 1000000) :
    Calls Try.prog 35 #[v] w fun e w' => ∃ v', e = .returned v' ∧ OwnS w' w.heap.size 3 v' (l.map (Value.int .i64)) ∧ Below w.heap.size w w' := by
  obtain ⟨a, cap, rfl, h1, h2, h3⟩ := hv
  match a with
  | none =>
    have hc := h1.2 rfl
    have hl0 : l = [] := List.length_eq_zero_iff.1 (by omega)
    subst hl0
    refine (Any.slices_Clone_int_nil laysCloneI _ _ w).mono ?_
    rintro e w' ⟨rfl, rfl⟩
    exact ⟨_, rfl, OwnS.nil _ _ _, Below.refl _ _⟩
  | some ⟨b, off, none⟩ =>
    refine (Any.slices_Clone_int laysCloneI b off l.length cap l w (Nat.le_refl _) (by omega) ?_).mono ?_
    · intro j hj
      obtain ⟨b', off', u, he, _, hc, hu⟩ := h3 j hj
      simp only [Option.some.injEq, Addr.mk.injEq, and_true] at he
      obtain ⟨rfl, rfl⟩ := he
      rw [hc]
      unfold IntV at hu
      rw [hu, List.getD_eq_getElem?_getD, List.getElem?_eq_getElem hj]; rfl
    · rintro e w' ⟨v', rfl, hown, _, hb⟩
      refine ⟨v', rfl, ?_, hb⟩
      rw [List.take_length] at hown
      show World.ownsRow _ _ _ _ _ _ _
      rw [List.length_map]
      exact hown
  | some ⟨b, off, some x⟩ =>
    have hl0 : l.length = 0 := by
      rcases Nat.eq_zero_or_pos l.length with h | h
      · exact h
      · obtain ⟨b', off', u, he, _⟩ := h3 0 h
        simp at he
    have hl1 : l = [] := List.length_eq_zero_iff.1 hl0
    subst hl1
    refine (Any.slices_Clone_int_zero laysCloneI ⟨b, off, some x⟩ cap w).mono ?_
    rintro e w' ⟨v', rfl, hown, _, hb⟩
    exact ⟨v', rfl, hown, hb⟩
theorem take_drop_rep (l : List Int) (k : Nat) : ((l.take l.length).take k ++ (l.take l.length).drop (k + 1) ++ List.replicate (k + 1 - k) (0 : Int)) = l.eraseIdx k ++ [0] := by
  rw [List.take_length, List.eraseIdx_eq_take_drop_succ, show k + 1 - k = 1 from by omega]; rfl
/-- Deleting one element of a slice of the call's own. -/
theorem deleteInts_any {base : Nat} (v : Value) (l : List Int) (k : Nat) (w : World) (hv : OwnS w base 3 v (l.map (Value.int .i64))) (hk : k < l.length) :
    Calls Try.prog 52 #[v, .int .i64 k, .int .i64 (k + 1)] w fun e w' => ∃ v', e = .returned v' ∧ RdL (IntV .i64) w' v' (l.eraseIdx k) ∧ Below base w w' := by
  rcases hv.shape with ⟨rfl, hx⟩ | ⟨g, cap, rfl, hbg, hg, hcap, hmax, hcell, hfr⟩
  · rw [List.map_eq_nil_iff] at hx
    subst hx; simp at hk
  · rw [List.length_map] at *
    have hd := Any.slices_Delete_int_cells laysDelI g 0 l.length cap k (k + 1) l w (Nat.le_refl _) hcap (by unfold maxLen at hmax; omega) (by omega) (by omega) (fun j hj => by
      rw [Nat.zero_add, hcell j hj, List.getElem?_map, List.getD_eq_getElem?_getD, List.getElem?_eq_getElem hj]; rfl) (fun j _ => by rw [Nat.zero_add]; exact hfr j)
    refine hd.mono ?_
    rintro e w' ⟨rfl, q, rfl⟩
    rw [take_drop_rep l k]
    have hll : (l.eraseIdx k).length = l.length - 1 := List.length_eraseIdx_of_lt hk
    have hb0 : Below base w (w.drewN q) := below_drewN (Below.refl _ _) q
    have hb : Below base w ((w.drewN q).setCells g 0 ((l.eraseIdx k ++ [0]).map (Value.int .i64))) := hb0.trans (Lib.below_setCells_w hbg _ _ _)
    refine ⟨_, rfl, ⟨some ⟨g, 0, none⟩, cap, by rw [hll, show k + 1 - k = 1 from by omega], ⟨by omega, fun h => by cases h⟩, hmax, fun j hj => ?_⟩, hb⟩
    refine ⟨g, 0, .int .i64 (l.eraseIdx k)[j], rfl, Nat.lt_of_lt_of_le hg hb.size, ?_, rfl⟩
    rw [World.cell?_setCells_in g _ 0 _ (fun t ht => by
      rw [Nat.zero_add, World.cell?_drewN, hcell t (by simp [hll] at ht; omega)]
      rw [List.getElem?_eq_getElem (by simp [hll] at ht ⊢; omega)]; rfl) j (by simp [hll]; omega)]
    rw [List.getElem_map, List.getElem_append_left hj]
end Go.Proofs.Ythagkljenbhbdaa
