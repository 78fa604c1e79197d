/-
  The walk of the law's example 'lives': it returns true.
-/
import Derived.Test.YthagkljenbhbdaaRSame
import Derived.Test.YthagkljenbhbdaaRCore
namespace Go.Proofs.Ythagkljenbhbdaa
open Go Go.RowKit

/-- A block of cells, as it stands in whatever world. -/
def Blk (w : World) (g : Nat) (e : TypeId) (vs : List Value) : Prop := w.heap[g]? = some (.cells vs.toArray e)
theorem Blk.lt {w : World} {g : Nat} {e : TypeId} {vs : List Value} (h : Blk w g e vs) : g < w.heap.size := by
  rcases Nat.lt_or_ge g w.heap.size with hlt | hge
  · exact hlt
  · unfold Blk at h; simp [Array.getElem?_eq_none hge] at h
theorem Blk.below {w w' : World} {g B : Nat} {e : TypeId} {vs : List Value} (h : Blk w g e vs) (hb : Below B w w') (hg : g < B) : Blk w' g e vs := by
  unfold Blk at *; rw [hb.block g hg]; exact h
theorem Blk.new' {w : World} {g : Nat} {e : TypeId} {vs : List Value} (h : g = w.heap.size) : Blk (w.alloc (.cells vs.toArray e)) g e vs := by
  subst h; unfold Blk; show (w.heap.push (Obj.cells vs.toArray e))[w.heap.size]? = _; simp
theorem Blk.old {w : World} {g : Nat} {e : TypeId} {vs : List Value} (h : Blk w g e vs) (o : Obj) : Blk (w.alloc o) g e vs :=
  h.below ((Below.refl w.heap.size w).alloc (Nat.le_refl _) o) h.lt
theorem Blk.rdv {w : World} {g : Nat} {e : TypeId} {vs : List Value} (h : Blk w g e vs) (hl : vs.length ≤ 1000000) : RdV w (.slice (some ⟨g, 0, none⟩) vs.length vs.length) vs := by
  have hlt := h.lt
  refine ⟨_, _, rfl, ⟨Nat.le_refl _, fun h => by cases h⟩, by unfold maxLen; omega, fun j hj => ⟨g, 0, rfl, hlt, ?_⟩⟩
  unfold Blk at h
  rw [cell_of_row w g (0 + j) _ _ _ h]
  simp [hj]
theorem Blk.ints {w : World} {g : Nat} {e : TypeId} {zs : List Int} (h : Blk w g e (zs.map (Value.int .i64))) (hl : zs.length ≤ 1000000) : RdL (IntV .i64) w (.slice (some ⟨g, 0, none⟩) zs.length zs.length) zs := by
  have h2 := (h.rdv (by simpa using hl)).rd (R := IntV .i64) (xs := zs) ⟨by simp, fun j h1 h2 => by simp [IntV]⟩
  simpa using h2
theorem Reads.cons {α : Type} {R : World → Value → α → Prop} {w : World} {u : Value} {x : α} {vs : List Value} {xs : List α} (h : R w u x) (k : Reads R w vs xs) : Reads R w (u :: vs) (x :: xs) := (Reads.single h).append k
theorem wpList_gen {P : Program} {ops : Array Oper} {rest : List Oper} {a : Act} {Q : Exit → Act → World → Prop} {W0 : World} (h : ∀ W, W = W0 → wpList P ops Q rest a W) : wpList P ops Q rest a W0 := h _ rfl

theorem Blk.drew {w : World} {g : Nat} {e : TypeId} {vs : List Value} (h : Blk w g e vs) : Blk w.drew g e vs := h
theorem calls_gen {P : Program} {f : FuncId} {args : Array Value} {W0 : World} {Q : Ending → World → Prop} (h : ∀ W, W = W0 → Calls P f args W Q) : Calls P f args W0 Q := h _ rfl

theorem below_alloc2 {a w : World} (h : Below a.heap.size a w) (o : Obj) : Below a.heap.size a (w.alloc o) := h.alloc h.size _
theorem own_blk {w : World} {g base : Nat} {e : TypeId} {vs : List Value} (h : Blk w g e vs) (hb : base ≤ g) (hm : vs.length ≤ 1000) : OwnS w base e (.slice (some ⟨g, 0, none⟩) vs.length vs.length) vs := by
  refine ⟨by simp, .inr ⟨g, vs.length, vs.toArray, rfl, hb, h, by simp, by unfold maxLen; omega, by simp, ?_⟩⟩
  simp

def exL : List (List Int) := [[1, 2], [1, -2], [-1, 3], [-1, -3]]
def exP : List (List Int) := [[1], []]
set_option maxRecDepth 100000 in
set_option maxHeartbeats 4000000 in
theorem lives_any (w : World) : Calls Try.prog 14 #[] w fun e w' => e = .returned (.bool true) ∧ Below w.heap.size w w' := by
  go_enter Try.func14, Try.ntmps14
  go_wp2_with (at_builtin; refine wpList_gen ?_; intro W hW; have b0 : Blk W (w.heap.size) 3 ([1, 2].map (Value.int .i64)) := (by (subst hW; iterate 9 (refine Blk.old ?_ _)); exact Blk.new' (by simp)); have b1 : Blk W (w.heap.size + 1) 3 ([1, -2].map (Value.int .i64)) := (by (subst hW; iterate 8 (refine Blk.old ?_ _)); exact Blk.new' (by simp)); have b2 : Blk W (w.heap.size + 1 + 1) 3 ([-1, 3].map (Value.int .i64)) := (by (subst hW; iterate 7 (refine Blk.old ?_ _)); exact Blk.new' (by simp)); have b3 : Blk W (w.heap.size + 1 + 1 + 1) 3 ([-1, -3].map (Value.int .i64)) := (by (subst hW; iterate 6 (refine Blk.old ?_ _)); exact Blk.new' (by simp)); have b4 : Blk W (w.heap.size + 1 + 1 + 1 + 1) 22 [.slice (some ⟨w.heap.size, 0, none⟩) 2 2, .slice (some ⟨w.heap.size + 1, 0, none⟩) 2 2, .slice (some ⟨w.heap.size + 1 + 1, 0, none⟩) 2 2, .slice (some ⟨w.heap.size + 1 + 1 + 1, 0, none⟩) 2 2] := (by (subst hW; iterate 5 (refine Blk.old ?_ _)); exact Blk.new' (by simp)); have b5 : Blk W (w.heap.size + 1 + 1 + 1 + 1 + 1) 3 ([1].map (Value.int .i64)) := (by (subst hW; iterate 4 (refine Blk.old ?_ _)); exact Blk.new' (by simp)); have b6 : Blk W (w.heap.size + 1 + 1 + 1 + 1 + 1 + 1) 3 (([] : List Int).map (Value.int .i64)) := (by (subst hW; iterate 3 (refine Blk.old ?_ _)); exact Blk.new' (by simp)); have b7 : Blk W (w.heap.size + 1 + 1 + 1 + 1 + 1 + 1 + 1) 22 [.slice (some ⟨w.heap.size + 1 + 1 + 1 + 1 + 1, 0, none⟩) 1 1, .slice (some ⟨w.heap.size + 1 + 1 + 1 + 1 + 1 + 1, 0, none⟩) 0 0] := (by (subst hW; iterate 2 (refine Blk.old ?_ _)); exact Blk.new' (by simp)); have b8 : Blk W (w.heap.size + 1 + 1 + 1 + 1 + 1 + 1 + 1 + 1) 3 ([2, 3].map (Value.int .i64)) := (by (subst hW; iterate 1 (refine Blk.old ?_ _)); exact Blk.new' (by simp)); have b9 : Blk W (w.heap.size + 1 + 1 + 1 + 1 + 1 + 1 + 1 + 1 + 1) 22 [.slice (some ⟨w.heap.size + 1 + 1 + 1 + 1 + 1 + 1 + 1 + 1, 0, none⟩) 2 2] := (by (subst hW; iterate 0 (refine Blk.old ?_ _)); exact Blk.new' (by simp)); have hWs : W.heap.size = w.heap.size + 1 + 1 + 1 + 1 + 1 + 1 + 1 + 1 + 1 + 1 := (by subst hW; simp); have hWb : Below w.heap.size w W := (by (subst hW; iterate 10 (refine Below.alloc ?_ (by simp <;> omega) _)); exact Below.refl _ _); clear hW; refine wpList_extend elemSlice rfl (.tmp 17) (.tmp 18) rfl (w.heap.size + 1 + 1 + 1 + 1 + 1 + 1 + 1 + 1 + 1) _ [.slice (some ⟨w.heap.size + 1 + 1 + 1 + 1 + 1 + 1 + 1 + 1, 0, none⟩) 2 2] _ [.slice (some ⟨w.heap.size, 0, none⟩) 2 2, .slice (some ⟨w.heap.size + 1, 0, none⟩) 2 2, .slice (some ⟨w.heap.size + 1 + 1, 0, none⟩) 2 2, .slice (some ⟨w.heap.size + 1 + 1 + 1, 0, none⟩) 2 2] rfl rfl (own_blk b9 (Nat.le_refl _) (by simp)) (b4.rdv (by simp)) (by simp [Value.oneCell']) (by simp) (by unfold maxLen; simp) (by rw [hWs]; omega) ?_; intro v1 W1 hown1 _ hb1)
  have r0 := (b0.below hb1 (by omega)).ints (by simp)
  have r1 := (b1.below hb1 (by omega)).ints (by simp)
  have r2 := (b2.below hb1 (by omega)).ints (by simp)
  have r3 := (b3.below hb1 (by omega)).ints (by simp)
  have r5 := (b5.below hb1 (by omega)).ints (by simp)
  have r6 := (b6.below hb1 (by omega)).ints (by simp)
  have r8 := (b8.below hb1 (by omega)).ints (by simp)
  have rL := Reads.cons r0 (Reads.cons r1 (Reads.cons r2 (Reads.cons r3 (Reads.nil _))))
  have HL : Hid (RdL (RdL (IntV .i64)) W1 (.slice (some ⟨w.heap.size + 1 + 1 + 1 + 1, 0, none⟩) 4 4) exL) := Lib.hid (((b4.below hb1 (by omega)).rdv (by simp)).rd rL)
  have HP : Hid (RdL (RdL (IntV .i64)) W1 (.slice (some ⟨w.heap.size + 1 + 1 + 1 + 1 + 1 + 1 + 1, 0, none⟩) 2 2) exP) := Lib.hid (((b7.below hb1 (by omega)).rdv (by simp)).rd (Reads.cons r5 (Reads.cons r6 (Reads.nil _))))
  have HB : Hid (RdL (RdL (IntV .i64)) W1 v1 ([2, 3] :: exL)) := Lib.hid (hown1.rdv.rd (Reads.cons r8 rL))
  have hbw1 : Below w.heap.size w W1 := hWb.trans (hb1.mono (by omega))
  clear r0 r1 r2 r3 r5 r6 r8 rL b0 b1 b2 b3 b4 b5 b6 b7 b8 b9 hown1 hb1 hWb hWs
  refine (core_any 3 ([2, 3] :: exL) exP v1 _ W1 HB.out HP.out (by decide) (by decide)).mono ?_
  rw [show checkS 3 ([2, 3] :: exL) exP = 0 from by decide, show coreS 3 ([2, 3] :: exL) exP = [1, 2, 3, 4] from by decide]
  rintro e w2 ⟨vr, rfl, hr2, hb2⟩
  have HR2 := Lib.hid hr2
  have hbw2 : Below w.heap.size w w2 := hbw1.trans (hb2.mono hbw1.size)
  have HL2 := Lib.hid (HL.out.below (mono_rdl (mono_int _)) hb2)
  have HP2 := Lib.hid (HP.out.below (mono_rdl (mono_int _)) hb2)
  clear hr2
  go_wp2_with fail
  refine calls_gen ?_
  intro W hW
  have c0 : Blk W w2.heap.size 3 ([1].map (Value.int .i64)) := (by (subst hW; iterate 3 (refine Blk.old ?_ _)); exact Blk.new' (by simp))
  have c1 : Blk W (w2.heap.size + 1) 3 ([1, 2].map (Value.int .i64)) := (by (subst hW; iterate 2 (refine Blk.old ?_ _)); exact Blk.new' (by simp))
  have c2 : Blk W (w2.heap.size + 1 + 1) 3 (([] : List Int).map (Value.int .i64)) := (by (subst hW; iterate 1 (refine Blk.old ?_ _)); exact Blk.new' (by simp))
  have c3 : Blk W (w2.heap.size + 1 + 1 + 1) 22 [.slice (some ⟨w2.heap.size, 0, none⟩) 1 1, .slice (some ⟨w2.heap.size + 1, 0, none⟩) 2 2, .slice (some ⟨w2.heap.size + 1 + 1, 0, none⟩) 0 0] := (by (subst hW; iterate 0 (refine Blk.old ?_ _)); exact Blk.new' (by simp))
  have hbW : Below w2.heap.size w2 W := (by (subst hW; iterate 4 (refine Below.alloc ?_ (by simp <;> omega) _)); exact Below.refl _ _)
  clear hW
  have HQ : Hid (RdL (RdL (IntV .i64)) W (.slice (some ⟨w2.heap.size + 1 + 1 + 1, 0, none⟩) 3 3) [[1], [1, 2], []]) := Lib.hid ((c3.rdv (by simp)).rd (Reads.cons (c0.ints (by simp)) (Reads.cons (c1.ints (by simp)) (Reads.cons (c2.ints (by simp)) (Reads.nil _)))))
  have HL3 := Lib.hid (HL2.out.below (mono_rdl (mono_int _)) hbW)
  clear c0 c1 c2 c3
  refine (trim_any 3 exL [[1], [1, 2], []] _ _ W HL3.out HQ.out (by decide) (by decide)).mono ?_
  rw [show checkS 3 exL [[1], [1, 2], []] = 0 from by decide, show trimS 3 exL [[1], [1, 2], []] = exP from by decide]
  rintro e w3 ⟨vt, rfl, hr3, hb3⟩
  have hb23 : Below w2.heap.size w2 w3 := hbW.trans (hb3.mono hbW.size)
  have hbw3 : Below w.heap.size w w3 := hbw2.trans (hb23.mono hbw2.size)
  have HT3 := Lib.hid hr3
  have HR3 := Lib.hid (HR2.out.below (mono_int _) hb23)
  have HL4 := Lib.hid (HL2.out.below (mono_rdl (mono_int _)) hb23)
  have HP4 := Lib.hid (HP2.out.below (mono_rdl (mono_int _)) hb23)
  clear hr3 hbW hb23 hb3 HB HL HP HL2 HP2 HL3 HQ
  go_wp2_with fail
  refine (check_any 3 exL exP _ _ w3 HL4.out HP4.out (by decide) (by decide)).mono ?_
  rw [show checkS 3 exL exP = 0 from by decide]
  rintro e w4 ⟨rfl, hb4⟩
  have HL5 := Lib.hid (HL4.out.below (mono_rdl (mono_int _)) hb4)
  have HP5 := Lib.hid (HP4.out.below (mono_rdl (mono_int _)) hb4)
  have HR5 := Lib.hid (HR3.out.below (mono_int _) hb4)
  have HT5 := Lib.hid (HT3.out.below (mono_rdl (mono_int _)) hb4)
  have hbw4 : Below w.heap.size w w4 := hbw3.trans (hb4.mono hbw3.size)
  go_wp2_with fail
  refine calls_gen ?_
  intro W hW
  have c0 : Blk W w4.heap.size 3 (([] : List Int).map (Value.int .i64)) := (by (subst hW; iterate 1 (refine Blk.old ?_ _)); exact Blk.new' (by simp))
  have c1 : Blk W (w4.heap.size + 1) 22 [.slice (some ⟨w4.heap.size, 0, none⟩) 0 0] := (by (subst hW; iterate 0 (refine Blk.old ?_ _)); exact Blk.new' (by simp))
  have hbW : Below w4.heap.size w4 W := (by (subst hW; iterate 2 (refine Below.alloc ?_ (by simp <;> omega) _)); exact Below.refl _ _)
  clear hW
  have HQ : Hid (RdL (RdL (IntV .i64)) W (.slice (some ⟨w4.heap.size + 1, 0, none⟩) 1 1) [[]]) := Lib.hid ((c1.rdv (by simp)).rd (Reads.cons (c0.ints (by simp)) (Reads.nil _)))
  have HL6 := Lib.hid (HL5.out.below (mono_rdl (mono_int _)) hbW)
  clear c0 c1
  refine (check_any 3 exL [[]] _ _ W HL6.out HQ.out (by decide) (by decide)).mono ?_
  rw [show checkS 3 exL [[]] = 22 from by decide]
  rintro e w5 ⟨rfl, hb5⟩
  have hb45 : Below w4.heap.size w4 w5 := hbW.trans (hb5.mono hbW.size)
  have hbw5 : Below w.heap.size w w5 := hbw4.trans (hb45.mono hbw4.size)
  have HL7 := Lib.hid (HL5.out.below (mono_rdl (mono_int _)) hb45)
  have HP7 := Lib.hid (HP5.out.below (mono_rdl (mono_int _)) hb45)
  have HR7 := Lib.hid (HR5.out.below (mono_int _) hb45)
  have HT7 := Lib.hid (HT5.out.below (mono_rdl (mono_int _)) hb45)
  clear hbW hb5 hb45 HL6 HQ HL5 HP5 HR5 HT5 HL4 HP4 HR3 HT3 HR2
  go_wp2_with fail
  refine (check_any 2 exL exP _ _ w5 HL7.out HP7.out (by decide) (by decide)).mono ?_
  rw [show checkS 2 exL exP = 1 from by decide]
  rintro e w6 ⟨rfl, hb6⟩
  have HP8 := Lib.hid (HP7.out.below (mono_rdl (mono_int _)) hb6)
  have HR8 := Lib.hid (HR7.out.below (mono_int _) hb6)
  have HT8 := Lib.hid (HT7.out.below (mono_rdl (mono_int _)) hb6)
  have hbw6 : Below w.heap.size w w6 := hbw5.trans (hb6.mono hbw5.size)
  clear HL7 HP7 HR7 HT7
  go_wp2_with fail
  refine calls_gen ?_
  intro W hW
  have c0 : Blk W w6.heap.size 3 ([1, 2, 3, 4].map (Value.int .i64)) := (by (subst hW; iterate 0 (refine Blk.old ?_ _)); exact Blk.new' (by simp))
  have hbW : Below w6.heap.size w6 W := (by (subst hW; iterate 1 (refine Below.alloc ?_ (by simp <;> omega) _)); exact Below.refl _ _)
  clear hW
  have HR9 := Lib.hid (HR8.out.below (mono_int _) hbW)
  refine (sameInts_any [1, 2, 3, 4] [1, 2, 3, 4] _ _ W HR9.out (c0.ints (by simp))).mono ?_
  rw [show decide (([1, 2, 3, 4] : List Int) = [1, 2, 3, 4]) = true from by decide]
  rintro e w7 ⟨rfl, hb7⟩
  have hb67 : Below w6.heap.size w6 w7 := hbW.trans (hb7.mono hbW.size)
  have HP9 := Lib.hid (HP8.out.below (mono_rdl (mono_int _)) hb67)
  have HT9 := Lib.hid (HT8.out.below (mono_rdl (mono_int _)) hb67)
  have hbw7 : Below w.heap.size w w7 := hbw6.trans (hb67.mono hbw6.size)
  clear c0 hbW hb7 hb67 HR9 HR8 HP8 HT8
  go_wp2_with fail
  refine (same_any exP exP _ _ w7 HT9.out HP9.out).mono ?_
  rw [show decide (exP = exP) = true from by decide]
  rintro e w8 ⟨rfl, hb8⟩
  go_wp2_with fail
  go_ret
  exact ⟨rfl, hbw7.trans (hb8.mono hbw7.size)⟩
end Go.Proofs.Ythagkljenbhbdaa
