/-
  The walks of the reference of layer 23 (package scoriaref23): Values.of, Values.set, Values.unit, Conflict, Follows, proves, right, Valid and Check return what the plain Lean functions of RSpec say; nothing that was in memory is changed.
-/
import Derived.Test.YthagkljenbhbdaaRCheck
import Derived.StillTailTactics
import Derived.Deep.RegionHeld3
namespace Go.Proofs.Ythagkljenbhbdaa
open Go Go.RowKit

def i6s (l : List Int) : List Value := l.map (Value.int .i64)
theorem i6s_len (l : List Int) : (i6s l).length = l.length := by simp [i6s]
theorem i6s_set (l : List Int) (j : Nat) (x : Int) : i6s (l.set j x) = (i6s l).set j (.int .i64 x) := by simp [i6s]
/-- The truth values in memory: n of them. -/
structure ValsI (w : World) (base g n cap : Nat) (l : List Int) : Prop where
  len : l.length = n
  row : w.ownsRow base 3 1 (.slice (some ⟨g, 0, none⟩) n cap) n (i6s l)
  tv : TV l
theorem ValsI.cell {w : World} {base g n cap : Nat} {l : List Int} (h : ValsI w base g n cap l) (j : Nat) (hj : j < l.length) : w.cell? ⟨g, j, none⟩ = some (.int .i64 l[j]) := by
  have := h.len
  rw [World.ownsRow.cellAt h.row j (by omega)]; simp [i6s, hj]
theorem ValsI.base_le {w : World} {base g n cap : Nat} {l : List Int} (h : ValsI w base g n cap l) : base ≤ g := (World.ownsRow.lt h.row g rfl).1
theorem ValsI.set {w : World} {base g n cap : Nat} {l : List Int} (h : ValsI w base g n cap l) (m : Int) (j : Nat) (x : Int) (hj : vset l m = l.set j x) :
    ValsI (w.setCell ⟨g, j, none⟩ (.int .i64 x)) base g n cap (vset l m) ∧ Below base w (w.setCell ⟨g, j, none⟩ (.int .i64 x)) := by
  have hs := World.ownsRow.stored h.row j (.int .i64 x)
  have hb := h.base_le
  refine ⟨⟨by rw [vset_len]; exact h.len, ?_, h.tv.set m⟩, (Below.refl base w).setCell (p := ⟨g, j, none⟩) hb _⟩
  rw [hj, i6s_set]
  exact hs.1

theorem ValsI.lt {w : World} {base g n cap : Nat} {l : List Int} (h : ValsI w base g n cap l) : g < w.heap.size := (World.ownsRow.lt h.row g rfl).2
theorem ValsI.below {w w' : World} {base g n cap : Nat} {l : List Int} (h : ValsI w base g n cap l) (hb : Below w.heap.size w w') : ValsI w' base g n cap l := by
  have hl := h.len
  subst hl
  have ho : OwnS w base 3 (.slice (some ⟨g, 0, none⟩) l.length cap) (i6s l) := by simpa [OwnS, i6s] using h.row
  have ho' := ho.below hb
  exact ⟨rfl, by simpa [OwnS, i6s] using ho', h.tv⟩

theorem rof_any {base g n cap : Nat} {l : List Int} (m : Int) (w : World) (h : ValsI w base g n cap l) (h1 : -(n : Int) < m) (h2 : m < n) (hmax : n ≤ 1000000) :
    Calls Try.prog 75 #[.agg #[.slice (some ⟨g, 0, none⟩) n cap], .int .i64 m] w fun e w' => e = .returned (.int .i64 (vof l m)) ∧ Below w.heap.size w w' := by
  have hlen := h.len
  have hT := h.tv
  have hgl := h.lt
  by_cases hn : m < 0
  · obtain ⟨j, hj⟩ : ∃ j : Nat, (j : Int) = -m := ⟨(-m).toNat, by omega⟩
    obtain rfl : m = -j := by omega
    have hjl : j < l.length := by omega
    have hjn : j < n := by omega
    have hc := h.cell j hjl
    have hb := hT.get j hjl
    have e : vof l (-(j : Int)) = -l[j] := by unfold vof; rw [if_pos hn]; simp [hjl]
    rw [e]
    generalize l[j] = x at *
    clear e hT h hj hlen hjl
    go_enter Try.func75, Try.ntmps75
    go_wp2
    go_ret
    exact ⟨rfl, (Below.refl _ _).alloc (Nat.le_refl _) _⟩
  · obtain ⟨j, rfl⟩ := Int.eq_ofNat_of_zero_le (show 0 ≤ m by omega)
    have hjl : j < l.length := by omega
    have hjn : j < n := by omega
    have hc := h.cell j hjl
    have e : vof l (j : Int) = l[j] := by unfold vof; rw [if_neg hn]; simp [hjl]
    rw [e]
    generalize l[j] = x at *
    clear e hT h hlen hjl
    go_enter Try.func75, Try.ntmps75
    go_wp2
    go_ret
    exact ⟨rfl, (Below.refl _ _).alloc (Nat.le_refl _) _⟩
theorem grown_set {w w2 : World} (hb : Below w.heap.size w w2) (g j : Nat) (v : Value) : w.grownBy (w2.setCell ⟨g, j, none⟩ v) (some g) :=
  ⟨hb.os, hb.tape, hb.output, by have := hb.size; simpa using this, fun k hk hne => (Below.heap_setCell w2 ⟨g, j, none⟩ v k (fun e => hne (by rw [e]))).trans (hb.block k hk)⟩
theorem grown_below {w w' : World} {g base : Nat} (h : w.grownBy w' (some g)) (hb : base ≤ w.heap.size) (hg : base ≤ g) : Below base w w' :=
  (Below.refl base w).grown h hb (fun k hk => by simp at hk; omega)
theorem grown_cell {w w' : World} {g b j : Nat} {v : Value} (h : w.grownBy w' (some g)) (hne : b ≠ g) (hc : w.cell? ⟨b, j, none⟩ = some v) : w'.cell? ⟨b, j, none⟩ = some v :=
  h.cell hc (by simpa using hne)
theorem rset_any {base g n cap : Nat} {l : List Int} (m : Int) (w : World) (h : ValsI w base g n cap l) (h1 : -(n : Int) < m) (h2 : m < n) (hmax : n ≤ 1000000) :
    Calls Try.prog 66 #[.agg #[.slice (some ⟨g, 0, none⟩) n cap], .int .i64 m] w fun e w' =>
      (vof l m = -1 ∧ e = .returned (.bool false) ∧ Below w.heap.size w w') ∨ (vof l m ≠ -1 ∧ e = .returned (.bool true) ∧ ValsI w' base g n cap (vset l m) ∧ w.grownBy w' (some g)) := by
  have hlen := h.len
  have hgl := h.lt
  have hbg := h.base_le
  have hV1 : ValsI (w.alloc (.cells #[.slice (some ⟨g, 0, none⟩) n cap] 88)) base g n cap l := h.below ((Below.refl _ _).alloc (Nat.le_refl _) _)
  have hb1 : Below w.heap.size w (w.alloc (.cells #[.slice (some ⟨g, 0, none⟩) n cap] 88)) := (Below.refl _ _).alloc (Nat.le_refl _) _
  by_cases hv : vof l m = -1
  · have hvb : (vof l m == -1) = true := by simpa using hv
    have HV := Lib.hid hv
    have HB := Lib.hid hb1
    clear hv h hlen hb1
    go_enter Try.func66, Try.ntmps66
    go_wp2_with (go_at_call 75; refine (rof_any _ _ (by assumption) (by omega) (by omega) (by omega)).mono ?_; rintro e w2 ⟨rfl, hb2⟩)
    go_ret
    exact .inl ⟨HV.out, rfl, HB.out.trans (hb2.mono HB.out.size)⟩
  · have hvb : (vof l m == -1) = false := by simpa using hv
    have HV := Lib.hid hv
    have HB := Lib.hid hb1
    have HV1 := Lib.hid hV1
    by_cases hn : m < 0
    · obtain ⟨j, hj⟩ : ∃ j : Nat, (j : Int) = -m := ⟨(-m).toNat, by omega⟩
      obtain rfl : m = -j := by omega
      have hjn : j < n := by omega
      clear hv h hlen hb1 hj
      go_enter Try.func66, Try.ntmps66
      go_wp2_with fail
      refine (rof_any _ _ hV1 (by omega) (by omega) (by omega)).mono ?_
      rintro e w2 ⟨rfl, hb2⟩
      have hcell2 : w2.cell? ⟨w.heap.size, 0, none⟩ = some (.slice (some ⟨g, 0, none⟩) n cap) := (hb2.cell (p := ⟨w.heap.size, 0, none⟩) (by simp)).trans (by simp)
      have hV2 := HV1.out.below hb2
      have hl2 := hV2.len
      have hc := hV2.cell j (by omega)
      have hf := World.ownsRow.frozenAt hV2.row j
      have HS := Lib.hid (hV2.set (-(j : Int)) j (-1) (by unfold vset; rw [if_pos (by omega)]; simp))
      generalize l[j]'_ = x0 at hc
      clear hV2 hV1 hl2
      go_wp2_with fail
      go_ret
      exact .inr ⟨HV.out, rfl, HS.out.1, grown_set (HB.out.trans (hb2.mono HB.out.size)) g j _⟩
    · obtain ⟨j, rfl⟩ := Int.eq_ofNat_of_zero_le (show 0 ≤ m by omega)
      have hjn : j < n := by omega
      clear hv h hlen hb1
      go_enter Try.func66, Try.ntmps66
      go_wp2_with fail
      refine (rof_any _ _ hV1 (by omega) (by omega) (by omega)).mono ?_
      rintro e w2 ⟨rfl, hb2⟩
      have hcell2 : w2.cell? ⟨w.heap.size, 0, none⟩ = some (.slice (some ⟨g, 0, none⟩) n cap) := (hb2.cell (p := ⟨w.heap.size, 0, none⟩) (by simp)).trans (by simp)
      have hV2 := HV1.out.below hb2
      have hl2 := hV2.len
      have hc := hV2.cell j (by omega)
      have hf := World.ownsRow.frozenAt hV2.row j
      have HS := Lib.hid (hV2.set (j : Int) j 1 (by unfold vset; rw [if_neg (by omega)]; simp))
      generalize l[j]'_ = x0 at hc
      clear hV2 hV1 hl2
      go_wp2_with fail
      go_ret
      exact .inr ⟨HV.out, rfl, HS.out.1, grown_set (HB.out.trans (hb2.mono HB.out.size)) g j _⟩

/-- What 'unit' answers: (0, true): nothing to do; (u, true): u must be true; (0, false): all are false. -/
def unitS (v c : List Int) : Int × Bool := match scan v c 0 with | none => (0, true) | some u => (u, u != 0)
set_option maxRecDepth 100000 in
set_option maxHeartbeats 1000000 in
theorem runit_any {base g n cap : Nat} {l : List Int} (c : List Int) (vc : Value) (w : World) (h : ValsI w base g n cap l) (hc : RdL (IntV .i64) w vc c) (hL : Lits n c) (hmax : n ≤ 1000000) :
    Calls Try.prog 67 #[.agg #[.slice (some ⟨g, 0, none⟩) n cap], vc] w fun e w' => e = .returned (.tuple #[.int .i64 (unitS l c).1, .bool (unitS l c).2]) ∧ Below w.heap.size w w' := by
  have hV1 : ValsI (w.alloc (.cells #[.slice (some ⟨g, 0, none⟩) n cap] 88)) base g n cap l := h.below ((Below.refl _ _).alloc (Nat.le_refl _) _)
  have hb1 : Below w.heap.size w (w.alloc (.cells #[.slice (some ⟨g, 0, none⟩) n cap] 88)) := (Below.refl _ _).alloc (Nat.le_refl _) _
  obtain ⟨a, cap2, rfl, hc1, hc2, hc3⟩ := hc
  have hcm : c.length ≤ 9223372036854775807 := by unfold maxLen at hc2; omega
  have HC := Lib.hid hc3
  have HV1 := Lib.hid hV1
  have HL := Lib.hid hL
  have HH := Lib.hid h
  clear hc1 hc2 hc3 hL hV1 h
  go_enter Try.func67, Try.ntmps67
  go_wp2_with fail
  go_loopg [6, 7] c.length (fun gh x i wr => ∃ (j : Nat) (un : Int), gh = c.length - j ∧ j ≤ c.length ∧ i = .int .i64 j ∧ x = .int .i64 un ∧ Below (w.heap.size + 1) (w.alloc (.cells #[.slice (some ⟨g, 0, none⟩) n cap] 88)) wr ∧ Hid (scan l c 0 = scan l (c.drop j) un))
  case atStart => exact ⟨0, 0, by omega, by omega, rfl, rfl, Below.refl _ _, Lib.hid rfl⟩
  case round =>
    obtain ⟨j, un, rfl, hj, rfl, rfl, hb, HS⟩ := hrel
    have hbw : Below w.heap.size w wr := hb1.trans (hb.mono (by omega))
    by_cases hjt : j < c.length
    · obtain ⟨b2, off2, y, rfl, hbl2, hcell2, hy⟩ := HC.out j hjt
      have hcell3 := (hbw.cell (p := ⟨b2, off2 + j, none⟩) hbl2).trans hcell2
      have hst : wr.cell? ⟨w.heap.size, 0, none⟩ = some (.slice (some ⟨g, 0, none⟩) n cap) := (hb.cell (p := ⟨w.heap.size, 0, none⟩) (by simp)).trans (by simp)
      have hsz : w.heap.size < wr.heap.size := by have := hb.size; simp at this; omega
      have hn := HL.out _ (List.getElem_mem hjt)
      have HE := Lib.hid (drop_cons c j hjt)
      have hV := HH.out.below hbw
      clear hcell2
      generalize hx : c[j] = m at *
      have HX2 := Lib.hid hx
      clear hx
      unfold IntV at hy
      subst hy
      have htv : -1 ≤ vof l m ∧ vof l m ≤ 1 := by
        have ht := HH.out.tv
        have hll := HH.out.len
        unfold vof
        split
        · have := ht.get (-m).toNat (by omega); rw [List.getD_eq_getElem?_getD, List.getElem?_eq_getElem (by omega)]; simp; omega
        · have := ht.get m.toNat (by omega); rw [List.getD_eq_getElem?_getD, List.getElem?_eq_getElem (by omega)]; simp; omega
      have hVd := hV.below ((Below.refl _ wr).drew)
      have hfin : ∀ w2, Below wr.drew.heap.size wr.drew w2 → Below w.heap.size w w2 := fun w2 hb2 => hbw.drew.trans (hb2.mono (show w.heap.size ≤ wr.drew.heap.size from hbw.size))
      have hfin2 : ∀ w2, Below wr.drew.heap.size wr.drew w2 → Below (w.heap.size + 1) (w.alloc (.cells #[.slice (some ⟨g, 0, none⟩) n cap] 88)) w2 := fun w2 hb2 => hb.drew.trans (hb2.mono (show w.heap.size + 1 ≤ wr.drew.heap.size from hsz))
      have hcl : ∀ w2, Below wr.drew.heap.size wr.drew w2 → w2.cell? ⟨b2, off2 + j, none⟩ = some (.int .i64 m) := fun w2 hb2 => (hb2.cell (p := ⟨b2, off2 + j, none⟩) (show b2 < wr.heap.size from Nat.lt_of_lt_of_le hbl2 hbw.size)).trans hcell3
      have HF := Lib.hid hfin
      have HF2 := Lib.hid hfin2
      have HCL := Lib.hid hcl
      clear hV hfin hfin2 hcl hb
      rcases (show vof l m = 1 ∨ vof l m = 0 ∨ vof l m = -1 from by omega) with hx | hx | hx
      · have hr : unitS l c = (0, true) := by unfold unitS; rw [HS.out, HE.out, scan_skip (.inl (by omega))]
        have HR := Lib.hid hr
        have hx1 : (vof l m == 1) = true := by rw [hx]; rfl
        clear hr hx htv
        go_wp2_with fail
        go_still_tail 5, (by kernel_rfl)
        change wpList _ _ _ _ _ wr.drew
        go_wp2_with (go_at_call 75; refine (rof_any _ _ (by assumption) (by omega) (by omega) (by omega)).mono ?_; rintro e w2 ⟨rfl, hb2⟩)
        go_ret2
        exact ⟨by rw [HR.out]; rfl, HF.out _ hb2⟩
      · have hx1 : (vof l m == 1) = false := by rw [hx]; rfl
        have hx2 : (vof l m == 0) = true := by rw [hx]; rfl
        by_cases hskip : un ≠ 0 ∧ un ≠ m
        · have hr : unitS l c = (0, true) := by unfold unitS; rw [HS.out, HE.out, scan_skip (.inr ⟨hx, hskip⟩)]
          have HR := Lib.hid hr
          have hu1 : (un != 0) = true := by simpa using hskip.1
          have hu2 : (un != m) = true := by simpa using hskip.2
          clear hr hx htv hskip
          go_wp2_with fail
          go_still_tail 5, (by kernel_rfl)
          change wpList _ _ _ _ _ wr.drew
          go_wp2_with ((go_at_call 75; refine (rof_any _ _ (by assumption) (by omega) (by omega) (by omega)).mono ?_; rintro e w2 ⟨rfl, hb2⟩); have hcell4 := HCL.out _ hb2)
          go_ret2
          exact ⟨by rw [HR.out]; rfl, HF.out _ hb2⟩
        · have hstep : Hid (scan l c 0 = scan l (c.drop (j + 1)) m) := Lib.hid (by rw [HS.out, HE.out]; exact scan_unit hx (by omega))
          have hu : un = 0 ∨ ((un != 0) = true ∧ (un != m) = false) := by
            by_cases h0 : un = 0
            · exact .inl h0
            · have hum : un = m := by omega
              exact .inr ⟨by simpa using h0, by rw [hum]; simp⟩
          clear hx htv hskip
          rcases hu with hu | ⟨hu1, hu2⟩
          all_goals
            go_wp2_with fail
            go_still_tail 5, (by kernel_rfl)
            change wpList _ _ _ _ _ wr.drew
            go_wp2_with ((go_at_call 75; refine (rof_any _ _ (by assumption) (by omega) (by omega) (by omega)).mono ?_; rintro e w2 ⟨rfl, hb2⟩); have hcell4 := HCL.out _ hb2)
            go_roundg (c.length - (j + 1))
            case measure => omega
            case rel => exact ⟨j + 1, m, rfl, by omega, by go_num, rfl, HF2.out _ hb2, hstep⟩
      · have hx1 : (vof l m == 1) = false := by rw [hx]; rfl
        have hx2 : (vof l m == 0) = false := by rw [hx]; rfl
        have hstep : Hid (scan l c 0 = scan l (c.drop (j + 1)) un) := Lib.hid (by rw [HS.out, HE.out]; exact scan_next (by omega))
        clear hx htv
        go_wp2_with fail
        go_still_tail 5, (by kernel_rfl)
        change wpList _ _ _ _ _ wr.drew
        go_wp2_with (go_at_call 75; refine (rof_any _ _ (by assumption) (by omega) (by omega) (by omega)).mono ?_; rintro e w2 ⟨rfl, hb2⟩)
        go_roundg (c.length - (j + 1))
        case measure => omega
        case rel => exact ⟨j + 1, un, rfl, by omega, by go_num, rfl, HF2.out _ hb2, hstep⟩
    · obtain rfl : j = c.length := by omega
      have hr : unitS l c = (un, un != 0) := by unfold unitS; rw [HS.out, List.drop_length, scan]
      have HR := Lib.hid hr
      clear hr
      go_wp2_with fail
      go_ret2
      exact ⟨by rw [HR.out]; rfl, hbw⟩

theorem elemIntR : ElemT Try.prog 22 3 (.int .i64 0) 8 := elemInt
theorem vof_tv {l : List Int} {n : Nat} {m : Int} (ht : TV l) (hl : l.length = n) (h1 : -(n : Int) < m) (h2 : m < n) : -1 ≤ vof l m ∧ vof l m ≤ 1 := by
  unfold vof
  split
  · have := ht.get (-m).toNat (by omega); rw [List.getD_eq_getElem?_getD, List.getElem?_eq_getElem (by omega)]; simp; omega
  · have := ht.get m.toNat (by omega); rw [List.getD_eq_getElem?_getD, List.getElem?_eq_getElem (by omega)]; simp; omega

/-- What stands in memory while 'Conflict' runs: the truth values in block g, the struct that holds them in block S. -/
structure RInv (w wr : World) (g S n : Nat) (vl : List Int) : Prop where
  vals : ValsI wr g g n n vl
  below : Below g w wr
  cell : wr.cell? ⟨S, 0, none⟩ = some (.slice (some ⟨g, 0, none⟩) n n)
  lt : g < S
  size : S < wr.heap.size
theorem RInv.next {w wr w2 : World} {g S n : Nat} {vl : List Int} (h : RInv w wr g S n vl) (hb : Below wr.heap.size wr w2) : RInv w w2 g S n vl :=
  ⟨h.vals.below hb, h.below.trans (hb.mono (by have := h.lt; have := h.size; omega)), (hb.cell (p := ⟨S, 0, none⟩) h.size).trans h.cell, h.lt, Nat.lt_of_lt_of_le h.size hb.size⟩
theorem RInv.drew {w wr : World} {g S n : Nat} {vl : List Int} (h : RInv w wr g S n vl) : RInv w wr.drew g S n vl := h.next ((Below.refl _ wr).drew)
theorem RInv.set {w wr w2 : World} {g S n : Nat} {vl v2 : List Int} (h : RInv w wr g S n vl) (hv : ValsI w2 g g n n v2) (hg : wr.grownBy w2 (some g)) : RInv w w2 g S n v2 :=
  ⟨hv, h.below.trans (grown_below hg (by have := h.lt; have := h.size; omega) (Nat.le_refl _)), grown_cell hg (by have := h.lt; omega) h.cell, h.lt, Nat.lt_of_lt_of_le h.size hg.size⟩

set_option maxRecDepth 100000 in
set_option maxHeartbeats 2000000 in
theorem rconflict_any (N : Nat) (cs : List (List Int)) (l : List Int) (vc vf : Value) (w : World) (hc : RdL (RdL (IntV .i64)) w vc cs) (hf : RdL (IntV .i64) w vf l)
    (hN : N ≤ 100000) (hcl : LitsAll (N + 1) cs) (hfl : Lits (N + 1) l) :
    Calls Try.prog 45 #[.int .i64 N, vc, vf] w fun e w' => e = .returned (.bool (conflict N cs l)) ∧ Below w.heap.size w w' := by
  obtain ⟨af, capf, rfl, hf1, hf2, hf3⟩ := hf
  obtain ⟨ac, capc, rfl, hc1, hc2, hc3⟩ := hc
  have hcm : cs.length ≤ 9223372036854775807 := by unfold maxLen at hc2; omega
  have hlm : l.length ≤ 9223372036854775807 := by unfold maxLen at hf2; omega
  have HC := Lib.hid hc3
  have HF := Lib.hid hf3
  have HCL := Lib.hid hcl
  have HFL := Lib.hid hfl
  clear hc1 hc2 hc3 hf3 hcl hfl hf1 hf2
  go_enter Try.func45, Try.ntmps45
  go_wp2_with (at_make; refine wpList_makeN elemIntR rfl _ _ rfl w.heap.size _ _ _ _ (N + 1) rfl rfl (by omega) (by omega) (by omega) (by unfold maxLen; omega) (Nat.le_refl _) ?_; intro w1 hown hb1)
  have hV1 : ValsI w1 w.heap.size w.heap.size (N + 1) (N + 1) (List.replicate (N + 1) 0) := ⟨by simp, by simpa [OwnS, i6s] using hown, TV.zeros _⟩
  have hI : RInv w (w1.alloc (Obj.cells #[Value.slice (some ⟨w.heap.size, 0, none⟩) (N + 1) (N + 1)] 88)) w.heap.size w1.heap.size (N + 1) (List.replicate (N + 1) 0) :=
    ⟨hV1.below ((Below.refl _ _).alloc (Nat.le_refl _) _), hb1.trans (((Below.refl _ _).alloc (Nat.le_refl _) _).mono hb1.size), by simp, hV1.lt, by simp⟩
  clear hown hV1 hb1
  generalize w1.heap.size = S at *
  go_loopg [8] l.length (fun gh i wr => ∃ (k : Nat) (vl : List Int), gh = l.length - k ∧ k ≤ l.length ∧ i = .int .i64 k ∧ RInv w wr w.heap.size S (N + 1) vl ∧ Hid (assume l (List.replicate (N + 1) 0) = assume (l.drop k) vl))
  case atStart => exact ⟨0, _, by omega, by omega, rfl, hI, Lib.hid rfl⟩
  case round =>
    obtain ⟨k, vl, rfl, hk, rfl, hI, HA⟩ := hrel
    by_cases hlt : k < l.length
    · obtain ⟨b, off, u, rfl, hbl, hcell0, hu⟩ := HF.out k hlt
      have hcell := (hI.below.cell (p := ⟨b, off + k, none⟩) hbl).trans hcell0
      have hst := hI.cell
      have hn := HFL.out _ (List.getElem_mem hlt)
      have HD := Lib.hid (drop_cons l k hlt)
      have hId := hI.drew
      have hVd := hId.vals
      have hle := hI.vals.len
      have htv := vof_tv hI.vals.tv hI.vals.len hn.1 hn.2
      clear hcell0 hI
      generalize hx : l[k] = x at *
      have hx' := Lib.hid hx
      clear hx
      unfold IntV at hu
      subst hu
      by_cases hneg : vof vl x = -1
      · have hfin : conflict N cs l = true := conflict_stop (by rw [HA.out, HD.out]; exact assume_stop (by omega))
        have HFin := Lib.hid hfin
        have HNeg := Lib.hid hneg
        clear hfin hneg
        go_wp2_with fail
        go_still_tail 5, (by kernel_rfl)
        change wpList _ _ _ _ _ wr.drew
        go_wp2_with fail
        refine (rset_any _ _ hVd (by omega) (by omega) (by omega)).mono ?_
        rintro e w2 (⟨_, rfl, hb2⟩ | ⟨hne, _⟩)
        · go_wp2_with fail
          go_ret
          exact ⟨ret_bool HFin.out.symm, (hId.next hb2).below⟩
        · exact absurd HNeg.out hne
      · have HA' : Hid (assume l (List.replicate (N + 1) 0) = assume (l.drop (k + 1)) (vset vl x)) := Lib.hid (HA.out.trans (by rw [HD.out]; exact assume_step (by omega)))
        have HNeg := Lib.hid hneg
        clear hneg
        go_wp2_with fail
        go_still_tail 5, (by kernel_rfl)
        change wpList _ _ _ _ _ wr.drew
        go_wp2_with fail
        refine (rset_any _ _ hVd (by omega) (by omega) (by omega)).mono ?_
        rintro e w2 (⟨heq, _⟩ | ⟨_, rfl, hV2, hg2⟩)
        · exact absurd heq HNeg.out
        · go_wp2_with fail
          go_roundg (l.length - (k + 1))
          case measure => omega
          case rel => exact ⟨k + 1, _, rfl, by omega, by go_num, hId.set hV2 hg2, HA'⟩
    · obtain rfl : k = l.length := by omega
      have hgo : conflict N cs l = prop (N + 2) cs vl := conflict_go (by rw [HA.out, List.drop_length, assume])
      have HG := Lib.hid hgo
      have hzr : zeros vl < N + 2 := by
        have h1 := List.length_filter_le (· == (0 : Int)) vl
        have h2 := hI.vals.len
        unfold zeros; omega
      clear hgo HA HF HFL
      go_wp2_with fail
      go_loopg [9] (N + 2) (fun gh c wr => ∃ vl, RInv w wr w.heap.size S (N + 1) vl ∧ ((c = .bool true ∧ Hid (conflict N cs l = prop gh cs vl) ∧ zeros vl < gh) ∨ (c = .bool false ∧ Hid (conflict N cs l = false))))
      case atStart => exact ⟨vl, hI, .inl ⟨rfl, HG, hzr⟩⟩
      case round =>
        clear HG hzr hI
        obtain ⟨v2, hI, hcase⟩ := hrel
        rcases hcase with ⟨rfl, HR, hz⟩ | ⟨rfl, HR⟩
        · obtain ⟨g', rfl⟩ : ∃ g', gk = g' + 1 := ⟨gk - 1, by omega⟩
          have hst0 := hI.vals.len
          go_wp2_with fail
          go_loopg [9, 10] cs.length (fun gh c i wr => ∃ (k : Nat) (v3 : List Int) (ch : Bool), gh = cs.length - k ∧ k ≤ cs.length ∧ i = .int .i64 k ∧ c = .bool ch ∧ RInv w wr w.heap.size S (N + 1) v3 ∧ Hid (pass cs v2 false = pass (cs.drop k) v3 ch))
          case atStart => exact ⟨0, v2, false, by omega, by omega, rfl, rfl, hI, Lib.hid rfl⟩
          case round =>
            clear hI
            obtain ⟨k, v3, ch, rfl, hk, rfl, rfl, hI, HP⟩ := hrel
            by_cases hlt : k < cs.length
            · obtain ⟨b, off, u, rfl, hbl, hcell0, hu⟩ := HC.out k hlt
              have hcell := (hI.below.cell (p := ⟨b, off + k, none⟩) hbl).trans hcell0
              have hst := hI.cell
              have hL := HCL.out _ (List.getElem_mem hlt)
              have HD := Lib.hid (drop_cons cs k hlt)
              have hId := hI.drew
              have HUK0 : ∀ w', RInv w w' w.heap.size S (N + 1) v3 → RdL (IntV .i64) w' u cs[k] := fun w' h => hu.below (mono_int _) h.below
              have HCK : Hid (∀ w', RInv w w' w.heap.size S (N + 1) v3 → w'.cell? ⟨b, off + k, none⟩ = some u) := Lib.hid (fun w' h => (h.below.cell (p := ⟨b, off + k, none⟩) hbl).trans hcell0)
              clear hcell0
              generalize hx : cs[k] = c at *
              have HX := Lib.hid hx
              have HL := Lib.hid hL
              have HUK := Lib.hid HUK0
              clear hx hL hu HUK0 hId
              cases hsc : scan v3 c 0 with
              | none =>
                have hstep : Hid (pass cs v2 false = pass (cs.drop (k + 1)) v3 ch) := Lib.hid (HP.out.trans (by rw [HD.out]; exact pass_skip hsc))
                have hun : unitS v3 c = (0, true) := by unfold unitS; rw [hsc]
                have HUN := Lib.hid hun
                clear hsc hun
                go_wp2_with fail
                go_region_held3 (fun w' => RInv w w' w.heap.size S (N + 1) v3 ∧ w'.cell? ⟨S, 0, none⟩ = some (.slice (some ⟨w.heap.size, 0, none⟩) (N + 1) (N + 1)) ∧ w'.cell? ⟨b, off + k, none⟩ = some u) (refine ⟨?_, ?_, ?_⟩ <;> first | assumption | exact RInv.drew (by assumption) | exact RInv.cell (vl := v3) (by first | assumption | exact RInv.drew (by assumption)) | exact HCK.out _ (by first | assumption | exact RInv.drew (by assumption)) | exact RInv.next (And.left (by assumption)) (by assumption) | exact RInv.cell (RInv.next (And.left (by assumption)) (by assumption)) | exact HCK.out _ (RInv.next (And.left (by assumption)) (by assumption))) (first | (go_at_call 67; refine (runit_any c _ _ (RInv.vals (show RInv w _ w.heap.size S (N + 1) v3 from by first | assumption | exact RInv.drew (by assumption) | exact And.left (by assumption))) (HUK.out _ (show RInv w _ w.heap.size S (N + 1) v3 from by first | assumption | exact RInv.drew (by assumption) | exact And.left (by assumption))) HL.out (by omega)).mono ?_; rw [HUN.out]; rintro e w2 ⟨rfl, hb2⟩; have hI2 := RInv.next (show RInv w _ w.heap.size S (N + 1) v3 from by first | assumption | exact RInv.drew (by assumption) | exact And.left (by assumption)) hb2))
                go_wp2_with fail
                go_roundg (cs.length - (k + 1))
                case measure => omega
                case rel => exact ⟨k + 1, v3, ch, rfl, by omega, by go_num, rfl, hI2, hstep⟩
              | some un =>
                by_cases hun0 : un = 0
                · subst hun0
                  have hfin : conflict N cs l = true := HR.out.trans (by simp only [prop]; rw [HP.out, HD.out, pass_stop hsc])
                  have HFn := Lib.hid hfin
                  have hun : unitS v3 c = (0, false) := by unfold unitS; rw [hsc]; rfl
                  have HUN := Lib.hid hun
                  clear hsc hun hfin
                  go_wp2_with fail
                  go_region_held3 (fun w' => RInv w w' w.heap.size S (N + 1) v3 ∧ w'.cell? ⟨S, 0, none⟩ = some (.slice (some ⟨w.heap.size, 0, none⟩) (N + 1) (N + 1)) ∧ w'.cell? ⟨b, off + k, none⟩ = some u) (refine ⟨?_, ?_, ?_⟩ <;> first | assumption | exact RInv.drew (by assumption) | exact RInv.cell (vl := v3) (by first | assumption | exact RInv.drew (by assumption)) | exact HCK.out _ (by first | assumption | exact RInv.drew (by assumption)) | exact RInv.next (And.left (by assumption)) (by assumption) | exact RInv.cell (RInv.next (And.left (by assumption)) (by assumption)) | exact HCK.out _ (RInv.next (And.left (by assumption)) (by assumption))) (first | (go_at_call 67; refine (runit_any c _ _ (RInv.vals (show RInv w _ w.heap.size S (N + 1) v3 from by first | assumption | exact RInv.drew (by assumption) | exact And.left (by assumption))) (HUK.out _ (show RInv w _ w.heap.size S (N + 1) v3 from by first | assumption | exact RInv.drew (by assumption) | exact And.left (by assumption))) HL.out (by omega)).mono ?_; rw [HUN.out]; rintro e w2 ⟨rfl, hb2⟩; have hI2 := RInv.next (show RInv w _ w.heap.size S (N + 1) v3 from by first | assumption | exact RInv.drew (by assumption) | exact And.left (by assumption)) hb2))
                  go_wp2_with fail
                  go_ret
                  exact ⟨ret_bool HFn.out.symm, RInv.below (show RInv w _ w.heap.size S (N + 1) v3 from by first | assumption | exact RInv.drew (by assumption) | exact And.left (by assumption))⟩
                · have hz := (scan_zero c 0 un hsc (.inl rfl)).resolve_left hun0
                  have hm : un ∈ c := hz.2.resolve_left hun0
                  have hn := HL.out _ hm
                  have hstep : Hid (pass cs v2 false = pass (cs.drop (k + 1)) (vset v3 un) true) := Lib.hid (HP.out.trans (by rw [HD.out]; exact pass_set hsc hun0))
                  have hunb : (un != 0) = true := by simpa using hun0
                  have hun : unitS v3 c = (un, true) := by unfold unitS; rw [hsc]; simp [hunb]
                  have HUN := Lib.hid hun
                  have HZ := Lib.hid hz.1
                  clear hsc hun hz hm hun0
                  go_wp2_with fail
                  go_region_held3 (fun w' => RInv w w' w.heap.size S (N + 1) v3 ∧ w'.cell? ⟨S, 0, none⟩ = some (.slice (some ⟨w.heap.size, 0, none⟩) (N + 1) (N + 1)) ∧ w'.cell? ⟨b, off + k, none⟩ = some u) (refine ⟨?_, ?_, ?_⟩ <;> first | assumption | exact RInv.drew (by assumption) | exact RInv.cell (vl := v3) (by first | assumption | exact RInv.drew (by assumption)) | exact HCK.out _ (by first | assumption | exact RInv.drew (by assumption)) | exact RInv.next (And.left (by assumption)) (by assumption) | exact RInv.cell (RInv.next (And.left (by assumption)) (by assumption)) | exact HCK.out _ (RInv.next (And.left (by assumption)) (by assumption))) (first | (go_at_call 67; refine (runit_any c _ _ (RInv.vals (show RInv w _ w.heap.size S (N + 1) v3 from by first | assumption | exact RInv.drew (by assumption) | exact And.left (by assumption))) (HUK.out _ (show RInv w _ w.heap.size S (N + 1) v3 from by first | assumption | exact RInv.drew (by assumption) | exact And.left (by assumption))) HL.out (by omega)).mono ?_; rw [HUN.out]; rintro e w2 ⟨rfl, hb2⟩; have hI2 := RInv.next (show RInv w _ w.heap.size S (N + 1) v3 from by first | assumption | exact RInv.drew (by assumption) | exact And.left (by assumption)) hb2))
                  have hst2 := hI2.cell
                  go_wp2_with fail
                  refine (rset_any _ _ hI2.vals (by omega) (by omega) (by omega)).mono ?_
                  rintro e w3 (⟨heq, _⟩ | ⟨_, rfl, hV3, hg3⟩)
                  · exact absurd heq (by rw [HZ.out]; decide)
                  · go_wp2_with fail
                    go_roundg (cs.length - (k + 1))
                    case measure => omega
                    case rel => exact ⟨k + 1, vset v3 un, true, rfl, by omega, by go_num, rfl, hI2.set hV3 hg3, hstep⟩
            · obtain rfl : k = cs.length := by omega
              have hp : pass cs v2 false = some (v3, ch) := HP.out.trans (by rw [List.drop_length, pass])
              have hzz := pass_zeros cs v2 false v3 ch hst0 HCL.out hp
              have hR : conflict N cs l = if ch then prop g' cs v3 else false := HR.out.trans (by simp only [prop]; rw [hp])
              have HRR := Lib.hid hR
              clear hp hR HR HP
              cases ch
              · go_wp2_with fail
                go_roundg 0
                case measure => omega
                case rel => exact ⟨v3, hI, .inr ⟨rfl, HRR⟩⟩
              · have hlt2 := hzz.2 rfl rfl
                go_wp2_with fail
                go_roundg g'
                case measure => omega
                case rel => exact ⟨v3, hI, .inl ⟨rfl, HRR, by omega⟩⟩
        · go_wp2_with fail
          go_ret
          exact ⟨ret_bool HR.out.symm, hI.below⟩
end Go.Proofs.Ythagkljenbhbdaa
