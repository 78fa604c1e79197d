/-
  The walks of package rup's propagation: values.of, values.set, conflict return what RSpec says; nothing that was in memory before the call is changed. Conditions: the literals are of the variables.
-/
import Derived.Test.YthagkljenbhbdaaProg
import Derived.Test.YthagkljenbhbdaaRd
import Derived.Test.YthagkljenbhbdaaRSpec
import Derived.Deep.LoopGhost
namespace Go.Proofs.Ythagkljenbhbdaa
open Go Go.RowKit

def i8s (l : List Int) : List Value := l.map (Value.int .i8)
theorem i8s_len (l : List Int) : (i8s l).length = l.length := by simp [i8s]
theorem i8s_set (l : List Int) (j : Nat) (x : Int) : i8s (l.set j x) = (i8s l).set j (.int .i8 x) := by simp [i8s]
/-- The truth values in memory: n of them. -/
structure Vals (w : World) (base g n cap : Nat) (l : List Int) : Prop where
  len : l.length = n
  row : w.ownsRow base 79 1 (.slice (some ⟨g, 0, none⟩) n cap) n (i8s l)
  tv : TV l
theorem Vals.cell {w : World} {base g n cap : Nat} {l : List Int} (h : Vals w base g n cap l) (j : Nat) (hj : j < l.length) : w.cell? ⟨g, j, none⟩ = some (.int .i8 l[j]) := by
  have := h.len
  rw [World.ownsRow.cellAt h.row j (by omega)]; simp [i8s, hj]
theorem Vals.base_le {w : World} {base g n cap : Nat} {l : List Int} (h : Vals w base g n cap l) : base ≤ g := (World.ownsRow.lt h.row g rfl).1
theorem Vals.set {w : World} {base g n cap : Nat} {l : List Int} (h : Vals w base g n cap l) (m : Int) (j : Nat) (x : Int) (hj : vset l m = l.set j x) :
    Vals (w.setCell ⟨g, j, none⟩ (.int .i8 x)) base g n cap (vset l m) ∧ Below base w (w.setCell ⟨g, j, none⟩ (.int .i8 x)) := by
  have hs := World.ownsRow.stored h.row j (.int .i8 x)
  have hb := h.base_le
  refine ⟨⟨by rw [vset_len]; exact h.len, ?_, h.tv.set m⟩, (Below.refl base w).setCell (p := ⟨g, j, none⟩) hb _⟩
  rw [hj, i8s_set]
  exact hs.1

theorem of_any {base g n cap : Nat} {l : List Int} (m : Int) (w : World) (h : Vals w base g n cap l) (h1 : -(n : Int) < m) (h2 : m < n) (hmax : n ≤ 1000000) :
    Calls Try.prog 68 #[.slice (some ⟨g, 0, none⟩) n cap, .int .i64 m] w fun e w' => e = .returned (.int .i8 (vof l m)) ∧ w = w' := by
  have hlen := h.len
  have hT := h.tv
  by_cases hn : m < 0
  · obtain ⟨j, hj⟩ : ∃ j : Nat, (j : Int) = -m := ⟨(-m).toNat, by omega⟩
    obtain rfl : m = -j := by omega
    have hjl : j < l.length := by omega
    have hjn : j < n := by omega
    have hc := h.cell j hjl
    have hb := hT.get j hjl
    have e : vof l (-(j : Int)) = -l[j] := by unfold vof; rw [if_pos hn]; simp [hjl]
    rw [e]
    generalize l[j] = x at *
    clear e hT h hj hlen hjl
    go_enter Try.func68, Try.ntmps68
    go_wp2
    go_ret
    exact ⟨rfl, rfl⟩
  · obtain ⟨j, rfl⟩ := Int.eq_ofNat_of_zero_le (show 0 ≤ m by omega)
    have hjl : j < l.length := by omega
    have hjn : j < n := by omega
    have hc := h.cell j hjl
    have e : vof l (j : Int) = l[j] := by unfold vof; rw [if_neg hn]; simp [hjl]
    rw [e]
    generalize l[j] = x at *
    clear e hT h hlen hjl
    go_enter Try.func68, Try.ntmps68
    go_wp2
    go_ret
    exact ⟨rfl, rfl⟩
theorem set_any {base g n cap : Nat} {l : List Int} (m : Int) (w : World) (h : Vals w base g n cap l) (h1 : -(n : Int) < m) (h2 : m < n) (hmax : n ≤ 1000000) :
    Calls Try.prog 69 #[.slice (some ⟨g, 0, none⟩) n cap, .int .i64 m] w fun e w' => e = .returned (.tuple #[]) ∧ Vals w' base g n cap (vset l m) ∧ Below base w w' := by
  have hlen := h.len
  by_cases hn : m < 0
  · obtain ⟨j, hj⟩ : ∃ j : Nat, (j : Int) = -m := ⟨(-m).toNat, by omega⟩
    obtain rfl : m = -j := by omega
    have hjl : j < l.length := by omega
    have hjn : j < n := by omega
    have hc := h.cell j hjl
    have hf := World.ownsRow.frozenAt h.row j
    have hs := h.set (-(j : Int)) j (-1) (by unfold vset; rw [if_pos hn]; simp)
    have HS := Lib.hid hs
    generalize l[j] = x0 at hc
    clear hs h hj hlen hjl
    go_enter Try.func69, Try.ntmps69
    go_wp2
    refine bodyPost_ret (results_none rfl _ _ _) rfl ?_
    exact ⟨rfl, HS.out⟩
  · obtain ⟨j, rfl⟩ := Int.eq_ofNat_of_zero_le (show 0 ≤ m by omega)
    have hjl : j < l.length := by omega
    have hjn : j < n := by omega
    have hc := h.cell j hjl
    have hf := World.ownsRow.frozenAt h.row j
    have hs := h.set (j : Int) j 1 (by unfold vset; rw [if_neg hn]; simp)
    have HS := Lib.hid hs
    generalize l[j] = x0 at hc
    clear hs h hlen hjl
    go_enter Try.func69, Try.ntmps69
    go_wp2
    go_end0
    exact ⟨rfl, HS.out⟩

theorem elemI8 : ElemT Try.prog 91 79 (.int .i8 0) 1 := ⟨Try.underlying91, by kernel_rfl, rfl⟩
/-- Literals of N - 1 variables. -/
def Lits (N : Nat) (l : List Int) : Prop := ∀ n ∈ l, -(N : Int) < n ∧ n < N
def LitsAll (N : Nat) (cs : List (List Int)) : Prop := ∀ c ∈ cs, Lits N c
theorem assume_step {n : Int} {l v : List Int} (h : ¬ vof v n < 0) : assume (n :: l) v = assume l (vset v n) := by simp only [assume]; rw [if_neg h]
theorem assume_stop {n : Int} {l v : List Int} (h : vof v n < 0) : assume (n :: l) v = none := by simp only [assume]; rw [if_pos h]
theorem drop_cons {α : Type} (l : List α) (k : Nat) (h : k < l.length) : l.drop k = l[k] :: l.drop (k + 1) := (List.getElem_cons_drop h).symm
theorem conflict_stop {N : Nat} {cs : List (List Int)} {l : List Int} (h : assume l (List.replicate (N + 1) 0) = none) : conflict N cs l = true := by unfold conflict; rw [h]
theorem conflict_go {N : Nat} {cs : List (List Int)} {l v : List Int} (h : assume l (List.replicate (N + 1) 0) = some v) : conflict N cs l = prop (N + 2) cs v := by unfold conflict; rw [h]

/-- How many truth values are not known. -/
def zeros (v : List Int) : Nat := (v.filter (· == 0)).length
theorem zeros_cons (a : Int) (v : List Int) : zeros (a :: v) = zeros v + if a = 0 then 1 else 0 := by
  unfold zeros
  rw [List.filter_cons]
  by_cases h : a = 0
  · subst h; simp
  · rw [if_neg (by simpa using h), if_neg h]; rfl
theorem zeros_set {v : List Int} {j : Nat} {x : Int} (h : v[j]? = some 0) (hx : x ≠ 0) : zeros (v.set j x) + 1 = zeros v := by
  induction v generalizing j with
  | nil => simp at h
  | cons a v ih =>
    cases j with
    | zero =>
      have ha : a = 0 := by simpa using h
      rw [List.set_cons_zero, zeros_cons, zeros_cons, if_neg hx, if_pos ha]
    | succ j =>
      have := ih (j := j) (by simpa using h)
      rw [List.set_cons_succ, zeros_cons, zeros_cons]
      omega
theorem vset_zeros {v : List Int} {n : Int} (h : vof v n = 0) (h1 : -(v.length : Int) < n) (h2 : n < v.length) : zeros (vset v n) + 1 = zeros v := by
  unfold vof at h
  unfold vset
  split
  · rename_i hn
    rw [if_pos hn] at h
    have hl : (-n).toNat < v.length := by omega
    refine zeros_set ?_ (by decide)
    rw [List.getD_eq_getElem?_getD, List.getElem?_eq_getElem hl] at h
    rw [List.getElem?_eq_getElem hl]
    simp at h ⊢; omega
  · rename_i hn
    rw [if_neg hn] at h
    have hl : n.toNat < v.length := by omega
    refine zeros_set ?_ (by decide)
    rw [List.getD_eq_getElem?_getD, List.getElem?_eq_getElem hl] at h
    rw [List.getElem?_eq_getElem hl]
    simpa using h
theorem scan_zero {v : List Int} : ∀ (c : List Int) (u r : Int), scan v c u = some r → (u = 0 ∨ (vof v u = 0 ∧ u ≠ 0)) → r = 0 ∨ (vof v r = 0 ∧ (r = u ∨ r ∈ c))
  | [], u, r, h, hu => by
    simp only [scan, Option.some.injEq] at h; subst h
    rcases hu with hu | hu
    · exact .inl hu
    · exact .inr ⟨hu.1, .inl rfl⟩
  | n :: c, u, r, h, hu => by
    simp only [scan] at h
    split at h
    · cases h
    · rename_i hn
      by_cases hz : vof v n = 0
      · rw [if_pos hz] at h
        have ih := scan_zero c n r h (by by_cases h0 : n = 0; exact .inl h0; exact .inr ⟨hz, h0⟩)
        rcases ih with ih | ⟨ih, rfl | hm⟩
        · exact .inl ih
        · exact .inr ⟨ih, .inr (List.mem_cons_self ..)⟩
        · exact .inr ⟨ih, .inr (List.mem_cons_of_mem _ hm)⟩
      · rw [if_neg hz] at h
        rcases scan_zero c u r h hu with ih | ⟨ih, rfl | hm⟩
        · exact .inl ih
        · exact .inr ⟨ih, .inl rfl⟩
        · exact .inr ⟨ih, .inr (List.mem_cons_of_mem _ hm)⟩
theorem pass_zeros {N : Nat} : ∀ (cs : List (List Int)) (v : List Int) (ch : Bool) (v' : List Int) (ch' : Bool), v.length = N → LitsAll N cs → pass cs v ch = some (v', ch') →
    (zeros v' ≤ zeros v) ∧ (ch = false → ch' = true → zeros v' < zeros v)
  | [], v, ch, v', ch', _, _, h => by
    simp only [pass, Option.some.injEq, Prod.mk.injEq] at h
    obtain ⟨rfl, rfl⟩ := h
    exact ⟨Nat.le_refl _, fun h1 h2 => by rw [h1] at h2; cases h2⟩
  | c :: cs, v, ch, v', ch', hN, hL, h => by
    have hL' : LitsAll N cs := fun d hd => hL d (List.mem_cons_of_mem _ hd)
    simp only [pass] at h
    split at h
    · exact pass_zeros cs v ch v' ch' hN hL' h
    · rename_i u hu
      split at h
      · cases h
      · rename_i hne
        have hz := (scan_zero c 0 u hu (.inl rfl)).resolve_left hne
        have hm : u ∈ c := hz.2.resolve_left hne
        have hb := hL c (List.mem_cons_self ..) u hm
        have := vset_zeros hz.1 (by rw [hN]; exact hb.1) (by rw [hN]; exact hb.2)
        have ih := pass_zeros cs (vset v u) true v' ch' (by rw [vset_len]; exact hN) hL' h
        exact ⟨by omega, fun _ _ => by omega⟩

theorem scan_skip {v : List Int} {n u : Int} {c : List Int} (h : 0 < vof v n ∨ (vof v n = 0 ∧ u ≠ 0 ∧ u ≠ n)) : scan v (n :: c) u = none := by simp only [scan]; rw [if_pos h]
theorem scan_unit {v : List Int} {n u : Int} {c : List Int} (h : vof v n = 0) (hu : u = 0 ∨ u = n) : scan v (n :: c) u = scan v c n := by
  simp only [scan]
  rw [if_neg (by rintro (h' | h'); omega; rcases hu with hu | hu; exact h'.2.1 hu; exact h'.2.2 hu), if_pos h]
theorem scan_next {v : List Int} {n u : Int} {c : List Int} (h : vof v n < 0) : scan v (n :: c) u = scan v c u := by
  simp only [scan]
  rw [if_neg (by omega), if_neg (by omega)]
theorem pass_skip {v : List Int} {c : List Int} {cs : List (List Int)} {ch : Bool} (h : scan v c 0 = none) : pass (c :: cs) v ch = pass cs v ch := by simp only [pass, h]
theorem pass_stop {v : List Int} {c : List Int} {cs : List (List Int)} {ch : Bool} (h : scan v c 0 = some 0) : pass (c :: cs) v ch = none := by simp [pass, h]
theorem pass_set {v : List Int} {c : List Int} {cs : List (List Int)} {ch : Bool} {u : Int} (h : scan v c 0 = some u) (hu : u ≠ 0) : pass (c :: cs) v ch = pass cs (vset v u) true := by simp [pass, h, hu]

set_option maxRecDepth 100000 in
set_option maxHeartbeats 1000000 in
theorem conflict_any (N : Nat) (cs : List (List Int)) (l : List Int) (vc vf : Value) (w : World) (hc : RdL (RdL (IntV .i64)) w vc cs) (hf : RdL (IntV .i64) w vf l)
    (hN : N ≤ 100000) (hcl : LitsAll (N + 1) cs) (hfl : Lits (N + 1) l) :
    Calls Try.prog 49 #[.int .i64 N, vc, vf] w fun e w' => e = .returned (.bool (conflict N cs l)) ∧ Below w.heap.size w w' := by
  obtain ⟨af, capf, rfl, hf1, hf2, hf3⟩ := hf
  obtain ⟨ac, capc, rfl, hc1, hc2, hc3⟩ := hc
  have hcm : cs.length ≤ 9223372036854775807 := by unfold maxLen at hc2; omega
  have hlm : l.length ≤ 9223372036854775807 := by unfold maxLen at hf2; omega
  have HC := Lib.hid hc3
  have HF := Lib.hid hf3
  have HCL := Lib.hid hcl
  have HFL := Lib.hid hfl
  clear hc1 hc2 hc3 hf3 hcl hfl hf1 hf2
  go_enter Try.func49, Try.ntmps49
  go_wp2_with (at_make; refine wpList_makeN elemI8 rfl _ _ rfl w.heap.size _ _ _ _ (N + 1) rfl rfl (by omega) (by omega) (by omega) (by unfold maxLen; omega) (Nat.le_refl _) ?_; intro w1 hown hb1)
  have hV1 : Vals w1 w.heap.size w.heap.size (N + 1) (N + 1) (List.replicate (N + 1) 0) := ⟨by simp, by simpa [OwnS, i8s] using hown, TV.zeros _⟩
  clear hown
  go_loopg [9, 22] l.length (fun gh n i wr => ∃ (k : Nat) (vl : List Int), gh = l.length - k ∧ k ≤ l.length ∧ i = .int .i64 k ∧ Vals wr w.heap.size w.heap.size (N + 1) (N + 1) vl ∧ Below w.heap.size w wr ∧ Hid (assume l (List.replicate (N + 1) 0) = assume (l.drop k) vl))
  case atStart => exact ⟨0, _, by omega, by omega, rfl, hV1, hb1, Lib.hid rfl⟩
  case round =>
    obtain ⟨k, vl, rfl, hk, rfl, hV, hb, HA⟩ := hrel
    clear hV1 hb1
    by_cases hlt : k < l.length
    · obtain ⟨b, off, u, rfl, hbl, hcell0, hu⟩ := HF.out k hlt
      have hcell := (hb.cell (p := ⟨b, off + k, none⟩) hbl).trans hcell0
      have hn := HFL.out _ (List.getElem_mem hlt)
      have HD := Lib.hid (drop_cons l k hlt)
      clear hcell0
      generalize hx : l[k] = x at *
      have hx' := Lib.hid hx
      clear hx
      unfold IntV at hu
      subst hu
      by_cases hneg : vof vl x < 0
      · have hfin : conflict N cs l = true := conflict_stop (by rw [HA.out, HD.out]; exact assume_stop hneg)
        have HFin := Lib.hid hfin
        clear hfin
        go_wp2_with (go_at_call 68; refine (of_any _ _ (by assumption) (by omega) (by omega) (by omega)).mono ?_; rintro e w' ⟨rfl, rfl⟩)
        go_ret
        exact ⟨ret_bool HFin.out.symm, hb⟩
      · have HA' : Hid (assume l (List.replicate (N + 1) 0) = assume (l.drop (k + 1)) (vset vl x)) := Lib.hid (HA.out.trans (by rw [HD.out]; exact assume_step hneg))
        go_wp2_with (first | (go_at_call 68; refine (of_any _ _ (by assumption) (by omega) (by omega) (by omega)).mono ?_; rintro e w' ⟨rfl, rfl⟩) | (go_at_call 69; refine (set_any _ _ (by assumption) (by omega) (by omega) (by omega)).mono ?_; rintro e w2 ⟨rfl, hV2, hb2⟩))
        go_roundg (l.length - (k + 1))
        case measure => omega
        case rel => exact ⟨k + 1, _, rfl, by omega, by go_num, hV2, hb.trans hb2, HA'⟩
    · obtain rfl : k = l.length := by omega
      have hgo : conflict N cs l = prop (N + 2) cs vl := conflict_go (by rw [HA.out, List.drop_length, assume])
      have HG := Lib.hid hgo
      clear hgo HA HF HFL
      have hzr : zeros vl < N + 2 := by
        have h1 := List.length_filter_le (· == (0 : Int)) vl
        have h2 := hV.len
        unfold zeros; omega
      go_wp2_with fail
      go_loopg [10] (N + 2) (fun gh c wr => ∃ vl, Vals wr w.heap.size w.heap.size (N + 1) (N + 1) vl ∧ Below w.heap.size w wr ∧ ((c = .bool true ∧ Hid (conflict N cs l = prop gh cs vl) ∧ zeros vl < gh) ∨ (c = .bool false ∧ Hid (conflict N cs l = false))))
      case atStart => exact ⟨vl, hV, hb, .inl ⟨rfl, HG, hzr⟩⟩
      case round =>
        clear HG hzr hV hb
        obtain ⟨v2, hV, hb, hcase⟩ := hrel
        rcases hcase with ⟨rfl, HR, hz⟩ | ⟨rfl, HR⟩
        · obtain ⟨g', rfl⟩ : ∃ g', gk = g' + 1 := ⟨gk - 1, by omega⟩
          go_wp2_with fail
          go_step3
          go_wp2_with fail
          go_step3
          go_wp2_with fail
          have hst := hV.len
          go_loopg [10, 37] cs.length (fun gh c i wr => ∃ (k : Nat) (v3 : List Int) (ch : Bool), gh = cs.length - k ∧ k ≤ cs.length ∧ i = .int .i64 k ∧ c = .bool ch ∧ Vals wr w.heap.size w.heap.size (N + 1) (N + 1) v3 ∧ Below w.heap.size w wr ∧ Hid (pass cs v2 false = pass (cs.drop k) v3 ch))
          case atStart => exact ⟨0, v2, false, by omega, by omega, rfl, rfl, hV, hb, Lib.hid rfl⟩
          case round =>
            clear hV hb
            obtain ⟨k, v3, ch, rfl, hk, rfl, rfl, hV, hb, HP⟩ := hrel
            by_cases hlt : k < cs.length
            · obtain ⟨b, off, u, rfl, hbl, hcell0, hu⟩ := HC.out k hlt
              have hcell := (hb.cell (p := ⟨b, off + k, none⟩) hbl).trans hcell0
              have hL := HCL.out _ (List.getElem_mem hlt)
              have HD := Lib.hid (drop_cons cs k hlt)
              clear hcell0
              generalize hx : cs[k] = c at *
              have HX := Lib.hid hx
              have HL := Lib.hid hL
              clear hx hL
              obtain ⟨au, capu, rfl, hu1, hu2, hu3⟩ := hu
              have hum : c.length ≤ 9223372036854775807 := by unfold maxLen at hu2; omega
              have HU := Lib.hid hu3
              clear hu3 hu1 hu2
              obtain ⟨wo, rfl⟩ : ∃ wo : World, wo = wr := ⟨_, rfl⟩
              go_wp2_with fail
              go_loopg [13, 43] c.length (fun gh x i wr => ∃ (j : Nat) (un : Int), gh = c.length - j ∧ j ≤ c.length ∧ i = .int .i64 j ∧ x = .int .i64 un ∧ wr = wo ∧ Hid (scan v3 c 0 = scan v3 (c.drop j) un))
              case atStart => exact ⟨0, 0, by omega, by omega, rfl, rfl, rfl, Lib.hid rfl⟩
              case round =>
                obtain ⟨j, un, rfl, hj, rfl, rfl, rfl, HS⟩ := hrel
                by_cases hjt : j < c.length
                · obtain ⟨b2, off2, y, rfl, hbl2, hcell2, hy⟩ := HU.out j hjt
                  have hcell3 := (hb.cell (p := ⟨b2, off2 + j, none⟩) hbl2).trans hcell2
                  have hn := HL.out _ (List.getElem_mem hjt)
                  have HE := Lib.hid (drop_cons c j hjt)
                  clear hcell2
                  generalize hx : c[j] = n at *
                  have HX2 := Lib.hid hx
                  clear hx
                  unfold IntV at hy
                  subst hy
                  have hrng := hV.tv
                  go_wp2_with (go_at_call 68; refine (of_any _ _ (by assumption) (by omega) (by omega) (by omega)).mono ?_; rintro e w' ⟨rfl, rfl⟩)
                  all_goals first
                    | (have h1 : 0 < vof v3 n := by assumption
                       go_roundg (cs.length - (k + 1))
                       case measure => omega
                       case rel => exact ⟨k + 1, v3, ch, rfl, by omega, by go_num, rfl, hV, hb, Lib.hid (HP.out.trans (by rw [HD.out]; exact pass_skip (HS.out.trans (by rw [HE.out]; exact scan_skip (.inl h1)))))⟩)
                    | (have h1 : vof v3 n = 0 := by assumption
                       have h2 : (un != 0) = true ∧ (un != n) = true := by assumption
                       go_roundg (cs.length - (k + 1))
                       case measure => omega
                       case rel => exact ⟨k + 1, v3, ch, rfl, by omega, by go_num, rfl, hV, hb, Lib.hid (HP.out.trans (by rw [HD.out]; exact pass_skip (HS.out.trans (by rw [HE.out]; exact scan_skip (.inr ⟨h1, by simpa using h2.1, by simpa using h2.2⟩)))))⟩)
                    | (have h1 : vof v3 n = 0 := by assumption
                       have h2 : un = 0 := by assumption
                       go_roundg (c.length - (j + 1))
                       case measure => omega
                       case rel => exact ⟨j + 1, n, rfl, by omega, by go_num, rfl, rfl, Lib.hid (HS.out.trans (by rw [HE.out]; exact scan_unit h1 (.inl h2)))⟩)
                    | (have h1 : vof v3 n = 0 := by assumption
                       have h2 : (un != 0) = false ∨ (un != n) = false := by assumption
                       go_roundg (c.length - (j + 1))
                       case measure => omega
                       case rel => exact ⟨j + 1, n, rfl, by omega, by go_num, rfl, rfl, Lib.hid (HS.out.trans (by rw [HE.out]; exact scan_unit h1 (h2.imp (by simp) (by simp))))⟩)
                    | (have h1 : vof v3 n ≤ 0 := by assumption
                       have h2 : ¬ vof v3 n = 0 := by assumption
                       go_roundg (c.length - (j + 1))
                       case measure => omega
                       case rel => exact ⟨j + 1, un, rfl, by omega, by go_num, rfl, rfl, Lib.hid (HS.out.trans (by rw [HE.out]; exact scan_next (by omega)))⟩)
                · obtain rfl : j = c.length := by omega
                  have hs : scan v3 c 0 = some un := HS.out.trans (by rw [List.drop_length, scan])
                  by_cases hun : un = 0
                  · subst hun
                    have hfin : conflict N cs l = true := HR.out.trans (by simp only [prop]; rw [HP.out, HD.out, pass_stop hs])
                    have HFn := Lib.hid hfin
                    clear hs hfin
                    go_wp2_with fail
                    rw [Exit.noGoto_ret]
                    go_ret
                    exact ⟨ret_bool HFn.out.symm, hb⟩
                  · have hz := (scan_zero c 0 un hs (.inl rfl)).resolve_left hun
                    have hm : un ∈ c := hz.2.resolve_left hun
                    have hn := HL.out _ hm
                    have HN : Hid (pass cs v2 false = pass (cs.drop (k + 1)) (vset v3 un) true) := Lib.hid (HP.out.trans (by rw [HD.out]; exact pass_set hs hun))
                    have hunb : (un == 0) = false := by simpa using hun
                    clear hs hz hm hun
                    go_wp2_with (go_at_call 69; refine (set_any _ _ (by assumption) (by omega) (by omega) (by omega)).mono ?_; rintro e w2 ⟨rfl, hV2, hb2⟩)
                    go_roundg (cs.length - (k + 1))
                    case measure => omega
                    case rel => exact ⟨k + 1, vset v3 un, true, rfl, by omega, by go_num, rfl, hV2, hb.trans hb2, HN⟩
            · obtain rfl : k = cs.length := by omega
              have hp : pass cs v2 false = some (v3, ch) := HP.out.trans (by rw [List.drop_length, pass])
              have hzz := pass_zeros cs v2 false v3 ch hst HCL.out hp
              have hR : conflict N cs l = if ch then prop g' cs v3 else false := HR.out.trans (by simp only [prop]; rw [hp])
              have HRR := Lib.hid hR
              clear hp hR HR HP
              cases ch
              · go_wp2_with fail
                go_roundg 0
                case measure => omega
                case rel => exact ⟨v3, hV, hb, .inr ⟨rfl, HRR⟩⟩
              · have hlt2 := hzz.2 rfl rfl
                go_wp2_with fail
                go_roundg g'
                case measure => omega
                case rel => exact ⟨v3, hV, hb, .inl ⟨rfl, HRR, by omega⟩⟩
        · go_wp2_with fail
          go_ret
          exact ⟨ret_bool HR.out.symm, hb⟩
end Go.Proofs.Ythagkljenbhbdaa
