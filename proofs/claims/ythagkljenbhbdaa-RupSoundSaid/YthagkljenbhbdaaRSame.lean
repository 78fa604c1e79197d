/-
  The walks of the references' small functions: Around, SameInts, Same. They answer in plain Lean; nothing changes.
-/
import Derived.Test.YthagkljenbhbdaaRRef2
import Derived.BigQuiet
import Derived.WalkSmall
namespace Go.Proofs.Ythagkljenbhbdaa
open Go Go.RowKit

theorem around_any (n : Int) (m : Nat) (w : World) (h1 : -9223372036854775808 ≤ n) (h2 : n ≤ 9223372036854775807) (hm : 0 < m) (hm2 : m ≤ 1000000) :
    Calls Try.prog 22 #[.int .i64 n, .int .i64 m] w fun e w' => (∃ r : Nat, r < m ∧ e = .returned (.int .i64 r)) ∧ w = w' := by
  have hz : ((m : Int) == 0) = false := by rw [beq_eq_false_iff_ne]; omega
  by_cases hn : n < 0
  · have hr := Int.tmod_lt_of_pos (-(n + 1)) (show (0 : Int) < m by omega)
    have hr0 := Int.tmod_nonneg (m : Int) (show 0 ≤ -(n + 1) by omega)
    go_enter Try.func22, Try.ntmps22
    go_wp2
    go_ret
    exact ⟨⟨((-(n + 1)).tmod m).toNat, by omega, ret_int (by rw [Int.toNat_of_nonneg hr0]; first | rw [Int.neg_tmod] | rw [Int.tmod_eq_emod_of_nonneg (by omega)])⟩, rfl⟩
  · have hr := Int.tmod_lt_of_pos n (show (0 : Int) < m by omega)
    have hr0 := Int.tmod_nonneg (m : Int) (show 0 ≤ n by omega)
    go_enter Try.func22, Try.ntmps22
    go_wp2
    go_ret
    exact ⟨⟨(n.tmod m).toNat, by omega, ret_int (by rw [Int.toNat_of_nonneg hr0]; first | rw [Int.neg_tmod] | rw [Int.tmod_eq_emod_of_nonneg (by omega)])⟩, rfl⟩

theorem ne_of_get {α : Type} {xs ys : List α} (j : Nat) (h1 : j < xs.length) (h2 : j < ys.length) (h : xs[j] ≠ ys[j]) : xs ≠ ys := by rintro rfl; exact h rfl
theorem eq_of_get {α : Type} {xs ys : List α} (hl : xs.length = ys.length) (h : ∀ j (_ : j < xs.length) (h1 : j < xs.length) (h2 : j < ys.length), xs[j] = ys[j]) : xs = ys := List.ext_getElem hl fun j a b => h j a a b

set_option maxRecDepth 100000 in
set_option maxHeartbeats 1000000 in
theorem sameInts_any (xs ys : List Int) (v1 v2 : Value) (w : World) (hx : RdL (IntV .i64) w v1 xs) (hy : RdL (IntV .i64) w v2 ys) :
    Calls Try.prog 19 #[v1, v2] w fun e w' => e = .returned (.bool (decide (xs = ys))) ∧ Below w.heap.size w w' := by
  obtain ⟨a, cap, rfl, hx1, hx2, hx3⟩ := hx
  obtain ⟨a2, cap2, rfl, hy1, hy2, hy3⟩ := hy
  have hxm : xs.length ≤ 9223372036854775807 := by unfold maxLen at hx2; omega
  have hym : ys.length ≤ 9223372036854775807 := by unfold maxLen at hy2; omega
  have HX := Lib.hid hx3
  have HY := Lib.hid hy3
  clear hx1 hx2 hx3 hy1 hy2 hy3
  by_cases hl : xs.length = ys.length
  · have hlb : ((xs.length : Int) != (ys.length : Int)) = false := by rw [hl]; simp
    go_enter Try.func19, Try.ntmps19
    go_wp2_with fail
    go_loopg [5] xs.length (fun gh i wr => ∃ k : Nat, gh = xs.length - k ∧ k ≤ xs.length ∧ i = .int .i64 k ∧ Below w.heap.size w wr ∧ Hid (∀ j (_ : j < k) (h1 : j < xs.length) (h2 : j < ys.length), xs[j] = ys[j]))
    case atStart => exact ⟨0, by omega, by omega, rfl, Below.refl _ _, Lib.hid (fun j hj => by omega)⟩
    case round =>
      obtain ⟨k, rfl, hk, rfl, hb, HE⟩ := hrel
      by_cases hlt : k < xs.length
      · have hlt2 : k < ys.length := by omega
        obtain ⟨b, off, u, rfl, hbl, hcell0, hu⟩ := HX.out k hlt
        obtain ⟨b2, off2, u2, rfl, hbl2, hcell20, hu2⟩ := HY.out k hlt2
        have hcell := (hb.cell (p := ⟨b, off + k, none⟩) hbl).trans hcell0
        have hcell2 := (hb.cell (p := ⟨b2, off2 + k, none⟩) hbl2).trans hcell20
        unfold IntV at hu hu2
        subst hu hu2
        clear hcell0 hcell20
        have HG1 := Lib.hid (rfl : xs[k] = xs[k])
        have HG2 := Lib.hid (rfl : ys[k] = ys[k])
        generalize hg1 : xs[k] = n1 at *
        generalize hg2 : ys[k] = n2 at *
        have HN1 := Lib.hid hg1
        have HN2 := Lib.hid hg2
        clear hg1 hg2 hl
        by_cases hne : n1 = n2
        · have hb0 : (n1 != n2) = false := by simpa using hne
          have HH := Lib.hid (hne)
          clear hne
          go_wp2_with (go_quiet (fail))
          go_roundg (xs.length - (k + 1))
          case measure => omega
          case rel =>
            refine ⟨k + 1, rfl, by omega, by go_num, by first | exact hb | exact hb.drew | exact below_drewN hb _, Lib.hid (fun j hj h1 h2 => ?_)⟩
            rcases Nat.lt_or_ge j k with h' | h'
            · exact HE.out j h' h1 h2
            · obtain rfl : j = k := by omega
              rw [HN1.out, HN2.out]; exact HH.out
        · have hb0 : (n1 != n2) = true := by simpa using hne
          have HF : Hid (decide (xs = ys) = false) := Lib.hid (by rw [decide_eq_false_iff_not]; exact ne_of_get k hlt hlt2 (by rw [HN1.out, HN2.out]; exact hne))
          clear hne
          go_wp2_with (go_quiet (fail))
          go_ret
          exact ⟨ret_bool HF.out.symm, by first | exact hb | exact hb.drew | exact below_drewN hb _⟩
      · obtain rfl : k = xs.length := by omega
        have HF : Hid (decide (xs = ys) = true) := Lib.hid (by rw [decide_eq_true_eq]; exact eq_of_get hl HE.out)
        go_wp2_with fail
        go_ret
        exact ⟨ret_bool HF.out.symm, hb⟩
  · have hlb : ((xs.length : Int) != (ys.length : Int)) = true := by simp; omega
    have HF : Hid (decide (xs = ys) = false) := Lib.hid (by rw [decide_eq_false_iff_not]; rintro rfl; exact hl rfl)
    go_enter Try.func19, Try.ntmps19
    go_wp2_with fail
    go_ret
    exact ⟨ret_bool HF.out.symm, Below.refl _ _⟩

set_option maxRecDepth 100000 in
set_option maxHeartbeats 1000000 in
theorem same_any (xs ys : List (List Int)) (v1 v2 : Value) (w : World) (hx : RdL (RdL (IntV .i64)) w v1 xs) (hy : RdL (RdL (IntV .i64)) w v2 ys) :
    Calls Try.prog 20 #[v1, v2] w fun e w' => e = .returned (.bool (decide (xs = ys))) ∧ Below w.heap.size w w' := by
  obtain ⟨a, cap, rfl, hx1, hx2, hx3⟩ := hx
  obtain ⟨a2, cap2, rfl, hy1, hy2, hy3⟩ := hy
  have hxm : xs.length ≤ 9223372036854775807 := by unfold maxLen at hx2; omega
  have hym : ys.length ≤ 9223372036854775807 := by unfold maxLen at hy2; omega
  have HX := Lib.hid hx3
  have HY := Lib.hid hy3
  clear hx1 hx2 hx3 hy1 hy2 hy3
  by_cases hl : xs.length = ys.length
  · have hlb : ((xs.length : Int) != (ys.length : Int)) = false := by rw [hl]; simp
    go_enter Try.func20, Try.ntmps20
    go_wp2_with fail
    go_loopg [5] xs.length (fun gh i wr => ∃ k : Nat, gh = xs.length - k ∧ k ≤ xs.length ∧ i = .int .i64 k ∧ Below w.heap.size w wr ∧ Hid (∀ j (_ : j < k) (h1 : j < xs.length) (h2 : j < ys.length), xs[j] = ys[j]))
    case atStart => exact ⟨0, by omega, by omega, rfl, Below.refl _ _, Lib.hid (fun j hj => by omega)⟩
    case round =>
      obtain ⟨k, rfl, hk, rfl, hb, HE⟩ := hrel
      by_cases hlt : k < xs.length
      · have hlt2 : k < ys.length := by omega
        obtain ⟨b, off, u, rfl, hbl, hcell0, hu⟩ := HX.out k hlt
        obtain ⟨b2, off2, u2, rfl, hbl2, hcell20, hu2⟩ := HY.out k hlt2
        have hcell := (hb.cell (p := ⟨b, off + k, none⟩) hbl).trans hcell0
        have hcell2 := (hb.cell (p := ⟨b2, off2 + k, none⟩) hbl2).trans hcell20
        generalize hg1 : xs[k] = c1 at *
        generalize hg2 : ys[k] = c2 at *
        have HN1 := Lib.hid hg1
        have HN2 := Lib.hid hg2
        have HL := Lib.hid hl
        clear hg1 hg2 hl
        obtain ⟨d, capd, rfl, hu1, hu2', hu3⟩ := hu
        obtain ⟨d2, capd2, rfl, hv1, hv2, hv3⟩ := hu2
        have hum : c1.length ≤ 9223372036854775807 := by unfold maxLen at hu2'; omega
        have hvm : c2.length ≤ 9223372036854775807 := by unfold maxLen at hv2; omega
        have HU := Lib.hid hu3
        have HV := Lib.hid hv3
        have HC1 := Lib.hid hcell0
        have HC2 := Lib.hid hcell20
        clear hu1 hu2' hu3 hv1 hv2 hv3 hcell0 hcell20
        by_cases hne : c1.length = c2.length
        · have hb0 : ((c1.length : Int) != (c2.length : Int)) = false := by rw [hne]; simp
          have HNE := Lib.hid hne
          clear hne
          go_wp2_with (go_quiet (fail))
          have hbq := below_drewN hb nq
          go_loopg [6] c1.length (fun gh i wr => ∃ k : Nat, gh = c1.length - k ∧ k ≤ c1.length ∧ i = .int .i64 k ∧ Below w.heap.size w wr ∧ Hid (∀ j (_ : j < k) (h1 : j < c1.length) (h2 : j < c2.length), c1[j] = c2[j]))
          case atStart => exact ⟨0, by omega, by omega, rfl, hbq, Lib.hid (fun j hj => by omega)⟩
          case round =>
            clear hbq hcell hcell2 hb
            obtain ⟨j, rfl, hj, rfl, hb, HE2⟩ := hrel
            have hcell := (hb.cell (p := ⟨b, off + k, none⟩) hbl).trans HC1.out
            have hcell2 := (hb.cell (p := ⟨b2, off2 + k, none⟩) hbl2).trans HC2.out
            by_cases hjt : j < c1.length
            · have hjt2 : j < c2.length := by have := HNE.out; omega
              obtain ⟨b3, off3, u3, rfl, hbl3, hcell30, hu3⟩ := HU.out j hjt
              obtain ⟨b4, off4, u4, rfl, hbl4, hcell40, hu4⟩ := HV.out j hjt2
              have hcell3 := (hb.cell (p := ⟨b3, off3 + j, none⟩) hbl3).trans hcell30
              have hcell4 := (hb.cell (p := ⟨b4, off4 + j, none⟩) hbl4).trans hcell40
              unfold IntV at hu3 hu4
              subst hu3 hu4
              clear hcell30 hcell40
              generalize hg1 : c1[j] = n1 at *
              generalize hg2 : c2[j] = n2 at *
              have HM1 := Lib.hid hg1
              have HM2 := Lib.hid hg2
              clear hg1 hg2
              by_cases hne : n1 = n2
              · have hb0 : (n1 != n2) = false := by simpa using hne
                have HH := Lib.hid (hne)
                clear hne
                go_wp2_with (go_quiet (fail))
                go_roundg (c1.length - (j + 1))
                case measure => omega
                case rel =>
                  refine ⟨j + 1, rfl, by omega, by go_num, by first | exact hb | exact hb.drew | exact below_drewN hb _, Lib.hid (fun t ht h1 h2 => ?_)⟩
                  rcases Nat.lt_or_ge t j with h' | h'
                  · exact HE2.out t h' h1 h2
                  · obtain rfl : t = j := by omega
                    rw [HM1.out, HM2.out]; exact HH.out
              · have hb0 : (n1 != n2) = true := by simpa using hne
                have HF : Hid (decide (xs = ys) = false) := Lib.hid (by rw [decide_eq_false_iff_not]; exact ne_of_get k hlt hlt2 (by rw [HN1.out, HN2.out]; exact ne_of_get j hjt hjt2 (by rw [HM1.out, HM2.out]; exact hne)))
                clear hne
                go_wp2_with (go_quiet (fail))
                go_ret
                exact ⟨ret_bool HF.out.symm, by first | exact hb | exact hb.drew | exact below_drewN hb _⟩
            · obtain rfl : j = c1.length := by omega
              have HH : Hid (c1 = c2) := Lib.hid (eq_of_get HNE.out HE2.out)
              go_wp2_with fail
              go_roundg (xs.length - (k + 1))
              case measure => omega
              case rel =>
                refine ⟨k + 1, rfl, by omega, by go_num, hb, Lib.hid (fun t ht h1 h2 => ?_)⟩
                rcases Nat.lt_or_ge t k with h' | h'
                · exact HE.out t h' h1 h2
                · obtain rfl : t = k := by omega
                  rw [HN1.out, HN2.out]; exact HH.out
        · have hb0 : ((c1.length : Int) != (c2.length : Int)) = true := by simp; omega
          have HF : Hid (decide (xs = ys) = false) := Lib.hid (by rw [decide_eq_false_iff_not]; exact ne_of_get k hlt hlt2 (by rw [HN1.out, HN2.out]; rintro rfl; exact hne rfl))
          clear hne
          go_wp2_with (go_quiet (fail))
          go_ret
          exact ⟨ret_bool HF.out.symm, by first | exact hb | exact hb.drew | exact below_drewN hb _⟩
      · obtain rfl : k = xs.length := by omega
        have HF : Hid (decide (xs = ys) = true) := Lib.hid (by rw [decide_eq_true_eq]; exact eq_of_get hl HE.out)
        go_wp2_with fail
        go_ret
        exact ⟨ret_bool HF.out.symm, hb⟩
  · have hlb : ((xs.length : Int) != (ys.length : Int)) = true := by simp; omega
    have HF : Hid (decide (xs = ys) = false) := Lib.hid (by rw [decide_eq_false_iff_not]; rintro rfl; exact hl rfl)
    go_enter Try.func20, Try.ntmps20
    go_wp2_with fail
    go_ret
    exact ⟨ret_bool HF.out.symm, Below.refl _ _⟩

theorem OwnS.mono {w : World} {b b' : Nat} {e : TypeId} {v : Value} {xs : List Value} (h : OwnS w b e v xs) (hb : b' ≤ b) : OwnS w b' e v xs := by
  obtain ⟨hl, hc⟩ := h
  refine ⟨hl, ?_⟩
  rcases hc with hc | ⟨g, cap, cur, rfl, hbg, rest⟩
  · exact .inl hc
  · exact .inr ⟨g, cap, cur, rfl, Nat.le_trans hb hbg, rest⟩

/-- The front of a list that is read. -/
theorem RdV.take {w : World} {b off cap : Nat} {us : List Value} {n : Nat} (h : RdV w (.slice (some ⟨b, off, none⟩) n cap) us) (k : Nat) (hk : k ≤ us.length) : RdV w (.slice (some ⟨b, off, none⟩) k cap) (us.take k) := by
  obtain ⟨a, cap', he, h1, h2, h3⟩ := h
  simp only [Value.slice.injEq] at he
  obtain ⟨rfl, rfl, rfl⟩ := he
  have hl : (us.take k).length = k := by simp; omega
  refine ⟨some ⟨b, off, none⟩, cap, by rw [hl], ⟨by omega, fun h => by cases h⟩, h2, fun j hj => ?_⟩
  obtain ⟨b', off', ha, hlt, hc⟩ := h3 j (by omega)
  exact ⟨b', off', ha, hlt, by rw [hc]; simp⟩
/-- Its back. -/
theorem RdV.drop {w : World} {b off cap : Nat} {us : List Value} {n : Nat} (h : RdV w (.slice (some ⟨b, off, none⟩) n cap) us) (k : Nat) (hk : k ≤ us.length) : RdV w (.slice (if cap = k then some ⟨b, off, none⟩ else some ⟨b, off + k, none⟩) (us.length - k) (cap - k)) (us.drop k) := by
  obtain ⟨a, cap', he, h1, h2, h3⟩ := h
  simp only [Value.slice.injEq] at he
  obtain ⟨rfl, rfl, rfl⟩ := he
  have hl : (us.drop k).length = us.length - k := by simp
  refine ⟨_, cap - k, by rw [hl], ⟨by omega, fun h => by split at h <;> cases h⟩, by omega, fun j hj => ?_⟩
  obtain ⟨b', off', ha, hlt, hc⟩ := h3 (k + j) (by omega)
  simp only [Option.some.injEq, Addr.mk.injEq, and_true] at ha
  obtain ⟨rfl, rfl⟩ := ha
  refine ⟨b, off + k, by rw [if_neg (by omega)], hlt, ?_⟩
  rw [Nat.add_assoc, hc]; simp
theorem OwnS.take_drop {w : World} {b : Nat} {e : TypeId} {v : Value} {us : List Value} {k : Nat} (h : OwnS w b e v (us.take k ++ us.drop (k + 1))) : OwnS w b e v (us.eraseIdx k) := by
  rw [List.eraseIdx_eq_take_drop_succ]; exact h

set_option maxRecDepth 100000 in
set_option maxHeartbeats 1000000 in
theorem without_any (us : List Value) (k : Nat) (v : Value) (w : World) (hv : RdV w v us) (hone : ∀ u ∈ us, u.oneCell' = true) (hk : k < us.length) (hlen : us.length ≤ 100000) :
    Calls Try.prog 27 #[v, .int .i64 k] w fun e w' => ∃ v', e = .returned v' ∧ OwnS w' w.heap.size 22 v' (us.eraseIdx k) ∧ Below w.heap.size w w' := by
  have HV := Lib.hid hv
  obtain ⟨a, cap, rfl, h1, h2, h3⟩ := hv
  obtain ⟨b, off, rfl, hbl, _⟩ := h3 0 (by omega)
  have HO := Lib.hid hone
  have HT := Lib.hid (HV.out.take k (by omega))
  have HD := Lib.hid (HV.out.drop (k + 1) (by omega))
  have h1l := h1.1
  have hl1 : (us.take k).length = k := by simp; omega
  have hl2 : (us.drop (k + 1)).length = us.length - (k + 1) := by simp
  clear h1 h3 hone
  go_enter Try.func27, Try.ntmps27
  go_wp2_with (first | (at_builtin; refine wpList_extend elemSlice rfl (.tmp 6) (.tmp 9) rfl w.heap.size _ [] _ (us.take k) rfl rfl (OwnS.nil _ _ _) HT.out (fun u hu => HO.out u (List.mem_of_mem_take hu)) (by simp; omega) (by unfold maxLen; simp; omega) (Nat.le_refl _) ?_; rw [List.nil_append]; intro v1 w1 hown1 hg1 hb1) | (at_builtin; refine wpList_extend elemSlice rfl (.tmp 11) (.tmp 15) rfl w.heap.size _ (us.take k) _ (us.drop (k + 1)) rfl rfl hown1 (HD.out.below hb1) (fun u hu => HO.out u (List.mem_of_mem_drop hu)) (by omega) (by unfold maxLen; omega) hb1.size ?_; intro v2 w2 hown2 hg2 hb2))
  all_goals
    go_ret
    exact ⟨_, rfl, hown2.take_drop, hb1.trans hb2⟩
end Go.Proofs.Ythagkljenbhbdaa
