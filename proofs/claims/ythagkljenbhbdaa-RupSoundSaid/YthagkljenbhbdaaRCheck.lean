/-
  The walks of package rup's proves and Check with slices.Clone: they return what the plain Lean functions say; nothing that was in memory is changed. Condition: the lists are not longer than a million.
-/
import Derived.Test.YthagkljenbhbdaaRRight
import Derived.Laws.CopyOwn
namespace Go.Proofs.Ythagkljenbhbdaa
open Go Go.RowKit

theorem elemSlice : ElemT Try.prog 23 22 (.slice none 0 0) 24 := ⟨Try.underlying23, by kernel_rfl, rfl⟩
theorem elemInt : ElemT Try.prog 22 3 (.int .i64 0) 8 := ⟨Try.underlying22, by kernel_rfl, rfl⟩
theorem nilLists (w : World) (a : Option Addr) (n c n' c' : Nat) : (binOp .eql 23 (.slice a n c) (.slice none n' c')).run Try.prog w = .ok (.bool a.isNone) w :=
  Lib.run_eql_slice_nil w _ _ a n c n' c' Try.underlying23
theorem nilInts (w : World) (a : Option Addr) (n c n' c' : Nat) : (binOp .eql 22 (.slice a n c) (.slice none n' c')).run Try.prog w = .ok (.bool a.isNone) w :=
  Lib.run_eql_slice_nil w _ _ a n c n' c' Try.underlying22

set_option maxHeartbeats 400000 in
theorem cloneLists_any (v : Value) (vs : List Value) (w : World) (hv : RdV w v vs) (hone : ∀ u ∈ vs, u.oneCell' = true) (hlen : vs.length ≤ 1000000) :
    Calls Try.prog 48 #[v] w fun e w' => ∃ v', e = .returned v' ∧ OwnS w' w.heap.size 22 v' vs ∧ Below w.heap.size w w' := by
  have hq := nilLists
  have hv0 := hv
  obtain ⟨a, cap, rfl, hv1, hv2, hv3⟩ := hv
  cases a with
  | none =>
    have : vs = [] := by
      cases vs with
      | nil => rfl
      | cons y ys => obtain ⟨b, off, ha, _⟩ := hv3 0 (by simp); cases ha
    subst this
    clear hv3 hv1 hv2 hv0
    go_enter Try.func48, Try.ntmps48
    go_wp2
    go_ret
    exact ⟨_, rfl, OwnS.nil _ _ _, Below.refl _ _⟩
  | some ad =>
    have HV := Lib.hid hv0
    have HO := Lib.hid hone
    clear hv0 hv1 hv2 hv3 hone
    go_enter Try.func48, Try.ntmps48
    go_wp2_with (at_builtin; refine wpList_extend elemSlice rfl _ _ rfl w.heap.size _ [] _ vs rfl rfl (OwnS.lit w w.heap.size 22 [] (Nat.le_refl _) (Nat.zero_le _)) (HV.out.below ((Below.refl _ _).alloc (Nat.le_refl _) _)) HO.out (by simp; omega) (by unfold maxLen; simp; omega) (by simp) ?_; intro v' w' hown' _ hb)
    go_ret
    exact ⟨_, rfl, hown', (((Below.refl _ _).alloc (Nat.le_refl _) _).trans hb)⟩

def ints (l : List Int) : List Value := l.map (Value.int .i64)
theorem ints_len (l : List Int) : (ints l).length = l.length := by simp [ints]
/-- The opposites of the first j literals, the rest still 0. -/
def negTo (c : List Int) (j : Nat) : List Int := neg (c.take j) ++ List.replicate (c.length - j) 0
theorem negTo_len (c : List Int) (j : Nat) (h : j ≤ c.length) : (negTo c j).length = c.length := by simp [negTo, neg]; omega
theorem negTo_zero (c : List Int) : negTo c 0 = List.replicate c.length 0 := by simp [negTo, neg]
theorem negTo_all (c : List Int) : negTo c c.length = neg c := by simp [negTo]
theorem negTo_step (c : List Int) (j : Nat) (h : j < c.length) : negTo c (j + 1) = (negTo c j).set j (-c[j]) := by
  have hl : (neg (c.take j)).length = j := by simp [neg]; omega
  unfold negTo
  rw [List.set_append_right _ _ (by omega), hl, Nat.sub_self]
  obtain ⟨m, hm⟩ : ∃ m, c.length - j = m + 1 := ⟨c.length - j - 1, by omega⟩
  rw [hm, List.replicate_succ, List.set_cons_zero, show c.length - (j + 1) = m from by omega, List.take_succ_eq_append_getElem h]
  simp only [neg, List.map_append, List.map_cons, List.map_nil, List.append_assoc, List.cons_append, List.nil_append]
theorem lits_neg {N : Nat} {c : List Int} (h : Lits N c) : Lits N (neg c) := by
  intro n hn
  simp only [neg, List.mem_map] at hn
  obtain ⟨m, hm, rfl⟩ := hn
  have := h m hm; omega
theorem litsAll_snoc {N : Nat} {cs : List (List Int)} {c : List Int} (h : LitsAll N cs) (hc : Lits N c) : LitsAll N (cs ++ [c]) := by
  intro d hd
  rcases List.mem_append.1 hd with hd | hd
  · exact h d hd
  · simp at hd; subst hd; exact hc
theorem provesLoop_yes {N : Nat} {all pr : List (List Int)} {c : List Int} (h : conflict N all (neg c) = true) : provesLoop N all (c :: pr) = provesLoop N (all ++ [c]) pr := by simp only [provesLoop]; rw [if_pos h]
theorem provesLoop_no {N : Nat} {all pr : List (List Int)} {c : List Int} (h : conflict N all (neg c) = false) : provesLoop N all (c :: pr) = false := by simp only [provesLoop]; rw [if_neg (by rw [h]; decide)]
theorem rdl_oneCell {α : Type} {R : World → Value → α → Prop} {w : World} {v : Value} {l : List α} (h : RdL R w v l) : v.oneCell' = true := by obtain ⟨a, cap, rfl, _⟩ := h; rfl
theorem reads_oneCell {α : Type} {R : World → Value → α → Prop} {w : World} {vs : List Value} {ls : List (List α)} (h : Reads (RdL R) w vs ls) : ∀ u ∈ vs, u.oneCell' = true := by
  intro u hu
  obtain ⟨j, hj, rfl⟩ := List.getElem_of_mem hu
  exact rdl_oneCell (h.2 j hj (by have := h.1; omega))

set_option maxRecDepth 100000 in
set_option maxHeartbeats 1000000 in
theorem proves_any (N : Nat) (cs pr : List (List Int)) (vc vp : Value) (w : World) (hc : RdL (RdL (IntV .i64)) w vc cs) (hp : RdL (RdL (IntV .i64)) w vp pr)
    (hN : N ≤ 100000) (hcl : LitsAll (N + 1) cs) (hpl : LitsAll (N + 1) pr) (hcn : cs.length ≤ 100000) (hpn : pr.length ≤ 100000) (hwide : ∀ c ∈ pr, c.length ≤ 100000) :
    Calls Try.prog 29 #[.int .i64 N, vc, vp] w fun e w' => e = .returned (.bool (provesS N cs pr)) ∧ Below w.heap.size w w' := by
  obtain ⟨vs0, hvc, hr0⟩ := hc.vals
  obtain ⟨ap, capp, rfl, _, _, hp3⟩ := hp
  by_cases hp0 : pr.length = 0
  · have e : provesS N cs pr = false := by rw [List.length_eq_zero_iff.1 hp0]; rfl
    rw [e]
    clear e hp3 hvc hr0
    go_enter Try.func29, Try.ntmps29
    go_wp2_with fail
    go_ret
    exact ⟨rfl, Below.refl _ _⟩
  · have hpos : 0 < pr.length := by omega
    have hlz : ((pr.length : Int) == 0) = false := by rw [beq_eq_false_iff_ne]; omega
    obtain ⟨bl, offl, ul, rfl, hbl, hcl0, hul⟩ := hp3 (pr.length - 1) (by omega)
    have hlast : pr.getLast? = some pr[pr.length - 1] := by rw [List.getLast?_eq_getElem?, List.getElem?_eq_getElem]
    have hwl := hwide _ (List.getElem_mem (show pr.length - 1 < pr.length by omega))
    generalize hcE : pr[pr.length - 1] = cl at *
    obtain ⟨al, capl, rfl, _⟩ := hul
    by_cases hlp : 0 < cl.length
    · have e : provesS N cs pr = false := by unfold provesS; rw [hlast]; simp only; rw [if_pos hlp]
      rw [e]
      clear e hp3 hvc hr0 hlast hcE hp0
      go_enter Try.func29, Try.ntmps29
      go_wp2_with fail
      go_ret
      exact ⟨rfl, Below.refl _ _⟩
    · have e : provesS N cs pr = provesLoop N cs pr := by unfold provesS; rw [hlast]; simp only; rw [if_neg hlp]
      rw [e]
      have HP := Lib.hid hp3
      have HCL := Lib.hid hcl
      have HPL := Lib.hid hpl
      have HW := Lib.hid hwide
      have hlp' : cl.length = 0 := by omega
      have HV := Lib.hid (cloneLists_any vc vs0 w hvc (reads_oneCell hr0) (by rw [hr0.1]; omega))
      have HR0 := Lib.hid hr0
      clear e hp3 hvc hr0 hlast hcE hp0 hcl hpl hwide hlp
      go_enter Try.func29, Try.ntmps29
      go_wp2_with (go_at_call 48; refine (HV.out).mono ?_; rintro e w1 ⟨v1, rfl, hown1, hb1⟩)
      go_loopg [7, 30] pr.length (fun gh x i wr => ∃ (k : Nat) (all : List (List Int)) (vs : List Value), gh = pr.length - k ∧ k ≤ pr.length ∧ i = .int .i64 k ∧ OwnS wr w.heap.size 22 x vs ∧ Reads (RdL (IntV .i64)) w vs all ∧ Below w.heap.size w wr ∧ all.length = cs.length + k ∧ LitsAll (N + 1) all ∧ Hid (provesLoop N cs pr = provesLoop N all (pr.drop k)))
      case atStart => exact ⟨0, cs, vs0, by omega, by omega, rfl, hown1, HR0.out, hb1, rfl, HCL.out, Lib.hid rfl⟩
      case round =>
        clear hown1 hb1
        obtain ⟨k, all, vs, rfl, hk, rfl, hown, hr, hb, hall, hlits, HL⟩ := hrel
        by_cases hlt : k < pr.length
        · obtain ⟨b, off, u, he, hbl2, hcell0, hu⟩ := HP.out k hlt
          simp only [Option.some.injEq, Addr.mk.injEq, and_true] at he
          obtain ⟨rfl, rfl⟩ := he
          have hcell := (hb.cell (p := ⟨bl, offl + k, none⟩) hbl2).trans hcell0
          have hlc := HPL.out _ (List.getElem_mem hlt)
          have hwc := HW.out _ (List.getElem_mem hlt)
          have HD := Lib.hid (drop_cons pr k hlt)
          clear hcell0
          generalize hx : pr[k] = c at *
          have HX := Lib.hid hx
          have HU := Lib.hid hu
          have HLC := Lib.hid hlc
          have HLA := Lib.hid hlits
          have HRd := Lib.hid hr
          have HOwn := Lib.hid hown
          have hvl : vs.length = all.length := hr.1
          clear hx hlc hlits hr hown
          obtain ⟨wo, rfl⟩ : ∃ wo : World, wo = wr := ⟨_, rfl⟩
          obtain ⟨au, capu, rfl, hu1, hu2, hu3⟩ := hu
          have HU3 := Lib.hid hu3
          clear hu3 hu1 hu2
          go_wp2_with (at_make; refine wpList_makeN elemInt rfl _ _ rfl wo.heap.size _ _ _ _ c.length rfl rfl rfl rfl (by omega) (by unfold maxLen; omega) (Nat.le_refl _) ?_; intro w2 hown2 hb2)
          have hstart : OwnS w2 wo.heap.size 3 (.slice (some ⟨wo.heap.size, 0, none⟩) c.length c.length) (ints (negTo c 0)) := by rw [negTo_zero]; simpa [ints] using hown2
          clear hown2
          go_loopg [39] c.length (fun gh i wr => ∃ j : Nat, gh = c.length - j ∧ j ≤ c.length ∧ i = .int .i64 j ∧ OwnS wr wo.heap.size 3 (.slice (some ⟨wo.heap.size, 0, none⟩) c.length c.length) (ints (negTo c j)) ∧ Below wo.heap.size wo wr)
          case atStart => exact ⟨0, by omega, by omega, rfl, hstart, hb2⟩
          case round =>
            clear hstart hb2
            obtain ⟨j, rfl, hj, rfl, hown3, hb3⟩ := hrel
            by_cases hjt : j < c.length
            · obtain ⟨b2, off2, y, rfl, hbl3, hcell2, hy⟩ := HU3.out j hjt
              have hbase := hb.size
              have hcell3 := ((hb.trans (hb3.mono hb.size)).cell (p := ⟨b2, off2 + j, none⟩) hbl3).trans hcell2
              have hn := HLC.out _ (List.getElem_mem hjt)
              have hst := OwnS.stored hown3 j (.int .i64 (-c[j]))
              have hst2 : (ints (negTo c j)).set j (.int .i64 (-c[j])) = ints (negTo c (j + 1)) := by rw [negTo_step c j hjt]; simp [ints]
              rw [hst2] at hst
              have HST := Lib.hid hst
              have hcj := OwnS.cell hown3 j (by rw [ints_len, negTo_len c j hj]; exact hjt)
              have hfj := OwnS.free hown3 j
              have HO3 := Lib.hid hown3
              clear hcell2 hst hst2 hown3
              generalize (ints (negTo c j))[j]'_ = old at hcj
              unfold IntV at hy
              subst hy
              generalize hx : c[j] = n at *
              have HX2 := Lib.hid hx
              clear hx
              go_wp2_with fail
              go_roundg (c.length - (j + 1))
              case measure => omega
              case rel => exact ⟨j + 1, rfl, by omega, by go_num, HST.out.1, hb3.trans HST.out.2⟩
            · obtain rfl : j = c.length := by omega
              rw [negTo_all] at hown3
              have hbw : Below w.heap.size w wr := hb.trans (hb3.mono hb.size)
              have hrda := Lib.hid ((HOwn.out.below hb3).rdv.rd (HRd.out.mono (mono_rdl (mono_int _)) hbw))
              have hrdf : Hid (RdL (IntV .i64) wr (.slice (some ⟨wo.heap.size, 0, none⟩) c.length c.length) (neg c)) := Lib.hid (OwnS.rdInts hown3)
              have hle := hb.size
              cases hcf : conflict N all (neg c)
              · have hfin : provesLoop N cs pr = false := HL.out.trans (by rw [HD.out]; exact provesLoop_no hcf)
                have HF := Lib.hid hfin
                have HCF := Lib.hid hcf
                clear hfin hcf hown3
                go_wp2_with (go_at_call 49; refine (conflict_any N all (neg c) _ _ _ hrda.out hrdf.out hN HLA.out (lits_neg HLC.out)).mono ?_; rw [HCF.out]; rintro e w4 ⟨rfl, hb4⟩)
                go_ret
                exact ⟨ret_bool HF.out.symm, hbw.trans (hb4.mono hbw.size)⟩
              · have hstep : Hid (provesLoop N cs pr = provesLoop N (all ++ [c]) (pr.drop (k + 1))) := Lib.hid (HL.out.trans (by rw [HD.out]; exact provesLoop_yes hcf))
                have HCF := Lib.hid hcf
                clear hcf hown3
                go_wp2_with (first | (go_at_call 49; refine (conflict_any N all (neg c) _ _ _ hrda.out hrdf.out hN HLA.out (lits_neg HLC.out)).mono ?_; rw [HCF.out]; rintro e w4 ⟨rfl, hb4⟩) | (at_builtin; refine wpList_push elemSlice rfl (.tmp 55) (.tmp 57) rfl w.heap.size _ vs _ rfl rfl ((HOwn.out.below hb3).below hb4) rfl (by omega) (by unfold maxLen; omega) (by have := hbw.size; have := hb4.size; omega) ?_; intro v' w5 hown5 _ hb5))
                go_roundg (pr.length - (k + 1))
                case measure => omega
                case rel => exact ⟨k + 1, all ++ [c], vs ++ [_], rfl, by omega, by go_num, hown5, HRd.out.snoc HU.out, (hbw.trans (hb4.mono hbw.size)).trans hb5, by simp; omega, litsAll_snoc HLA.out HLC.out, hstep⟩
        · obtain rfl : k = pr.length := by omega
          have hfin : provesLoop N cs pr = true := HL.out.trans (by rw [List.drop_length]; rfl)
          have HF := Lib.hid hfin
          clear hfin
          go_wp2_with fail
          go_ret
          exact ⟨ret_bool HF.out.symm, hb⟩

theorem right_lits {N : Nat} {cs : List (List Int)} (h : rightS N cs = true) : LitsAll (N + 1) cs ∧ ∀ c ∈ cs, c.length ≤ 4096 := by
  simp only [rightS, Bool.not_eq_true', List.any_eq_false, badClause, Bool.or_eq_true, not_or, List.any_eq_true, badLit, decide_eq_true_eq, not_exists, not_and, beq_iff_eq] at h
  refine ⟨fun c hc n hn => ?_, fun c hc => ?_⟩
  · have := (h c hc).2 n hn
    omega
  · have := (h c hc).1
    omega
theorem right_zero {N : Nat} {cs : List (List Int)} (h : rightS N cs = true) : ∀ c ∈ cs, ∀ n ∈ c, n ≠ 0 := by
  simp only [rightS, Bool.not_eq_true', List.any_eq_false, badClause, Bool.or_eq_true, not_or, List.any_eq_true, badLit, decide_eq_true_eq, not_exists, not_and, beq_iff_eq] at h
  intro c hc n hn
  exact ((h c hc).2 n hn).1.1

set_option maxHeartbeats 1000000 in
theorem check_any (N : Int) (cs pr : List (List Int)) (vc vp : Value) (w : World) (hc : RdL (RdL (IntV .i64)) w vc cs) (hp : RdL (RdL (IntV .i64)) w vp pr) (hcn : cs.length ≤ 100000) (hpn : pr.length ≤ 100000) :
    Calls Try.prog 12 #[.int .i64 N, vc, vp] w fun e w' => e = .returned (.int .i64 (checkS N cs pr)) ∧ Below w.heap.size w w' := by
  have HC := Lib.hid hc
  have HP := Lib.hid hp
  obtain ⟨ac, capc, rfl, hc1, hc2, hc3⟩ := hc
  obtain ⟨ap, capp, rfl, hp1, hp2, hp3⟩ := hp
  clear hc1 hc2 hc3 hp1 hp2 hp3
  by_cases hbad : N < 0 ∨ 4096 < N ∨ 16384 < cs.length + pr.length
  · have e : checkS N cs pr = 1 := by
      have : validS N cs pr = false := by
        unfold validS
        rcases hbad with h | h | h
        · rw [show decide (0 ≤ N) = false from by rw [decide_eq_false_iff_not]; omega]; rfl
        · rw [show decide (N ≤ 4096) = false from by rw [decide_eq_false_iff_not]; omega]; simp
        · rw [show decide (cs.length + pr.length ≤ 16384) = false from by rw [decide_eq_false_iff_not]; omega]; simp
      unfold checkS; rw [this]; rfl
    rw [e]
    clear e
    rcases hbad with h | h | h
    · go_enter Try.func12, Try.ntmps12
      go_wp2_with fail
      go_ret
      exact ⟨rfl, Below.refl _ _⟩
    · have h' : ¬ N < 0 := by omega
      go_enter Try.func12, Try.ntmps12
      go_wp2_with fail
      go_ret
      exact ⟨rfl, Below.refl _ _⟩
    · by_cases hn : N < 0
      · go_enter Try.func12, Try.ntmps12
        go_wp2_with fail
        go_ret
        exact ⟨rfl, Below.refl _ _⟩
      · by_cases hn2 : 4096 < N
        all_goals
          go_enter Try.func12, Try.ntmps12
          go_wp2_with fail
          go_ret
          exact ⟨rfl, Below.refl _ _⟩
  · obtain ⟨n, rfl⟩ := Int.eq_ofNat_of_zero_le (show 0 ≤ N by omega)
    have h1 : n ≤ 4096 := by omega
    have h2 : cs.length + pr.length ≤ 16384 := by omega
    have hv : validS n cs pr = (rightS n cs && rightS n pr) := by
      unfold validS
      rw [show decide ((0 : Int) ≤ n) = true from by simp, show decide ((n : Int) ≤ 4096) = true from by simp; omega, show decide (cs.length + pr.length ≤ 16384) = true from by simpa using h2]
      rfl
    clear hbad
    have HR1 := Lib.hid (right_any n cs _ w (by omega) HC.out)
    cases hrc : rightS n cs
    · have e : checkS n cs pr = 1 := by unfold checkS; rw [hv, hrc]; rfl
      rw [e]
      rw [hrc] at HR1
      clear e hrc hv
      go_enter Try.func12, Try.ntmps12
      go_wp2_with (go_at_call 28; refine (HR1.out).mono ?_; rintro e w1 ⟨rfl, hb1⟩)
      go_ret
      exact ⟨rfl, hb1⟩
    · have HR2 : Hid (∀ w1, Below w.heap.size w w1 → Calls Try.prog 28 #[.int .i64 n, .slice ap pr.length capp] w1 fun e w' => e = .returned (.bool (rightS n pr)) ∧ Below w1.heap.size w1 w') := Lib.hid (fun w1 hb => right_any n pr _ w1 (by omega) (HP.out.below (mono_rdl (mono_int _)) hb))
      cases hrp : rightS n pr
      · have e : checkS n cs pr = 1 := by unfold checkS; rw [hv, hrc, hrp]; rfl
        rw [e]
        rw [hrc] at HR1
        rw [hrp] at HR2
        clear e hrc hv hrp
        go_enter Try.func12, Try.ntmps12
        go_wp2_with fail
        refine (HR1.out).mono ?_
        rintro e w1 ⟨rfl, hb1⟩
        go_wp2_with fail
        refine (HR2.out _ hb1).mono ?_
        rintro e w2 ⟨rfl, hb2⟩
        go_wp2_with fail
        go_ret
        exact ⟨rfl, hb1.trans (hb2.mono hb1.size)⟩
      · obtain ⟨k1, k2⟩ := right_lits hrc
        obtain ⟨k3, k4⟩ := right_lits hrp
        have e : checkS n cs pr = if provesS n cs pr then 0 else 22 := by unfold checkS; rw [hv, hrc, hrp]; rfl
        have HV : Hid (∀ w1, Below w.heap.size w w1 → Calls Try.prog 29 #[.int .i64 n, .slice ac cs.length capc, .slice ap pr.length capp] w1 fun e w' => e = .returned (.bool (provesS n cs pr)) ∧ Below w1.heap.size w1 w') :=
          Lib.hid (fun w1 hb => proves_any n cs pr _ _ w1 (HC.out.below (mono_rdl (mono_int _)) hb) (HP.out.below (mono_rdl (mono_int _)) hb) (by omega) k1 k3 hcn hpn (fun c hc => by have := k4 c hc; omega))
        rw [hrc] at HR1
        rw [hrp] at HR2
        rw [e]
        clear e hrc hv hrp k1 k2 k3 k4
        cases hpv : provesS n cs pr
        all_goals
          rw [hpv] at HV
          clear hpv
          go_enter Try.func12, Try.ntmps12
          go_wp2_with fail
          refine (HR1.out).mono ?_
          rintro e w1 ⟨rfl, hb1⟩
          go_wp2_with fail
          refine (HR2.out _ hb1).mono ?_
          rintro e w2 ⟨rfl, hb2⟩
          have hb12 := hb1.trans (hb2.mono hb1.size)
          go_wp2_with fail
          refine (HV.out _ hb12).mono ?_
          rintro e w3 ⟨rfl, hb3⟩
          go_wp2_with fail
          go_ret
          exact ⟨rfl, hb12.trans (hb3.mono hb12.size)⟩
end Go.Proofs.Ythagkljenbhbdaa
