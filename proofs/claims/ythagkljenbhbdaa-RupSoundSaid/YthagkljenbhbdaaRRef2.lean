/-
  The walks of the reference of layer 23: Follows, proves, right, Valid and Check return what the plain Lean functions of RSpec say; nothing that was in memory is changed. Condition: the lists are not longer than a hundred thousand.
-/
import Derived.Test.YthagkljenbhbdaaRRef
namespace Go.Proofs.Ythagkljenbhbdaa
open Go Go.RowKit

theorem neg_take (c : List Int) (j : Nat) (h : j < c.length) : neg (c.take (j + 1)) = neg (c.take j) ++ [-c[j]] := by
  rw [List.take_succ_eq_append_getElem h]; simp only [neg, List.map_append, List.map_cons, List.map_nil]
theorem neg_len (c : List Int) : (neg c).length = c.length := by simp [neg]
theorem ints_snoc (l : List Int) (x : Int) : ints (l ++ [x]) = ints l ++ [.int .i64 x] := by simp [ints]

set_option maxRecDepth 100000 in
theorem rfollows_any (N : Nat) (cs : List (List Int)) (c : List Int) (vc vf : Value) (w : World) (hc : RdL (RdL (IntV .i64)) w vc cs) (hf : RdL (IntV .i64) w vf c)
    (hN : N ≤ 100000) (hcl : LitsAll (N + 1) cs) (hfl : Lits (N + 1) c) (hlen : c.length ≤ 100000) :
    Calls Try.prog 26 #[.int .i64 N, vc, vf] w fun e w' => e = .returned (.bool (conflict N cs (neg c))) ∧ Below w.heap.size w w' := by
  obtain ⟨af, capf, rfl, hf1, hf2, hf3⟩ := hf
  have HF := Lib.hid hf3
  have HC := Lib.hid hc
  have HFL := Lib.hid hfl
  clear hf1 hf2 hf3 hc hfl
  go_enter Try.func26, Try.ntmps26
  go_wp2_with fail
  go_loopg [7, 8] c.length (fun gh x i wr => ∃ j : Nat, gh = c.length - j ∧ j ≤ c.length ∧ i = .int .i64 j ∧ OwnS wr w.heap.size 3 x (ints (neg (c.take j))) ∧ Below w.heap.size w wr)
  case atStart => exact ⟨0, by omega, by omega, rfl, OwnS.nil _ _ _, Below.refl _ _⟩
  case round =>
    obtain ⟨j, rfl, hj, rfl, hown, hb⟩ := hrel
    by_cases hjt : j < c.length
    · obtain ⟨b2, off2, y, rfl, hbl2, hcell2, hy⟩ := HF.out j hjt
      have hcell := (hb.cell (p := ⟨b2, off2 + j, none⟩) hbl2).trans hcell2
      have hn := HFL.out _ (List.getElem_mem hjt)
      have hs := Lib.hid (neg_take c j hjt)
      have hl : (ints (neg (c.take j))).length = j := by rw [ints_len, neg_len]; simp; omega
      have hle := hb.size
      have HL := Lib.hid hl
      have HO := Lib.hid hown
      clear hcell2 hl hown
      unfold IntV at hy
      subst hy
      generalize hx : c[j] = n at *
      have HX := Lib.hid hx
      clear hx
      go_wp2_with (at_builtin; refine wpList_push elemInt rfl (.tmp 15) (.tmp 21) rfl w.heap.size _ _ _ rfl rfl HO.out rfl (by rw [HL.out]; omega) (by rw [HL.out]; unfold maxLen; omega) hle ?_; intro v' w5 hown5 _ hb5)
      go_roundg (c.length - (j + 1))
      case measure => omega
      case rel => exact ⟨j + 1, rfl, by omega, by go_num, by rw [hs.out, ints_snoc]; exact hown5, hb.trans hb5⟩
    · obtain rfl : j = c.length := by omega
      rw [List.take_length] at hown
      have hrd : Hid (RdL (IntV .i64) wr u7 (neg c)) := Lib.hid (OwnS.rdInts hown)
      have hrc := Lib.hid (HC.out.below (mono_rdl (mono_int _)) hb)
      clear hown
      go_wp2_with (go_at_call 45; refine (rconflict_any N cs (neg c) _ _ _ hrc.out hrd.out hN hcl (lits_neg HFL.out)).mono ?_; rintro e w4 ⟨rfl, hb4⟩)
      go_ret
      exact ⟨rfl, hb.trans (hb4.mono hb.size)⟩

set_option maxRecDepth 100000 in
set_option maxHeartbeats 1000000 in
theorem rproves_any (N : Nat) (cs pr : List (List Int)) (vc vp : Value) (w : World) (hc : RdL (RdL (IntV .i64)) w vc cs) (hp : RdL (RdL (IntV .i64)) w vp pr)
    (hN : N ≤ 100000) (hcl : LitsAll (N + 1) cs) (hpl : LitsAll (N + 1) pr) (hcn : cs.length ≤ 100000) (hpn : pr.length ≤ 100000) (hwide : ∀ c ∈ pr, c.length ≤ 100000) :
    Calls Try.prog 31 #[.int .i64 N, vc, vp] w fun e w' => e = .returned (.bool (provesS N cs pr)) ∧ Below w.heap.size w w' := by
  obtain ⟨vs0, hvc, hr0⟩ := hc.vals
  obtain ⟨ap, capp, rfl, _, _, hp3⟩ := hp
  by_cases hp0 : pr.length = 0
  · have e : provesS N cs pr = false := by rw [List.length_eq_zero_iff.1 hp0]; rfl
    rw [e]
    clear e hp3 hvc hr0
    go_enter Try.func31, Try.ntmps31
    go_wp2_with fail
    go_ret
    exact ⟨rfl, Below.refl _ _⟩
  · have hpos : 0 < pr.length := by omega
    have hlz : ((pr.length : Int) == 0) = false := by rw [beq_eq_false_iff_ne]; omega
    obtain ⟨bl, offl, ul, rfl, hbl, hcl0, hul⟩ := hp3 (pr.length - 1) (by omega)
    have hlast : pr.getLast? = some pr[pr.length - 1] := by rw [List.getLast?_eq_getElem?, List.getElem?_eq_getElem]
    have hwl := hwide _ (List.getElem_mem (show pr.length - 1 < pr.length by omega))
    generalize hcE : pr[pr.length - 1] = cl at *
    obtain ⟨al, capl, rfl, _⟩ := hul
    by_cases hlp : 0 < cl.length
    · have e : provesS N cs pr = false := by unfold provesS; rw [hlast]; simp only; rw [if_pos hlp]
      rw [e]
      clear e hp3 hvc hr0 hlast hcE hp0
      go_enter Try.func31, Try.ntmps31
      go_wp2_with fail
      go_ret
      exact ⟨rfl, Below.refl _ _⟩
    · have e : provesS N cs pr = provesLoop N cs pr := by unfold provesS; rw [hlast]; simp only; rw [if_neg hlp]
      rw [e]
      have HP := Lib.hid hp3
      have HCL := Lib.hid hcl
      have HPL := Lib.hid hpl
      have HW := Lib.hid hwide
      have hlp' : cl.length = 0 := by omega
      have hone := Lib.hid (reads_oneCell hr0)
      have hrl := hr0.1
      have HVC := Lib.hid hvc
      have HR0 := Lib.hid hr0
      clear e hp3 hvc hr0 hlast hcE hp0 hcl hpl hwide hlp
      go_enter Try.func31, Try.ntmps31
      go_wp2_with (at_builtin; refine wpList_extend elemSlice rfl (.tmp 20) (.tmp 21) rfl w.heap.size _ [] _ vs0 rfl rfl (OwnS.lit w w.heap.size 22 [] (Nat.le_refl _) (Nat.zero_le _)) (HVC.out.below ((Below.refl _ _).alloc (Nat.le_refl _) _)) hone.out (by simp; omega) (by unfold maxLen; simp; omega) (by simp) ?_; intro v1 w1 hown1 _ hb1)
      have hbs : Below w.heap.size w w1 := ((Below.refl _ _).alloc (Nat.le_refl _) _).trans hb1
      rw [List.nil_append] at hown1
      go_loopg [7, 8] pr.length (fun gh x i wr => ∃ (k : Nat) (all : List (List Int)) (vs : List Value), gh = pr.length - k ∧ k ≤ pr.length ∧ i = .int .i64 k ∧ OwnS wr w.heap.size 22 x vs ∧ Reads (RdL (IntV .i64)) w vs all ∧ Below w.heap.size w wr ∧ all.length = cs.length + k ∧ LitsAll (N + 1) all ∧ Hid (provesLoop N cs pr = provesLoop N all (pr.drop k)))
      case atStart => exact ⟨0, cs, vs0, by omega, by omega, rfl, hown1, HR0.out, hbs, rfl, HCL.out, Lib.hid rfl⟩
      case round =>
        clear hown1 hb1 hbs
        obtain ⟨k, all, vs, rfl, hk, rfl, hown, hr, hb, hall, hlits, HL⟩ := hrel
        by_cases hlt : k < pr.length
        · obtain ⟨b, off, u, he, hbl2, hcell0, hu⟩ := HP.out k hlt
          simp only [Option.some.injEq, Addr.mk.injEq, and_true] at he
          obtain ⟨rfl, rfl⟩ := he
          have hcell := (hb.cell (p := ⟨bl, offl + k, none⟩) hbl2).trans hcell0
          have hlc := HPL.out _ (List.getElem_mem hlt)
          have hwc := HW.out _ (List.getElem_mem hlt)
          have HD := Lib.hid (drop_cons pr k hlt)
          generalize hx : pr[k] = c at *
          have HX := Lib.hid hx
          have HU := Lib.hid hu
          have HLC := Lib.hid hlc
          have HLA := Lib.hid hlits
          have HRd := Lib.hid hr
          have HOwn := Lib.hid hown
          have hvl : vs.length = all.length := hr.1
          have HCK : Hid (∀ w4, Below wr.heap.size wr w4 → w4.cell? ⟨bl, offl + k, none⟩ = some u) := Lib.hid (fun w4 h4 => (h4.cell (p := ⟨bl, offl + k, none⟩) (Nat.lt_of_lt_of_le hbl2 hb.size)).trans hcell)
          have hrda := Lib.hid (hown.rdv.rd (hr.mono (mono_rdl (mono_int _)) hb))
          have hrdf := Lib.hid (hu.below (mono_int _) hb)
          have hone2 := rdl_oneCell hu
          have hle := hb.size
          obtain ⟨au, capu, rfl, _⟩ := hu
          clear hcell0 hx hlc hlits hr hown
          cases hcf : conflict N all (neg c)
          · have hfin : provesLoop N cs pr = false := HL.out.trans (by rw [HD.out]; exact provesLoop_no hcf)
            have HF := Lib.hid hfin
            have HCF := Lib.hid hcf
            clear hfin hcf
            go_wp2_with (go_at_call 26; refine (rfollows_any N all c _ _ _ hrda.out hrdf.out hN HLA.out HLC.out hwc).mono ?_; rw [HCF.out]; rintro e w4 ⟨rfl, hb4⟩)
            go_ret
            exact ⟨ret_bool HF.out.symm, hb.trans (hb4.mono hb.size)⟩
          · have hstep : Hid (provesLoop N cs pr = provesLoop N (all ++ [c]) (pr.drop (k + 1))) := Lib.hid (HL.out.trans (by rw [HD.out]; exact provesLoop_yes hcf))
            have HCF := Lib.hid hcf
            clear hcf
            go_wp2_with (first | (go_at_call 26; refine (rfollows_any N all c _ _ _ hrda.out hrdf.out hN HLA.out HLC.out hwc).mono ?_; rw [HCF.out]; rintro e w4 ⟨rfl, hb4⟩; have hcell4 := HCK.out _ hb4) | (at_builtin; refine wpList_push elemSlice rfl (.tmp 37) (.tmp 42) rfl w.heap.size _ vs _ rfl rfl (HOwn.out.below hb4) hone2 (by omega) (by unfold maxLen; omega) (by have := hb4.size; omega) ?_; intro v' w5 hown5 _ hb5))
            go_roundg (pr.length - (k + 1))
            case measure => omega
            case rel => exact ⟨k + 1, all ++ [c], vs ++ [_], rfl, by omega, by go_num, hown5, HRd.out.snoc HU.out, (hb.trans (hb4.mono hb.size)).trans hb5, by simp; omega, litsAll_snoc HLA.out HLC.out, hstep⟩
        · obtain rfl : k = pr.length := by omega
          have hfin : provesLoop N cs pr = true := HL.out.trans (by rw [List.drop_length]; rfl)
          have HF := Lib.hid hfin
          clear hfin
          go_wp2_with fail
          go_ret
          exact ⟨ret_bool HF.out.symm, hb⟩

theorem not_right_of {N : Int} {cs : List (List Int)} {c : List Int} (hc : c ∈ cs) (h : badClause N c = true) : rightS N cs = false := by
  unfold rightS; rw [Bool.not_eq_false']; exact List.any_eq_true.2 ⟨c, hc, h⟩
theorem right_of {N : Int} {cs : List (List Int)} (h : ∀ c ∈ cs, badClause N c = false) : rightS N cs = true := by
  unfold rightS; rw [Bool.not_eq_true', List.any_eq_false]; intro c hc; rw [h c hc]; decide
theorem badClause_long {N : Int} {c : List Int} (h : 4096 < c.length) : badClause N c = true := by simp [badClause, h]
theorem badClause_lit {N : Int} {c : List Int} {n : Int} (hn : n ∈ c) (h : badLit N n = true) : badClause N c = true := by
  unfold badClause; rw [Bool.or_eq_true]; exact .inr (List.any_eq_true.2 ⟨n, hn, h⟩)
theorem badClause_none {N : Int} {c : List Int} (hl : ¬ 4096 < c.length) (h : ∀ n ∈ c, badLit N n = false) : badClause N c = false := by
  unfold badClause
  rw [Bool.or_eq_false_iff, decide_eq_false_iff_not, List.any_eq_false]
  exact ⟨hl, fun n hn => by rw [h n hn]; decide⟩
theorem all_lt_succ {α : Type} {xs : List α} {p : α → Prop} {k : Nat} (hk : k < xs.length) (h : ∀ j (_ : j < k) (hj2 : j < xs.length), p xs[j]) (hx : p xs[k]) : ∀ j (_ : j < k + 1) (hj2 : j < xs.length), p xs[j] := by
  intro j hj hj2
  rcases Nat.lt_or_ge j k with h' | h'
  · exact h j h' hj2
  · obtain rfl : j = k := by omega
    exact hx
theorem all_mem {α : Type} {xs : List α} {p : α → Prop} (h : ∀ j (_ : j < xs.length) (hj2 : j < xs.length), p xs[j]) : ∀ x ∈ xs, p x := by
  intro x hx
  obtain ⟨j, hj, rfl⟩ := List.getElem_of_mem hx
  exact h j hj hj

set_option maxRecDepth 100000 in
set_option maxHeartbeats 1000000 in
theorem rright_any (N : Int) (cs : List (List Int)) (v : Value) (w : World) (hN : 0 ≤ N ∧ N ≤ 1000000) (hv : RdL (RdL (IntV .i64)) w v cs) :
    Calls Try.prog 50 #[.int .i64 N, v] w fun e w' => e = .returned (.bool (rightS N cs)) ∧ w = w' := by
  obtain ⟨a, cap, rfl, hv1, hv2, hv3⟩ := hv
  have hvm : cs.length ≤ 9223372036854775807 := by unfold maxLen at hv2; omega
  have HV := Lib.hid hv3
  clear hv1 hv2 hv3
  go_enter Try.func50, Try.ntmps50
  go_wp2_with fail
  go_loopg [5] cs.length (fun gh i wr => ∃ k : Nat, gh = cs.length - k ∧ k ≤ cs.length ∧ i = .int .i64 k ∧ wr = w ∧ Hid (∀ j (hj : j < k) (hj2 : j < cs.length), badClause N cs[j] = false))
  case atStart => exact ⟨0, by omega, by omega, rfl, rfl, Lib.hid (fun j hj => by omega)⟩
  case round =>
    obtain ⟨k, rfl, hk, rfl, rfl, HB⟩ := hrel
    by_cases hlt : k < cs.length
    · obtain ⟨b, off, u, rfl, hbl, hcell, hu⟩ := HV.out k hlt
      have HM := Lib.hid (List.getElem_mem hlt)
      have HX0 := Lib.hid (rfl : cs[k] = cs[k])
      generalize hx : cs[k] = c at *
      have HX := Lib.hid hx
      clear hx
      obtain ⟨au, capu, rfl, hu1, hu2, hu3⟩ := hu
      have hum : c.length ≤ 9223372036854775807 := by unfold maxLen at hu2; omega
      have HU := Lib.hid hu3
      clear hu1 hu2 hu3
      by_cases hlong : 4096 < c.length
      · have HF := Lib.hid (not_right_of HM.out (badClause_long hlong : badClause N c = true))
        go_wp2_with fail
        go_ret
        exact ⟨ret_bool HF.out.symm, rfl⟩
      · go_wp2_with fail
        go_loopg [6] c.length (fun gh i w2 => ∃ j : Nat, gh = c.length - j ∧ j ≤ c.length ∧ i = .int .i64 j ∧ w2 = wr ∧ Hid (∀ t (ht : t < j) (ht2 : t < c.length), badLit N c[t] = false))
        case atStart => exact ⟨0, by omega, by omega, rfl, rfl, Lib.hid (fun j hj => by omega)⟩
        case round =>
          obtain ⟨j, rfl, hj, rfl, rfl, HT⟩ := hrel
          by_cases hjt : j < c.length
          · obtain ⟨b2, off2, y, rfl, hbl2, hcell2, hy⟩ := HU.out j hjt
            have HM2 := Lib.hid (List.getElem_mem hjt)
            have HY0 := Lib.hid (rfl : c[j] = c[j])
            unfold IntV at hy
            subst hy
            generalize hy2 : c[j] = n at *
            have HY := Lib.hid hy2
            clear hy2
            by_cases h0 : n = 0
            · have HF := Lib.hid (not_right_of HM.out (badClause_lit HM2.out (by simp [badLit, h0]) : badClause N c = true))
              have h0' : (n == 0) = true := by simpa using h0
              clear h0
              go_wp2_with fail
              go_ret
              exact ⟨ret_bool HF.out.symm, rfl⟩
            · have h0' : (n == 0) = false := by simpa using h0
              by_cases h1 : N < n
              · have HF := Lib.hid (not_right_of HM.out (badClause_lit HM2.out (by simp [badLit, h1]) : badClause N c = true))
                clear h0
                go_wp2_with fail
                go_ret
                exact ⟨ret_bool HF.out.symm, rfl⟩
              · by_cases h2 : n < -N
                · have HF := Lib.hid (not_right_of HM.out (badClause_lit HM2.out (by simp [badLit, h2]) : badClause N c = true))
                  clear h0
                  go_wp2_with fail
                  go_ret
                  exact ⟨ret_bool HF.out.symm, rfl⟩
                · have hgood : badLit N n = false := by simp [badLit, h0', h1, h2]
                  have HG := Lib.hid hgood
                  clear h0 hgood
                  go_wp2_with fail
                  go_roundg (c.length - (j + 1))
                  case measure => omega
                  case rel => exact ⟨j + 1, rfl, by omega, by go_num, rfl, Lib.hid (all_lt_succ (p := fun n => badLit N n = false) hjt HT.out (by rw [HY.out]; exact HG.out))⟩
          · obtain rfl : j = c.length := by omega
            have hgood : badClause N c = false := badClause_none hlong (all_mem HT.out)
            have HG := Lib.hid hgood
            clear hgood
            go_wp2_with fail
            go_roundg (cs.length - (k + 1))
            case measure => omega
            case rel => exact ⟨k + 1, rfl, by omega, by go_num, rfl, Lib.hid (all_lt_succ (p := fun c => badClause N c = false) hlt HB.out (by rw [HX.out]; exact HG.out))⟩
    · obtain rfl : k = cs.length := by omega
      have HF := Lib.hid (right_of (all_mem HB.out))
      go_wp2_with fail
      go_ret
      exact ⟨ret_bool HF.out.symm, rfl⟩

theorem validS_false {N : Int} {cs pr : List (List Int)} (h : N < 0 ∨ 4096 < N ∨ 16384 < cs.length + pr.length) : validS N cs pr = false := by
  unfold validS
  rcases h with h | h | h
  · rw [show decide (0 ≤ N) = false from by rw [decide_eq_false_iff_not]; omega]; rfl
  · rw [show decide (N ≤ 4096) = false from by rw [decide_eq_false_iff_not]; omega]; simp
  · rw [show decide (cs.length + pr.length ≤ 16384) = false from by rw [decide_eq_false_iff_not]; omega]; simp
theorem validS_of {n : Nat} {cs pr : List (List Int)} (h1 : n ≤ 4096) (h2 : cs.length + pr.length ≤ 16384) : validS n cs pr = (rightS n cs && rightS n pr) := by
  unfold validS
  rw [show decide ((0 : Int) ≤ n) = true from by simp, show decide ((n : Int) ≤ 4096) = true from by simp; omega, show decide (cs.length + pr.length ≤ 16384) = true from by simpa using h2]
  rfl

set_option maxHeartbeats 1000000 in
theorem rvalid_any (N : Int) (cs pr : List (List Int)) (vc vp : Value) (w : World) (hc : RdL (RdL (IntV .i64)) w vc cs) (hp : RdL (RdL (IntV .i64)) w vp pr) (hcn : cs.length ≤ 100000) (hpn : pr.length ≤ 100000) :
    Calls Try.prog 30 #[.int .i64 N, vc, vp] w fun e w' => e = .returned (.bool (validS N cs pr)) ∧ w = w' := by
  have HC := Lib.hid hc
  have HP := Lib.hid hp
  obtain ⟨ac, capc, rfl, hc1, hc2, hc3⟩ := hc
  obtain ⟨ap, capp, rfl, hp1, hp2, hp3⟩ := hp
  clear hc1 hc2 hc3 hp1 hp2 hp3
  by_cases h1 : N < 0
  · rw [validS_false (.inl h1)]
    go_enter Try.func30, Try.ntmps30
    go_wp2_with fail
    go_ret
    exact ⟨rfl, rfl⟩
  · by_cases h2 : 4096 < N
    · rw [validS_false (.inr (.inl h2))]
      go_enter Try.func30, Try.ntmps30
      go_wp2_with fail
      go_ret
      exact ⟨rfl, rfl⟩
    · by_cases h3 : 16384 < cs.length + pr.length
      · rw [validS_false (.inr (.inr h3))]
        go_enter Try.func30, Try.ntmps30
        go_wp2_with fail
        go_ret
        exact ⟨rfl, rfl⟩
      · obtain ⟨n, rfl⟩ := Int.eq_ofNat_of_zero_le (show 0 ≤ N by omega)
        rw [validS_of (by omega) (by omega)]
        have HR1 := Lib.hid (rright_any n cs _ w (by omega) HC.out)
        have HR2 := Lib.hid (rright_any n pr _ w (by omega) HP.out)
        cases hrc : rightS n cs
        all_goals
          rw [hrc] at HR1
          clear hrc
          cases hrp : rightS n pr
          all_goals
            rw [hrp] at HR2
            clear hrp
            go_enter Try.func30, Try.ntmps30
            go_wp2_with fail
            refine (HR1.out).mono ?_
            rintro e w1 ⟨rfl, rfl⟩
            go_wp2_with (refine (HR2.out).mono ?_; rintro e w1 ⟨rfl, rfl⟩)
            go_ret
            exact ⟨rfl, rfl⟩

theorem valid_parts {N : Int} {cs pr : List (List Int)} (h : validS N cs pr = true) : ∃ n : Nat, N = n ∧ n ≤ 4096 ∧ cs.length + pr.length ≤ 16384 ∧ LitsAll (n + 1) cs ∧ LitsAll (n + 1) pr ∧ (∀ c ∈ cs, c.length ≤ 4096) ∧ (∀ c ∈ pr, c.length ≤ 4096) := by
  simp only [validS, Bool.and_eq_true, decide_eq_true_eq] at h
  obtain ⟨⟨⟨⟨h1, h2⟩, h3⟩, h4⟩, h5⟩ := h
  obtain ⟨n, rfl⟩ := Int.eq_ofNat_of_zero_le h1
  obtain ⟨k1, k2⟩ := right_lits h4
  obtain ⟨k3, k4⟩ := right_lits h5
  exact ⟨n, rfl, by omega, h3, k1, k3, k2, k4⟩

set_option maxHeartbeats 1000000 in
theorem rcheck_any (N : Int) (cs pr : List (List Int)) (vc vp : Value) (w : World) (hc : RdL (RdL (IntV .i64)) w vc cs) (hp : RdL (RdL (IntV .i64)) w vp pr) (hcn : cs.length ≤ 100000) (hpn : pr.length ≤ 100000) :
    Calls Try.prog 13 #[.int .i64 N, vc, vp] w fun e w' => e = .returned (.int .i64 (checkS N cs pr)) ∧ Below w.heap.size w w' := by
  have HV := Lib.hid (rvalid_any N cs pr vc vp w hc hp hcn hpn)
  cases hv : validS N cs pr
  · have e : checkS N cs pr = 1 := by unfold checkS; rw [hv]; rfl
    rw [e]
    rw [hv] at HV
    clear e hv
    go_enter Try.func13, Try.ntmps13
    go_wp2_with (refine (HV.out).mono ?_; rintro e w1 ⟨rfl, rfl⟩)
    go_ret
    exact ⟨rfl, Below.refl _ _⟩
  · obtain ⟨n, rfl, k1, k2, k3, k4, k5, k6⟩ := valid_parts hv
    have HP := Lib.hid (rproves_any n cs pr vc vp w hc hp (by omega) k3 k4 hcn hpn (fun c hc => by have := k6 c hc; omega))
    have e : checkS n cs pr = if provesS n cs pr then 0 else 22 := by unfold checkS; rw [hv]; rfl
    rw [e]
    rw [hv] at HV
    clear e hv k1 k2 k3 k4 k5 k6
    cases hpv : provesS n cs pr
    all_goals
      rw [hpv] at HP
      clear hpv
      go_enter Try.func13, Try.ntmps13
      go_wp2_with fail
      refine (HV.out).mono ?_
      rintro e w1 ⟨rfl, rfl⟩
      go_wp2_with fail
      refine (HP.out).mono ?_
      rintro e w2 ⟨rfl, hb2⟩
      go_wp2_with fail
      go_ret
      exact ⟨rfl, hb2⟩
end Go.Proofs.Ythagkljenbhbdaa
