/-
  Package suite: shows at a leaf. No condition of its own. Package suite: what of returns, in short. No condition of its own. Package suite: Greedy. No condition of its own. Package suite: the certificate that Least makes: plain. No condition of its own. Package suite: the certificate that Least makes: its walk. No condition of its own. Package suite: the least set is a suite, and none costs less. No condition of its own. Package suite: Least. No condition of its own. The statements' small functions: of, own, plain. No condition of its own. Package suite: shows at an inner node; shows. No condition of its own. Package suite: Check. No condition of its own. Package suite: Greedy's walk. No condition of its own. Package suite: the certificate's size and depth. No condition of its own. The statements' functions: least, greedy, lives. No condition of its own. Suite: what the drawn rows are; when two lists of rows need the same. No condition of its own. Suite: sets that are suites in the reference's word; costs with one more, and multiplied. No condition of its own. SuiteMore: its walk. No condition of its own.
-/
import Derived.Test.YtgkhcjdpdgfdbaaDoorO3
import Derived.Test.YtgkhcjdpdgfdbaaDoorO2
namespace Go.Proofs.YtgkhcjdpdgfdbaaDoor
open Go Go.RowKit

attribute [local irreducible] EvOps EvC
attribute [local go_sem] List.getElem?_toArray
set_option linter.unusedSimpArgs false
set_option linter.unusedVariables false
set_option maxRecDepth 100000
set_option maxHeartbeats 4000000
abbrev mAt (ms : List Nat) (i : Int) : Nat := ms.getD i.toNat 0
/-- What a pack comes to; none: it is no pack. -/
def packN (ms : List Nat) (cost left : List Int) : Nat → Int → Int → List Int → Option Int
  | _, _, sum, [] => some sum
  | used, last, sum, i :: ps => if i ≤ last ∨ i ∉ left ∨ mAt ms i &&& used ≠ 0 then none else packN ms cost left (used ||| mAt ms i) i (sum + cheapS cost (ints (bitsN (mAt ms i)))) ps
mutual
def showsN (ms : List Nat) (cost : List Int) (bound : Int) : Crt → Nat → Bool
  | .mk r p k, b =>
    if k.length = 0 then (match packN ms cost (ints (leftN ms b)) 0 (-1) (priceS cost (ints (bitsN b))) p with | some s => decide (s ≥ bound) | none => false)
    else decide (p.length = 0) && decide (r ∈ ints (leftN ms b)) && decide ((bitsN (mAt ms r)).length = k.length) && showsLN ms cost bound k (bitsN (mAt ms r)) b
def showsLN (ms : List Nat) (cost : List Int) (bound : Int) : List Crt → List Nat → Nat → Bool
  | c :: cs, t :: l, b => showsN ms cost bound c (b ||| 2 ^ t) && showsLN ms cost bound cs l b
  | _, _, _ => true
end
theorem packN_drop {ms : List Nat} {cost left : List Int} {u : Nat} {la s : Int} {p : List Int} {i : Nat} (h : i < p.length) : packN ms cost left u la s (p.drop i) = if p[i] ≤ la ∨ p[i] ∉ left ∨ mAt ms p[i] &&& u ≠ 0 then none else packN ms cost left (u ||| mAt ms p[i]) p[i] (s + cheapS cost (ints (bitsN (mAt ms p[i])))) (p.drop (i + 1)) := by
  rw [drop_cons h, packN]
theorem mem_leftN {ms : List Nat} {b : Nat} {i : Int} (h : i ∈ ints (leftN ms b)) : 0 ≤ i ∧ i.toNat < ms.length := by
  obtain ⟨j, hj, rfl⟩ := List.mem_map.1 h
  have := List.mem_range.1 (List.mem_filter.1 hj).1
  omega
theorem mAt_eq {ms : List Nat} {i : Int} (h : i.toNat < ms.length) : ms[i.toNat] = mAt ms i := by simp [mAt, List.getD, h]
/-- Rows' sets as they may be. -/
def MsOK (ms : List Nat) (cost : List Int) : Prop := ms.length < 1000000 ∧ ∀ r ∈ ms, r < 2 ^ cost.length
theorem bitsN_in {b n : Nat} (hb : b < 2 ^ n) (hn : n ≤ 64) : In n (ints (bitsN b)) := by
  rw [bitsN_small hn hb]; exact subsetS_in b n
theorem pow16 {cost : List Int} (hc : CostOK cost) : 2 ^ cost.length ≤ 65536 := Nat.pow_le_pow_right (n := 2) (by omega) hc.1
theorem mAt_lt {ms : List Nat} {cost : List Int} (h : MsOK ms cost) (i : Int) : mAt ms i < 2 ^ cost.length := by
  by_cases hi : i.toNat < ms.length
  · rw [← mAt_eq hi]; exact h.2 _ (List.getElem_mem hi)
  · have : mAt ms i = 0 := by simp [mAt, List.getD, Nat.le_of_not_lt hi]
    rw [this]; exact Nat.two_pow_pos _
theorem shows_leaf (ms : List Nat) (cost : List Int) (bound : Int) (hm : MsOK ms cost) (hc : CostOK cost) (r : Int) (p : List Int) (k : List Crt) (hk : k.length = 0) (hp : p.length < 1000000) (b : Nat) (hb : b < 2 ^ cost.length) (sto : Sto) (lo : Nat) (hlo : lo ≤ sto.length) : CallEv Tryd.prog tab B0 45 [.v (PV ms cost), .v (CV (.mk r p k)), .v (VU b), .v (VI bound)] sto lo (.v (.bool (showsN ms cost bound (.mk r p k) b))) sto := by
  have h16 := pow16 hc
  have hms : ∀ r ∈ ms, r < 18446744073709551616 := fun r hr => by have := hm.2 r hr; omega
  have hlf := fun sto lo hlo => left_ev ms cost b (by omega) hm.1 hms sto lo hlo
  have hpx := fun sto lo hlo => price_ev ms cost b (by omega) hc (bitsN_in hb (by have := hc.1; omega)) sto lo hlo
  have hpr := priceS_bound hc (ints (bitsN b))
  have hbl : (ints (bitsN b)).length ≤ 64 := by simpa using subsetS_length b 64
  have hll : (ints (leftN ms b)).length < 1000000 := by have := leftN_length ms b; have := hm.1; simp; omega
  have hmem : ∀ i ∈ ints (leftN ms b), 0 ≤ i ∧ i.toNat < ms.length := fun i => mem_leftN
  have hS : showsN ms cost bound (.mk r p k) b = (match packN ms cost (ints (leftN ms b)) 0 (-1) (priceS cost (ints (bitsN b))) p with | some s => decide (s ≥ bound) | none => false) := by simp [showsN, hk]
  rw [hS]
  clear hS hms
  generalize ints (leftN ms b) = left at *
  generalize priceS cost (ints (bitsN b)) = px at *
  refine CallEv.intro ⟨_, _, [], Tryd.func45, rfl, by decide, ?_⟩; simp only [go_sem, Tryd.ntmps45]
  repeat' (first | (refine go ⟨?_⟩) | (first | ((refine call ?_); (refine ⟨_, hlf _ _ (by first | omega | (simp; done) | (simp; omega)), ?_⟩); (try simp only [go_sem])) | ((refine call ?_); (refine ⟨_, hpx _ _ (by first | omega | (simp; done) | (simp; omega)), ?_⟩); (try simp only [go_sem]))) | ((first | (refine bsp ?_ ?_) | (refine csp ?_ ?_)); all_goals (intro hb; (fail_if_success (cases hb; done)); (try simp only [decide_eq_true_eq, decide_eq_false_iff_not, beq_iff_eq, bne_iff_ne, ne_eq, beq_eq_false_iff_ne, bne_eq_false_iff_eq, Bool.not_eq_true', Bool.not_eq_false', Bool.and_eq_true, Bool.or_eq_true, Decidable.not_not] at hb); (try simp only [go_sem]))))
  refine c_loop (fun m s => ∃ (i u : Nat) (acc la : Int), (i ≤ p.length ∧ m = p.length - i ∧ u < 18446744073709551616 ∧ 0 ≤ acc ∧ acc ≤ (64 + i) * 1048576 ∧ Hid (packN ms cost left 0 (-1) px p = packN ms cost left u la acc (p.drop i))) ∧ (s.env.length = 120 ∧ s.sto = sto ++ [.cells [.v (SL VU ms), .v (LI cost)], .cells [.v (VI r), .v (LI p), .v (.sl k.length (cellsCs k))]] ∧ s.env[2]? = some (.v (VU b)) ∧ s.env[3]? = some (.v (VI bound)) ∧ s.env[4]? = some (.ptr sto.length 0) ∧ s.env[5]? = some (.ptr (sto.length + 1) 0) ∧ s.env[9]? = some (.v (LI left)) ∧ s.env[10]? = some (.v (VU u)) ∧ s.env[11]? = some (.v (VI acc)) ∧ s.env[12]? = some (.v (VI la)) ∧ s.env[29]? = some (.v (LI p)) ∧ s.env[30]? = some (.v (VI p.length)) ∧ s.env[31]? = some (.v (VI i)))) (.refl _) ⟨0, 0, px, -1, ⟨by omega, rfl, by omega, by omega, by omega, Lib.hid rfl⟩, rfl, rfl, ?_, ?_, ?_, ?_, ?_, ?_, ?_, ?_, ?_, ?_, ?_⟩ ?_
  all_goals first | rfl | skip
  rintro m s ⟨i, u, acc, la, ⟨h1, rfl, hu, ha1, ha2, h3⟩, hL, hT, k2, k3, k4, k5, k9, k10, k11, k12, k29, k30, k31⟩
  obtain ⟨env, st0⟩ := s; obtain ⟨J, hJ⟩ := listJ hL; rw [show (List.range 120).map J = J 0 :: J 1 :: J 2 :: J 3 :: J 4 :: J 5 :: J 6 :: J 7 :: J 8 :: J 9 :: J 10 :: J 11 :: J 12 :: J 13 :: J 14 :: J 15 :: J 16 :: J 17 :: J 18 :: J 19 :: J 20 :: J 21 :: J 22 :: J 23 :: J 24 :: J 25 :: J 26 :: J 27 :: J 28 :: J 29 :: J 30 :: J 31 :: J 32 :: J 33 :: J 34 :: J 35 :: J 36 :: J 37 :: J 38 :: J 39 :: J 40 :: J 41 :: J 42 :: J 43 :: J 44 :: J 45 :: J 46 :: J 47 :: J 48 :: J 49 :: J 50 :: J 51 :: J 52 :: J 53 :: J 54 :: J 55 :: J 56 :: J 57 :: J 58 :: J 59 :: J 60 :: J 61 :: J 62 :: J 63 :: J 64 :: J 65 :: J 66 :: J 67 :: J 68 :: J 69 :: J 70 :: J 71 :: J 72 :: J 73 :: J 74 :: J 75 :: J 76 :: J 77 :: J 78 :: J 79 :: J 80 :: J 81 :: J 82 :: J 83 :: J 84 :: J 85 :: J 86 :: J 87 :: J 88 :: J 89 :: J 90 :: J 91 :: J 92 :: J 93 :: J 94 :: J 95 :: J 96 :: J 97 :: J 98 :: J 99 :: J 100 :: J 101 :: J 102 :: J 103 :: J 104 :: J 105 :: J 106 :: J 107 :: J 108 :: J 109 :: J 110 :: J 111 :: J 112 :: J 113 :: J 114 :: J 115 :: J 116 :: J 117 :: J 118 :: J 119 :: [] from by kernel_rfl] at hJ; replace k2 := Option.some.inj ((congrArg (·[2]?) hJ).symm.trans k2); replace k3 := Option.some.inj ((congrArg (·[3]?) hJ).symm.trans k3); replace k4 := Option.some.inj ((congrArg (·[4]?) hJ).symm.trans k4); replace k5 := Option.some.inj ((congrArg (·[5]?) hJ).symm.trans k5); replace k9 := Option.some.inj ((congrArg (·[9]?) hJ).symm.trans k9); replace k10 := Option.some.inj ((congrArg (·[10]?) hJ).symm.trans k10); replace k11 := Option.some.inj ((congrArg (·[11]?) hJ).symm.trans k11); replace k12 := Option.some.inj ((congrArg (·[12]?) hJ).symm.trans k12); replace k29 := Option.some.inj ((congrArg (·[29]?) hJ).symm.trans k29); replace k30 := Option.some.inj ((congrArg (·[30]?) hJ).symm.trans k30); replace k31 := Option.some.inj ((congrArg (·[31]?) hJ).symm.trans k31); rw [k2, k3, k4, k5, k9, k10, k11, k12, k29, k30, k31] at hJ; dsimp only at hJ hT; subst hJ; replace hT := hT.symm; subst hT; clear hL k2 k3 k4 k5 k9 k10 k11 k12 k29 k30 k31
  clear hlf hpx
  have h3 : _ = _ := h3
  by_cases hi : i < p.length
  · rw [packN_drop hi] at h3
    have hh3 := Lib.hid h3
    clear h3
    have hcn := fun sto lo hlo => containsI_ev left p[i] (by omega) sto lo hlo
    by_cases hq : p[i] ∈ left
    · obtain ⟨hq0, hq1⟩ := hmem _ hq
      have hra := mAt_eq hq1
      have hml := mAt_lt hm p[i]
      have hcb := cheapS_bound hc (ints (bitsN (mAt ms p[i])))
      have hor : u ||| mAt ms p[i] < 18446744073709551616 := Nat.or_lt_two_pow (n := 64) hu (by omega)
      have hch := fun sto lo hlo => cheapest_ev ms cost (mAt ms p[i]) (by omega) (bitsN_in hml (by have := hc.1; omega)) sto lo hlo
      rw [← hra] at hml hch hor
      have hqh := Lib.hid hq
      rw [decide_eq_true hq] at hcn
      rw [← hra] at hcb
      clear hq
      have hrah := Lib.hid hra
      clear hra hpr hm hc hmem
      generalize hcq : cheapS cost (ints (bitsN ms[p[i].toNat])) = cq at *
      have hcqh := Lib.hid hcq
      clear hcq
      repeat' (first | (refine go ⟨?_⟩) | (first | ((refine call ?_); (refine ⟨_, hcn _ _ (by first | omega | (simp; done) | (simp; omega)), ?_⟩); (try simp only [go_sem])) | ((refine call ?_); (refine ⟨_, hch _ _ (by first | omega | (simp; done) | (simp; omega)), ?_⟩); (try simp only [go_sem]))) | ((first | (refine bsp ?_ ?_) | (refine csp ?_ ?_)); all_goals (intro hb; (fail_if_success (cases hb; done)); (try simp only [decide_eq_true_eq, decide_eq_false_iff_not, beq_iff_eq, bne_iff_ne, ne_eq, beq_eq_false_iff_ne, bne_eq_false_iff_eq, Bool.not_eq_true', Bool.not_eq_false', Bool.and_eq_true, Bool.or_eq_true, Decidable.not_not] at hb); (try simp only [go_sem]))))
      · refine ⟨by first | exact .inr rfl | exact .inl rfl, .inl ⟨[], _, (by dsimp only [Tryd.f45]; exact sv), ?_, by simp⟩⟩
        have h4 : _ = _ := h3
        have h5 : _ = _ := hh3
        rw [h5, if_pos (.inl hb)]
      · refine ⟨by first | exact .inr rfl | exact .inl rfl, .inl ⟨[], _, (by dsimp only [Tryd.f45]; exact sv), ?_, by simp⟩⟩
        have h4 : _ = _ := h3
        have h5 : _ = _ := hh3
        have h6 : _ = _ := hrah
        rw [h5, if_pos (.inr (.inr (by rw [← h6]; omega)))]
      · rename_i hb1 hb2
        have h5 : _ = _ := hh3
        have h6 : _ = _ := hrah
        have h7 : _ = _ := hcqh
        have hng : ¬ (p[i] ≤ la ∨ p[i] ∉ left ∨ mAt ms p[i] &&& u ≠ 0) := by
          rw [← h6]
          rintro (h | h | h)
          · omega
          · exact h hqh
          · omega
        rw [if_neg hng, ← h6, h7] at h5
        refine ⟨_, _, ?_, .refl _, i + 1, _, _, _, ⟨by omega, rfl, hor, ?_, ?_, Lib.hid h5⟩, rfl, rfl, ?_, ?_, ?_, ?_, ?_, ?_, ?_, ?_, ?_, ?_, ?_⟩
        · omega
        · omega
        · omega
        all_goals rfl
    · have hqh := Lib.hid hq
      rw [decide_eq_false hq] at hcn
      repeat' (first | (refine go ⟨?_⟩) | (((refine call ?_); (refine ⟨_, hcn _ _ (by first | omega | (simp; done) | (simp; omega)), ?_⟩); (try simp only [go_sem]))) | ((first | (refine bsp ?_ ?_) | (refine csp ?_ ?_)); all_goals (intro hb; (fail_if_success (cases hb; done)); (try simp only [decide_eq_true_eq, decide_eq_false_iff_not, beq_iff_eq, bne_iff_ne, ne_eq, beq_eq_false_iff_ne, bne_eq_false_iff_eq, Bool.not_eq_true', Bool.not_eq_false', Bool.and_eq_true, Bool.or_eq_true, Decidable.not_not] at hb); (try simp only [go_sem]))))
      all_goals (refine ⟨by first | exact .inr rfl | exact .inl rfl, .inl ⟨[], _, (by dsimp only [Tryd.f45]; exact sv), ?_, by simp⟩⟩)
      all_goals
        have h4 : _ = _ := h3
        have h5 : _ = _ := hh3
        rw [h5, if_pos (.inr (.inl hqh))]
  · repeat' (first | (refine go ⟨?_⟩) | (fail) | ((first | (refine bsp ?_ ?_) | (refine csp ?_ ?_)); all_goals (intro hb; (fail_if_success (cases hb; done)); (try simp only [decide_eq_true_eq, decide_eq_false_iff_not, beq_iff_eq, bne_iff_ne, ne_eq, beq_eq_false_iff_ne, bne_eq_false_iff_eq, Bool.not_eq_true', Bool.not_eq_false', Bool.and_eq_true, Bool.or_eq_true, Decidable.not_not] at hb); (try simp only [go_sem]))))
    refine ⟨by first | exact .inr rfl | exact .inl rfl, .inl ⟨[], _, (by dsimp only [Tryd.f45]; exact sv), ?_, by simp⟩⟩
    rw [h3, List.drop_of_length_le (by omega), packN]
end Go.Proofs.YtgkhcjdpdgfdbaaDoor
namespace Go.Proofs.YtgkhcjdpdgfdbaaDoor
theorem ofP_pos {rows : List (List Int)} {cost : List Int} (h : possS rows cost = true) : ofP rows cost = PV (rows.map maskS) cost := by
  rw [possP_eq] at h
  simp only [Bool.and_eq_true, Bool.not_eq_true', decide_eq_false_iff_not] at h
  rw [ofP, if_neg h.1, takeWhile_all (List.all_eq_true.1 h.2)]
theorem ofP_some (rows : List (List Int)) (cost : List Int) : ∃ ms, ofP rows cost = PV ms cost := by
  rw [ofP]; split
  · exact ⟨_, rfl⟩
  · exact ⟨_, rfl⟩
theorem maskOK {rows : List (List Int)} {cost : List Int} (h : possS rows cost = true) : MsOK (rows.map maskS) cost := by
  obtain ⟨h1, h2, h3⟩ := possS_ok h
  refine ⟨by simp; omega, fun r hr => ?_⟩
  obtain ⟨row, hrow, rfl⟩ := List.mem_map.1 hr
  exact mask_lt (h3 row hrow)
end Go.Proofs.YtgkhcjdpdgfdbaaDoor
namespace Go.Proofs.YtgkhcjdpdgfdbaaDoor
open Go Go.RowKit

attribute [local irreducible] EvOps EvC
attribute [local go_sem] List.getElem?_toArray
set_option linter.unusedSimpArgs false
set_option linter.unusedVariables false
set_option maxRecDepth 100000
set_option maxHeartbeats 4000000
def killN (ms : List Nat) (left : List Int) (t : Nat) : Nat := left.countP fun i => (mAt ms i).testBit t
abbrev GS := Int × Int
def gstep (ms : List Nat) (cost left : List Int) (s : GS) (t : Nat) : GS :=
  if killN ms left t = 0 then s
  else if s.1 < 0 ∨ (killN ms left t : Int) * cAt cost s.1 > s.2 * cAt cost t ∨ ((killN ms left t : Int) * cAt cost s.1 = s.2 * cAt cost t ∧ (killN ms left t : Int) > s.2) then ((t : Int), (killN ms left t : Int))
  else s
def gfold (ms : List Nat) (cost left : List Int) (t : Nat) : GS := (List.range t).foldl (gstep ms cost left) (-1, 0)
theorem gfold_succ (ms : List Nat) (cost left : List Int) (t : Nat) : gfold ms cost left (t + 1) = gstep ms cost left (gfold ms cost left t) t := by
  rw [gfold, List.range_succ, List.foldl_append]; rfl
theorem gfold_ok (ms : List Nat) (cost left : List Int) : ∀ t : Nat, -1 ≤ (gfold ms cost left t).1 ∧ (gfold ms cost left t).1 < t ∧ 0 ≤ (gfold ms cost left t).2 ∧ (gfold ms cost left t).2 ≤ left.length ∧ (0 ≤ (gfold ms cost left t).1 → 0 < killN ms left (gfold ms cost left t).1.toNat) ∧ ((gfold ms cost left t).1 < 0 → ∀ u, u < t → killN ms left u = 0)
  | 0 => by simp [gfold]
  | t + 1 => by
    obtain ⟨h1, h2, h3, h4, h5, h6⟩ := gfold_ok ms cost left t
    rw [gfold_succ, gstep]
    have hk : killN ms left t ≤ left.length := List.countP_le_length
    split
    · rename_i h0
      refine ⟨h1, by omega, h3, h4, h5, fun h u hu => ?_⟩
      rcases Nat.lt_succ_iff_lt_or_eq.1 hu with h7 | rfl
      · exact h6 h u h7
      · exact h0
    · rename_i h0
      split
      · refine ⟨by show -1 ≤ (t : Int); omega, by show (t : Int) < _; omega, by show 0 ≤ (_ : Int); omega, by show (_ : Int) ≤ _; omega, fun _ => by show 0 < killN ms left (t : Int).toNat; rw [Int.toNat_natCast]; omega, fun h => by have h : (t : Int) < 0 := h; omega⟩
      · rename_i h7
        refine ⟨h1, by omega, h3, h4, h5, fun h => ?_⟩
        exact absurd (.inl h) h7
/-- Greedy, with so many steps at most. -/
def greedyF (ms : List Nat) (cost : List Int) : Nat → Nat → Nat
  | 0, b => b
  | f + 1, b => if leftN ms b = [] then b else greedyF ms cost f (b ||| 2 ^ (gfold ms cost (ints (leftN ms b)) cost.length).1.toNat)
def greedyN (ms : List Nat) (cost : List Int) : Nat := greedyF ms cost (ms.length + 1) 0
theorem bit_or_lt {a t n : Nat} (ha : a < 2 ^ n) (ht : t < n) : a ||| 2 ^ t < 2 ^ n := Nat.or_lt_two_pow ha (Nat.pow_lt_pow_right (by omega) ht)
theorem getD_mAt (ms : List Nat) (i : Nat) : ms.getD i 0 = mAt ms (i : Int) := rfl
theorem and_zero_bit {a b : Nat} : a &&& b = 0 ↔ ∀ j, a.testBit j = true → b.testBit j = false := by
  constructor
  · intro h j h1
    have := Nat.testBit_and a b j
    rw [h, h1, Nat.zero_testBit, Bool.true_and] at this
    exact this.symm
  · intro h
    apply Nat.eq_of_testBit_eq
    intro j
    rw [Nat.testBit_and, Nat.zero_testBit]
    cases h1 : a.testBit j with
    | false => rfl
    | true => rw [h j h1]; rfl
theorem leftN_or (ms : List Nat) (b t : Nat) : leftN ms (b ||| 2 ^ t) = (leftN ms b).filter fun i : Nat => !(mAt ms (i : Int)).testBit t := by
  unfold leftN
  rw [List.filter_filter]
  refine List.filter_congr fun i hi => ?_
  rw [getD_mAt]
  generalize mAt ms (i : Int) = m
  have h1 : decide (m &&& (b ||| 2 ^ t) = 0) = (!m.testBit t && decide (m &&& b = 0)) := by
    rw [Bool.eq_iff_iff]
    simp only [decide_eq_true_eq, Bool.and_eq_true, Bool.not_eq_true']
    rw [and_zero_bit, and_zero_bit]
    constructor
    · intro h
      refine ⟨?_, fun j hj => ?_⟩
      · cases h2 : m.testBit t with
        | false => rfl
        | true => have := h t h2; rw [Nat.testBit_or, Nat.testBit_two_pow_self] at this; simp at this
      · have := h j hj; rw [Nat.testBit_or, Bool.or_eq_false_iff] at this; exact this.1
    · rintro ⟨h2, h3⟩ j hj
      rw [Nat.testBit_or, h3 j hj, Bool.false_or, Nat.testBit_two_pow, decide_eq_false_iff_not]
      rintro rfl
      rw [hj] at h2; cases h2
  rw [h1]
  cases m.testBit t <;> simp
theorem killN_ints (ms : List Nat) (l : List Nat) (t : Nat) : killN ms (ints l) t = l.countP fun i : Nat => (mAt ms (i : Int)).testBit t := by
  rw [killN, ints, List.countP_map]; rfl
theorem left_shorter {ms : List Nat} {cost : List Int} (hm : MsOK ms cost) {b : Nat} (h : leftN ms b ≠ []) : 0 ≤ (gfold ms cost (ints (leftN ms b)) cost.length).1 ∧ (leftN ms (b ||| 2 ^ (gfold ms cost (ints (leftN ms b)) cost.length).1.toNat)).length < (leftN ms b).length := by
  obtain ⟨h1, h2, h3, h4, h5, h6⟩ := gfold_ok ms cost (ints (leftN ms b)) cost.length
  generalize gfold ms cost (ints (leftN ms b)) cost.length = g at *
  have h0 : 0 ≤ g.1 := by
    rcases Int.lt_or_le g.1 0 with hg | hg
    · exfalso
      have h7 := h6 hg
      obtain ⟨i, hi⟩ := List.exists_mem_of_ne_nil _ h
      have hf := (List.mem_filter.1 hi).2
      rw [getD_mAt] at hf
      simp only [Bool.and_eq_true, decide_eq_true_eq] at hf
      apply hf.1
      apply Nat.eq_of_testBit_eq
      intro j
      rw [Nat.zero_testBit]
      rcases Nat.lt_or_ge j cost.length with hj | hj
      · have := h7 j hj
        rw [killN_ints, List.countP_eq_zero] at this
        simpa using this i hi
      · exact Nat.testBit_lt_two_pow (Nat.lt_of_lt_of_le (mAt_lt hm i) (Nat.pow_le_pow_right (by omega) hj))
    · exact hg
  refine ⟨h0, ?_⟩
  have h8 := h5 h0
  rw [killN_ints] at h8
  rw [leftN_or]
  generalize leftN ms b = l at *
  have h9 := @List.length_eq_countP_add_countP Nat (fun i : Nat => (mAt ms (i : Int)).testBit g.1.toNat) l
  rw [← List.countP_eq_length_filter]
  have h10 : List.countP (fun a : Nat => decide ¬(mAt ms (a : Int)).testBit g.1.toNat = true) l = List.countP (fun i : Nat => !(mAt ms (i : Int)).testBit g.1.toNat) l := by
    refine List.countP_congr fun i _ => ?_
    simp
  omega
theorem greedyF_stop {ms : List Nat} {cost : List Int} {f b : Nat} (h : leftN ms b = []) : greedyF ms cost f b = b := by
  cases f with
  | zero => rfl
  | succ f => rw [greedyF, if_pos h]
theorem shrU {m t : Nat} (ht : t < 64) : ((m : Int).fdiv (2 ^ min (t : Int).toNat 64)) = ((m >>> t : Nat) : Int) := by
  rw [Int.toNat_natCast, Nat.min_eq_left (by omega), Nat.shiftRight_eq_div_pow, Int.fdiv_eq_ediv_of_nonneg _ (by exact_mod_cast Nat.zero_le _)]
  simp
theorem bitOne (m t : Nat) : (m >>> t) &&& 1 = if m.testBit t then 1 else 0 := by
  rw [Nat.and_one_is_mod, Nat.testBit_eq_decide_div_mod_eq, Nat.shiftRight_eq_div_pow]
  by_cases h : m / 2 ^ t % 2 = 1
  · simp [h]
  · simp [h]; omega
end Go.Proofs.YtgkhcjdpdgfdbaaDoor
namespace Go.Proofs.YtgkhcjdpdgfdbaaDoor
/-- Used, pack, sum. -/
abbrev KS := Nat × List Int × Int
def pstep (ms : List Nat) (cost : List Int) (s : KS) (i : Int) : KS :=
  if mAt ms i &&& s.1 = 0 then (s.1 ||| mAt ms i, s.2.1 ++ [i], s.2.2 + cheapS cost (ints (bitsN (mAt ms i)))) else s
def pfold (ms : List Nat) (cost : List Int) (px : Int) (left : List Int) : KS := left.foldl (pstep ms cost) (0, [], px)
theorem pfold_take (ms : List Nat) (cost : List Int) (px : Int) {left : List Int} {i : Nat} (h : i < left.length) : pfold ms cost px (left.take (i + 1)) = pstep ms cost (pfold ms cost px (left.take i)) left[i] := by
  rw [List.take_succ_eq_append_getElem h, pfold, List.foldl_append]; rfl
/-- The row that branches. -/
def onesD (ms : List Nat) (x y : Int) : Int := ((bitsN (mAt ms x)).length : Int) - ((bitsN (mAt ms y)).length : Int)
def minRow (ms : List Nat) : List Int → Int
  | [] => 0
  | x :: xs => minByI (onesD ms) x xs
def showC (ms : List Nat) (cost : List Int) (bound : Int) : Nat → Nat → Crt
  | 0, _ => .mk 0 [] []
  | f + 1, b =>
    if (pfold ms cost (priceS cost (ints (bitsN b))) (ints (leftN ms b))).2.2 ≥ bound then .mk 0 (pfold ms cost (priceS cost (ints (bitsN b))) (ints (leftN ms b))).2.1 []
    else .mk (minRow ms (ints (leftN ms b))) [] ((bitsN (mAt ms (minRow ms (ints (leftN ms b))))).map fun t => showC ms cost bound f (b ||| 2 ^ t))
def miss (n b : Nat) : Nat := (List.range n).countP fun t => !b.testBit t
theorem miss_lt {n b t : Nat} (ht : t < n) (hb : b.testBit t = false) : miss n (b ||| 2 ^ t) < miss n b := by
  unfold miss
  have h1 : ∀ l : List Nat, l.countP (fun t' => !(b ||| 2 ^ t).testBit t') ≤ l.countP (fun t => !b.testBit t) := by
    intro l
    refine List.countP_mono_left fun x _ h => ?_
    rw [Nat.testBit_or] at h
    simp only [Bool.not_eq_true', Bool.or_eq_false_iff] at h ⊢
    exact h.1
  have h2 : ∀ l : List Nat, t ∈ l → l.countP (fun t' => !(b ||| 2 ^ t).testBit t') < l.countP (fun t => !b.testBit t) := by
    intro l
    induction l with
    | nil => intro h; cases h
    | cons x l ih =>
      intro h
      rw [List.countP_cons, List.countP_cons]
      have h3 := h1 l
      by_cases hx : x = t
      · subst hx
        rw [if_neg (by rw [Nat.testBit_or, Nat.testBit_two_pow_self]; simp), if_pos (by rw [hb]; rfl)]
        omega
      · have h4 := ih (by rcases List.mem_cons.1 h with h | h; exact absurd h.symm hx; exact h)
        have h5 : (!(b ||| 2 ^ t).testBit x) = !b.testBit x := by
          rw [Nat.testBit_or, Nat.testBit_two_pow, decide_eq_false (fun h => hx h.symm), Bool.or_false]
        rw [h5]
        omega
  exact h2 _ (List.mem_range.2 ht)
theorem minByI_mem (c : Int → Int → Int) : ∀ (xs : List Int) (x : Int), minByI c x xs = x ∨ minByI c x xs ∈ xs
  | [], x => .inl rfl
  | y :: xs, x => by
    rw [minByI, List.foldl_cons, ← minByI]
    rcases minByI_mem c xs (if c y x < 0 then y else x) with h | h
    · rw [h]
      split
      · exact .inr (by simp)
      · exact .inl rfl
    · exact .inr (by simp [h])
theorem minRow_mem {ms : List Nat} {l : List Int} (h : l ≠ []) : minRow ms l ∈ l := by
  cases l with
  | nil => exact absurd rfl h
  | cons x xs =>
    rw [minRow]
    rcases minByI_mem (onesD ms) xs x with h | h
    · rw [h]; simp
    · simp [h]
theorem leftN_and {ms : List Nat} {b : Nat} {i : Int} (h : i ∈ ints (leftN ms b)) : mAt ms i &&& b = 0 := by
  obtain ⟨j, hj, rfl⟩ := List.mem_map.1 h
  have := (List.mem_filter.1 hj).2
  simp only [Bool.and_eq_true, decide_eq_true_eq] at this
  exact this.2
end Go.Proofs.YtgkhcjdpdgfdbaaDoor
namespace Go.Proofs.YtgkhcjdpdgfdbaaDoor
open Go Go.RowKit

attribute [local irreducible] EvOps EvC
theorem pbgo {p q : Prop} (k : Later q) (h : Later q → p := by (intro k; (first | with_reducible (first | refine c_seq ?_ | refine c_block ?_ | refine c_region ?_ | refine c_skip ?_ | refine c_exit ?_ | refine c_ret ?_ | refine then_normal ?_ | refine then_exit ?_ | refine then_ret ?_ | refine block_normal ?_ | refine block_here ?_ | refine block_ret ?_ | refine block_far (by decide) ?_ | refine ops_nil ?_ | refine c_cond_t rfl ?_ | refine c_cond_f rfl ?_) | ((with_reducible apply ops_pure); rfl; (simp (disch := (first | omega | assumption | ((repeat' with_reducible apply And.intro) <;> first | omega | assumption | rfl | (apply Or.inl; rfl) | (apply Or.inr; first | rfl | trivial | fail) | fail) | fail)) only [go_sem, if_pos, if_neg, wrapI, wrapU, decide_eq_true, decide_eq_false, beqT, beqF, bneT, bneF, List.getElem?_append_left, hp0, hp1, hp2] <;> rfl); simp only [go_sem]) | ((with_reducible apply ops_pureF); rfl; (intro _; simp (disch := (first | omega | assumption | ((repeat' with_reducible apply And.intro) <;> first | omega | assumption | rfl | (apply Or.inl; rfl) | (apply Or.inr; first | rfl | trivial | fail) | fail) | fail)) only [go_sem, if_pos, if_neg, wrapI, wrapU, decide_eq_true, decide_eq_false, beqT, beqF, bneT, bneF, List.getElem?_append_left, hp0, hp1, hp2] <;> rfl); simp only [go_sem]) | ((with_reducible apply ops_pureD); kernel_rfl; rfl; (simp (disch := (first | omega | assumption | ((repeat' with_reducible apply And.intro) <;> first | omega | assumption | rfl | (apply Or.inl; rfl) | (apply Or.inr; first | rfl | trivial | fail) | fail) | fail)) only [go_sem, if_pos, if_neg, wrapI, wrapU, decide_eq_true, decide_eq_false, beqT, beqF, bneT, bneF, List.getElem?_append_left, hp0, hp1, hp2] <;> rfl); simp only [go_sem]) | ((with_reducible apply ops_skip); rfl; simp only [go_sem]) | ((with_reducible apply c_regionD); kernel_rfl) | ((with_reducible apply ops_eff); decide; rfl; (simp (disch := (first | omega | assumption | ((repeat' with_reducible apply And.intro) <;> first | omega | assumption | rfl | (apply Or.inl; rfl) | (apply Or.inr; first | rfl | trivial | fail) | fail) | fail)) only [go_sem, if_pos, if_neg, wrapI, wrapU, decide_eq_true, decide_eq_false, beqT, beqF, bneT, bneF, List.getElem?_append_left, hp0, hp1, hp2] <;> rfl); simp only [go_sem])); (repeat (first | with_reducible (first | refine c_seq ?_ | refine c_block ?_ | refine c_region ?_ | refine c_skip ?_ | refine c_exit ?_ | refine c_ret ?_ | refine then_normal ?_ | refine then_exit ?_ | refine then_ret ?_ | refine block_normal ?_ | refine block_here ?_ | refine block_ret ?_ | refine block_far (by decide) ?_ | refine ops_nil ?_ | refine c_cond_t rfl ?_ | refine c_cond_f rfl ?_) | ((with_reducible apply ops_pure); rfl; (simp (disch := (first | omega | assumption | ((repeat' with_reducible apply And.intro) <;> first | omega | assumption | rfl | (apply Or.inl; rfl) | (apply Or.inr; first | rfl | trivial | fail) | fail) | fail)) only [go_sem, if_pos, if_neg, wrapI, wrapU, decide_eq_true, decide_eq_false, beqT, beqF, bneT, bneF, List.getElem?_append_left, hp0, hp1, hp2] <;> rfl); simp only [go_sem]) | ((with_reducible apply ops_pureF); rfl; (intro _; simp (disch := (first | omega | assumption | ((repeat' with_reducible apply And.intro) <;> first | omega | assumption | rfl | (apply Or.inl; rfl) | (apply Or.inr; first | rfl | trivial | fail) | fail) | fail)) only [go_sem, if_pos, if_neg, wrapI, wrapU, decide_eq_true, decide_eq_false, beqT, beqF, bneT, bneF, List.getElem?_append_left, hp0, hp1, hp2] <;> rfl); simp only [go_sem]) | ((with_reducible apply ops_pureD); kernel_rfl; rfl; (simp (disch := (first | omega | assumption | ((repeat' with_reducible apply And.intro) <;> first | omega | assumption | rfl | (apply Or.inl; rfl) | (apply Or.inr; first | rfl | trivial | fail) | fail) | fail)) only [go_sem, if_pos, if_neg, wrapI, wrapU, decide_eq_true, decide_eq_false, beqT, beqF, bneT, bneF, List.getElem?_append_left, hp0, hp1, hp2] <;> rfl); simp only [go_sem]) | ((with_reducible apply ops_skip); rfl; simp only [go_sem]) | ((with_reducible apply c_regionD); kernel_rfl) | ((with_reducible apply ops_eff); decide; rfl; (simp (disch := (first | omega | assumption | ((repeat' with_reducible apply And.intro) <;> first | omega | assumption | rfl | (apply Or.inl; rfl) | (apply Or.inr; first | rfl | trivial | fail) | fail) | fail)) only [go_sem, if_pos, if_neg, wrapI, wrapU, decide_eq_true, decide_eq_false, beqT, beqF, bneT, bneF, List.getElem?_append_left, hp0, hp1, hp2] <;> rfl); simp only [go_sem]))); exact k.get)) : p := h k
theorem pbgoX {p q : Prop} (k : Later q) (h : Later q → p := by (intro k; (first | with_reducible (first | refine c_seq ?_ | refine c_block ?_ | refine c_skip ?_ | refine c_exit ?_ | refine c_ret ?_ | refine then_normal ?_ | refine then_exit ?_ | refine then_ret ?_ | refine block_normal ?_ | refine block_here ?_ | refine block_ret ?_ | refine block_far (by decide) ?_ | refine ops_nil ?_ | refine c_cond_t rfl ?_ | refine c_cond_f rfl ?_) | ((with_reducible apply ops_pure); rfl; (simp (disch := (first | omega | assumption | ((repeat' with_reducible apply And.intro) <;> first | omega | assumption | rfl | (apply Or.inl; rfl) | (apply Or.inr; first | rfl | trivial | fail) | fail) | fail)) only [go_sem, if_pos, if_neg, wrapI, wrapU, decide_eq_true, decide_eq_false, beqT, beqF, bneT, bneF, List.getElem?_append_left, hp0, hp1, hp2] <;> rfl); simp only [go_sem]) | ((with_reducible apply ops_pureF); rfl; (intro _; simp (disch := (first | omega | assumption | ((repeat' with_reducible apply And.intro) <;> first | omega | assumption | rfl | (apply Or.inl; rfl) | (apply Or.inr; first | rfl | trivial | fail) | fail) | fail)) only [go_sem, if_pos, if_neg, wrapI, wrapU, decide_eq_true, decide_eq_false, beqT, beqF, bneT, bneF, List.getElem?_append_left, hp0, hp1, hp2] <;> rfl); simp only [go_sem]) | ((with_reducible apply ops_pureD); kernel_rfl; rfl; (simp (disch := (first | omega | assumption | ((repeat' with_reducible apply And.intro) <;> first | omega | assumption | rfl | (apply Or.inl; rfl) | (apply Or.inr; first | rfl | trivial | fail) | fail) | fail)) only [go_sem, if_pos, if_neg, wrapI, wrapU, decide_eq_true, decide_eq_false, beqT, beqF, bneT, bneF, List.getElem?_append_left, hp0, hp1, hp2] <;> rfl); simp only [go_sem]) | ((with_reducible apply ops_skip); rfl; simp only [go_sem]) | ((with_reducible apply c_regionD); kernel_rfl) | ((with_reducible apply ops_eff); decide; rfl; (simp (disch := (first | omega | assumption | ((repeat' with_reducible apply And.intro) <;> first | omega | assumption | rfl | (apply Or.inl; rfl) | (apply Or.inr; first | rfl | trivial | fail) | fail) | fail)) only [go_sem, if_pos, if_neg, wrapI, wrapU, decide_eq_true, decide_eq_false, beqT, beqF, bneT, bneF, List.getElem?_append_left, hp0, hp1, hp2] <;> rfl); simp only [go_sem])); (repeat (first | with_reducible (first | refine c_seq ?_ | refine c_block ?_ | refine c_skip ?_ | refine c_exit ?_ | refine c_ret ?_ | refine then_normal ?_ | refine then_exit ?_ | refine then_ret ?_ | refine block_normal ?_ | refine block_here ?_ | refine block_ret ?_ | refine block_far (by decide) ?_ | refine ops_nil ?_ | refine c_cond_t rfl ?_ | refine c_cond_f rfl ?_) | ((with_reducible apply ops_pure); rfl; (simp (disch := (first | omega | assumption | ((repeat' with_reducible apply And.intro) <;> first | omega | assumption | rfl | (apply Or.inl; rfl) | (apply Or.inr; first | rfl | trivial | fail) | fail) | fail)) only [go_sem, if_pos, if_neg, wrapI, wrapU, decide_eq_true, decide_eq_false, beqT, beqF, bneT, bneF, List.getElem?_append_left, hp0, hp1, hp2] <;> rfl); simp only [go_sem]) | ((with_reducible apply ops_pureF); rfl; (intro _; simp (disch := (first | omega | assumption | ((repeat' with_reducible apply And.intro) <;> first | omega | assumption | rfl | (apply Or.inl; rfl) | (apply Or.inr; first | rfl | trivial | fail) | fail) | fail)) only [go_sem, if_pos, if_neg, wrapI, wrapU, decide_eq_true, decide_eq_false, beqT, beqF, bneT, bneF, List.getElem?_append_left, hp0, hp1, hp2] <;> rfl); simp only [go_sem]) | ((with_reducible apply ops_pureD); kernel_rfl; rfl; (simp (disch := (first | omega | assumption | ((repeat' with_reducible apply And.intro) <;> first | omega | assumption | rfl | (apply Or.inl; rfl) | (apply Or.inr; first | rfl | trivial | fail) | fail) | fail)) only [go_sem, if_pos, if_neg, wrapI, wrapU, decide_eq_true, decide_eq_false, beqT, beqF, bneT, bneF, List.getElem?_append_left, hp0, hp1, hp2] <;> rfl); simp only [go_sem]) | ((with_reducible apply ops_skip); rfl; simp only [go_sem]) | ((with_reducible apply c_regionD); kernel_rfl) | ((with_reducible apply ops_eff); decide; rfl; (simp (disch := (first | omega | assumption | ((repeat' with_reducible apply And.intro) <;> first | omega | assumption | rfl | (apply Or.inl; rfl) | (apply Or.inr; first | rfl | trivial | fail) | fail) | fail)) only [go_sem, if_pos, if_neg, wrapI, wrapU, decide_eq_true, decide_eq_false, beqT, beqF, bneT, bneF, List.getElem?_append_left, hp0, hp1, hp2] <;> rfl); simp only [go_sem]))); exact k.get)) : p := h k
theorem pbsv {p : Prop} (h : p := by simp (disch := (first | omega | assumption | ((repeat' with_reducible apply And.intro) <;> first | omega | assumption | rfl | (apply Or.inl; rfl) | (apply Or.inr; first | rfl | trivial | fail) | fail) | fail)) only [go_sem, if_pos, if_neg, wrapI, wrapU, decide_eq_true, decide_eq_false, beqT, beqF, bneT, bneF, List.getElem?_append_left, hp0, hp1, hp2] <;> rfl) : p := h
theorem pbcall {T : Tab} {X : CallP} {n0 lo : Nat} {wt : List Tmp} {draw : Bool} {ops : Array Oper} {Q : St → Prop} {rest : List Oper} {o : Oper} {env : List D} {sto : Sto} {f : FuncId} {args : List D} (k : ∃ r, X f args sto (if draw then sto.length else lo) r sto ∧ EvOps T X n0 lo wt draw ops Q rest (St.put ⟨env, sto⟩ o.dst r)) (hg : guardD ops o env = some true := by rfl) (h : evCallee (opd env) sto o = some (f, args) := by simp (disch := (first | omega | assumption | ((repeat' with_reducible apply And.intro) <;> first | omega | assumption | rfl | (apply Or.inl; rfl) | (apply Or.inr; first | rfl | trivial | fail) | fail) | fail)) only [go_sem, if_pos, if_neg, wrapI, wrapU, decide_eq_true, decide_eq_false, beqT, beqF, bneT, bneF, List.getElem?_append_left, hp0, hp1, hp2] <;> rfl) : EvOps T X n0 lo wt draw ops Q (o :: rest) ⟨env, sto⟩ := k.elim fun _ k => ops_call hg h k.1 k.2
attribute [local go_sem] List.getElem?_toArray getS
set_option linter.unusedSimpArgs false
set_option linter.unusedVariables false
set_option maxRecDepth 100000
set_option maxHeartbeats 4000000
theorem least11_ev (ms : List Nat) (cost : List Int) (hms : ∀ r ∈ ms, r < 256) (x y : Int) (hx : 0 ≤ x ∧ x.toNat < ms.length) (hy : 0 ≤ y ∧ y.toNat < ms.length) (ip : Nat) (sto : Sto) (lo : Nat) (hlo : lo ≤ sto.length) (hp : sto[ip]? = some (.cells [.v (SL VU ms), .v (LI cost)])) : CallEv Tryd.prog tab B0 39 [.v (VI x), .v (VI y), .ptr ip 0] sto lo (.v (VI (onesD ms x y))) sto := by
  have hipl : ip < sto.length := (List.getElem?_eq_some_iff.1 hp).1
  obtain ⟨hx0, hx1⟩ := hx
  obtain ⟨hy0, hy1⟩ := hy
  have h1 := fun sto lo hlo => ones_ev ms[x.toNat] (hms _ (List.getElem_mem hx1)) sto lo hlo
  have h2 := fun sto lo hlo => ones_ev ms[y.toNat] (hms _ (List.getElem_mem hy1)) sto lo hlo
  have l1 : (bitsN ms[x.toNat]).length ≤ 64 := subsetS_length _ 64
  have l2 : (bitsN ms[y.toNat]).length ≤ 64 := subsetS_length _ 64
  rw [onesD, ← mAt_eq hx1, ← mAt_eq hy1]
  generalize (bitsN ms[x.toNat]).length = n1 at *
  generalize (bitsN ms[y.toNat]).length = n2 at *
  have hp0 := hp
  have hp1 := hp
  have hp2 := hp
  refine CallEv.intro ⟨_, _, [], Tryd.func39, rfl, by decide, ?_⟩; simp only [go_sem, Tryd.ntmps39]
  repeat' (first | (refine pbgo ⟨?_⟩) | (first | ((refine pbcall ?_); (refine ⟨_, h1 _ _ (by first | omega | (simp; done) | (simp; omega)), ?_⟩); (try simp only [go_sem])) | ((refine pbcall ?_); (refine ⟨_, h2 _ _ (by first | omega | (simp; done) | (simp; omega)), ?_⟩); (try simp only [go_sem]))) | ((first | (refine bsp ?_ ?_) | (refine csp ?_ ?_)); all_goals (intro hb; (fail_if_success (cases hb; done)); (try simp only [decide_eq_true_eq, decide_eq_false_iff_not, beq_iff_eq, bne_iff_ne, ne_eq, beq_eq_false_iff_ne, bne_eq_false_iff_eq, Bool.not_eq_true', Bool.not_eq_false', Bool.and_eq_true, Bool.or_eq_true, Decidable.not_not] at hb); (try simp only [go_sem]))))
  refine ⟨by first | exact .inr rfl | exact .inl rfl, .inl ⟨[], _, (by dsimp only [Tryd.f39]; exact pbsv), ?_, by simp⟩⟩
  rfl
theorem cellsCs_append (a b : List Crt) : cellsCs (a ++ b) = cellsCs a ++ cellsCs b := by
  induction a with
  | nil => rfl
  | cons c a ih => rw [List.cons_append, cellsCs, ih, cellsCs, List.append_assoc]
theorem show1_ev (ms : List Nat) (cost : List Int) (bound : Int) (hm : MsOK ms cost) (hc : CostOK cost) (hc8 : cost.length ≤ 8) (hopt : ∀ b, b < 2 ^ cost.length → leftN ms b = [] → bound ≤ priceS cost (ints (bitsN b))) (ip ib is : Nat) (f : Nat) : ∀ (b : Nat) (sto : Sto) (lo : Nat), miss cost.length b < f → b < 2 ^ cost.length → lo ≤ sto.length → sto[ip]? = some (.cells [.v (SL VU ms), .v (LI cost)]) → sto[ib]? = some (.cells [.v (VI bound)]) → sto[is]? = some (.cells [.clo 35 [ip, ib, is]]) → CallEv Tryd.prog tab B0 35 [.v (VU b), .ptr ip 0, .ptr ib 0, .ptr is 0] sto lo (.v (CV (showC ms cost bound f b))) sto := by
  induction f with
  | zero => intro b sto lo h; omega
  | succ f ih =>
    intro b sto lo hmiss hb hlo hp0 hp1 hp2
    have hl0 : ip < sto.length := (List.getElem?_eq_some_iff.1 hp0).1
    have hl1 : ib < sto.length := (List.getElem?_eq_some_iff.1 hp1).1
    have hl2 : is < sto.length := (List.getElem?_eq_some_iff.1 hp2).1
    have h16 := pow16 hc
    have hpw : 2 ^ cost.length ≤ 256 := Nat.pow_le_pow_right (n := 2) (by omega) hc8
    have hms : ∀ r ∈ ms, r < 18446744073709551616 := fun r hr => by have := hm.2 r hr; omega
    have hlf := fun sto lo hlo => left_ev ms cost b (by omega) hm.1 hms sto lo hlo
    have hpx := fun sto lo hlo => price_ev ms cost b (by omega) hc (bitsN_in hb (by omega)) sto lo hlo
    have hpr := priceS_bound hc (ints (bitsN b))
    have hbl : (ints (bitsN b)).length ≤ 64 := by simpa using subsetS_length b 64
    have hll : (ints (leftN ms b)).length < 1000000 := by have := leftN_length ms b; have := hm.1; simp; omega
    have hmem : ∀ i ∈ ints (leftN ms b), 0 ≤ i ∧ i.toNat < ms.length ∧ mAt ms i &&& b = 0 := fun i h => ⟨(mem_leftN h).1, (mem_leftN h).2, leftN_and h⟩
    have hne : ints (leftN ms b) = [] → bound ≤ priceS cost (ints (bitsN b)) := fun h => hopt b hb (by simpa using h)
    rw [showC]
    generalize ints (leftN ms b) = left at *
    generalize priceS cost (ints (bitsN b)) = px at *
    refine CallEv.intro ⟨_, _, [], Tryd.func35, rfl, by decide, ?_⟩; simp only [go_sem, Tryd.ntmps35]
    repeat' (first | (refine pbgo ⟨?_⟩) | (first | ((refine pbcall ?_); (refine ⟨_, hlf _ _ (by first | omega | (simp; done) | (simp; omega)), ?_⟩); (try simp only [go_sem])) | ((refine pbcall ?_); (refine ⟨_, hpx _ _ (by first | omega | (simp; done) | (simp; omega)), ?_⟩); (try simp only [go_sem]))) | ((first | (refine bsp ?_ ?_) | (refine csp ?_ ?_)); all_goals (intro hb; (fail_if_success (cases hb; done)); (try simp only [decide_eq_true_eq, decide_eq_false_iff_not, beq_iff_eq, bne_iff_ne, ne_eq, beq_eq_false_iff_ne, bne_eq_false_iff_eq, Bool.not_eq_true', Bool.not_eq_false', Bool.and_eq_true, Bool.or_eq_true, Decidable.not_not] at hb); (try simp only [go_sem]))))
    refine c_loop (fun m s => ∃ (i n : Nat) (st : KS) (cs : List V) (es : Option (TypeId × Nat)), (i ≤ left.length ∧ m = left.length - i ∧ n = st.2.1.length ∧ n ≤ i ∧ cs = st.2.1.map VI ∧ (es = none ∨ es = some (3, 1)) ∧ st.1 < 18446744073709551616 ∧ 0 ≤ st.2.2 ∧ st.2.2 ≤ (64 + i) * 1048576 ∧ Hid (st = pfold ms cost px (left.take i))) ∧ (s.env.length = 90 ∧ s.sto = sto ++ [.cells [.v (VI 0), .nilS, .nilS], .cells [.v (VI 0), .arr (sto.length + 2) n, .nilS], .arr es false n cs] ∧ s.env[0]? = some (.v (VU b)) ∧ s.env[1]? = some (.ptr ip 0) ∧ s.env[2]? = some (.ptr ib 0) ∧ s.env[3]? = some (.ptr is 0) ∧ s.env[5]? = some (.ptr sto.length 0) ∧ s.env[6]? = some (.v (LI left)) ∧ s.env[7]? = some (.ptr (sto.length + 1) 0) ∧ s.env[8]? = some (.v (VU st.1)) ∧ s.env[9]? = some (.v (VI st.2.2)) ∧ s.env[20]? = some (.v (LI left)) ∧ s.env[21]? = some (.v (VI left.length)) ∧ s.env[22]? = some (.v (VI i)))) (.adoptC _ (sto.length + 1) 1 false [.v (VI 0), .nilS, .nilS] (by simp) rfl (by omega) (by omega)) ⟨0, 0, (0, [], px), _, _, ⟨by omega, rfl, rfl, by omega, rfl, .inl rfl, by show 0 < _; omega, by show 0 ≤ px; omega, by show px ≤ _; omega, Lib.hid rfl⟩, rfl, ?_, ?_, ?_, ?_, ?_, ?_, ?_, ?_, ?_, ?_, ?_, ?_, ?_⟩ ?_
    all_goals first | rfl | (simp; done) | skip
    rintro m s ⟨i, n, st, cs, es, ⟨h1, rfl, rfl, hni, rfl, h4, hu, ha1, ha2, h5⟩, hL, hT, k0, k1, k2, k3, k5, k6, k7, k8, k9, k20, k21, k22⟩
    obtain ⟨env, st0⟩ := s; obtain ⟨J, hJ⟩ := listJ hL; rw [show (List.range 90).map J = J 0 :: J 1 :: J 2 :: J 3 :: J 4 :: J 5 :: J 6 :: J 7 :: J 8 :: J 9 :: J 10 :: J 11 :: J 12 :: J 13 :: J 14 :: J 15 :: J 16 :: J 17 :: J 18 :: J 19 :: J 20 :: J 21 :: J 22 :: J 23 :: J 24 :: J 25 :: J 26 :: J 27 :: J 28 :: J 29 :: J 30 :: J 31 :: J 32 :: J 33 :: J 34 :: J 35 :: J 36 :: J 37 :: J 38 :: J 39 :: J 40 :: J 41 :: J 42 :: J 43 :: J 44 :: J 45 :: J 46 :: J 47 :: J 48 :: J 49 :: J 50 :: J 51 :: J 52 :: J 53 :: J 54 :: J 55 :: J 56 :: J 57 :: J 58 :: J 59 :: J 60 :: J 61 :: J 62 :: J 63 :: J 64 :: J 65 :: J 66 :: J 67 :: J 68 :: J 69 :: J 70 :: J 71 :: J 72 :: J 73 :: J 74 :: J 75 :: J 76 :: J 77 :: J 78 :: J 79 :: J 80 :: J 81 :: J 82 :: J 83 :: J 84 :: J 85 :: J 86 :: J 87 :: J 88 :: J 89 :: [] from by kernel_rfl] at hJ; replace k0 := Option.some.inj ((congrArg (·[0]?) hJ).symm.trans k0); replace k1 := Option.some.inj ((congrArg (·[1]?) hJ).symm.trans k1); replace k2 := Option.some.inj ((congrArg (·[2]?) hJ).symm.trans k2); replace k3 := Option.some.inj ((congrArg (·[3]?) hJ).symm.trans k3); replace k5 := Option.some.inj ((congrArg (·[5]?) hJ).symm.trans k5); replace k6 := Option.some.inj ((congrArg (·[6]?) hJ).symm.trans k6); replace k7 := Option.some.inj ((congrArg (·[7]?) hJ).symm.trans k7); replace k8 := Option.some.inj ((congrArg (·[8]?) hJ).symm.trans k8); replace k9 := Option.some.inj ((congrArg (·[9]?) hJ).symm.trans k9); replace k20 := Option.some.inj ((congrArg (·[20]?) hJ).symm.trans k20); replace k21 := Option.some.inj ((congrArg (·[21]?) hJ).symm.trans k21); replace k22 := Option.some.inj ((congrArg (·[22]?) hJ).symm.trans k22); rw [k0, k1, k2, k3, k5, k6, k7, k8, k9, k20, k21, k22] at hJ; dsimp only at hJ hT; subst hJ; replace hT := hT.symm; subst hT; clear hL k0 k1 k2 k3 k5 k6 k7 k8 k9 k20 k21 k22
    by_cases hi : i < left.length
    · obtain ⟨hq0, hq1, -⟩ := hmem _ (List.getElem_mem hi)
      have hra := mAt_eq hq1
      have hml := mAt_lt hm left[i]
      have hcb := cheapS_bound hc (ints (bitsN (mAt ms left[i])))
      have hch := fun sto lo hlo => cheapest_ev ms cost (mAt ms left[i]) (by omega) (bitsN_in hml (by omega)) sto lo hlo
      have hst := pfold_take ms cost px hi
      have h5' : _ = _ := h5
      have hor : st.1 ||| mAt ms left[i] < 18446744073709551616 := Nat.or_lt_two_pow (n := 64) hu (by omega)
      rw [← h5', pstep] at hst
      rw [← hra] at hst hml hcb hch hor
      have hsth := Lib.hid hst
      clear hst h5' hra hlf hpx
      obtain ⟨u, pk, sm⟩ := st
      simp only at hu ha1 ha2 hni hor
      generalize hcq : cheapS cost (ints (bitsN ms[left[i].toNat])) = cq at *
      repeat' (first | (refine pbgo ⟨?_⟩) | (((refine pbcall ?_); (refine ⟨_, hch _ _ (by first | omega | (simp; done) | (simp; omega)), ?_⟩); (try simp only [go_sem]))) | ((first | (refine bsp ?_ ?_) | (refine csp ?_ ?_)); all_goals (intro hb; (fail_if_success (cases hb; done)); (try simp only [decide_eq_true_eq, decide_eq_false_iff_not, beq_iff_eq, bne_iff_ne, ne_eq, beq_eq_false_iff_ne, bne_eq_false_iff_eq, Bool.not_eq_true', Bool.not_eq_false', Bool.and_eq_true, Bool.or_eq_true, Decidable.not_not] at hb); (try simp only [go_sem]))))
      · have h6 : _ = _ := hsth
        rw [if_pos (by show _ &&& u = 0; omega)] at h6
        refine ⟨_, _, ?_, .refl _, i + 1, pk.length + 1, (u ||| ms[left[i].toNat], pk ++ [left[i]], sm + cq), pk.map VI ++ [VI left[i]], _, ⟨by omega, rfl, by simp, by omega, by simp, .inr rfl, hor, by show 0 ≤ sm + cq; omega, by show sm + cq ≤ _; omega, Lib.hid h6.symm⟩, rfl, rfl, ?_, ?_, ?_, ?_, ?_, ?_, ?_, ?_, ?_, ?_, ?_, ?_⟩
        · omega
        all_goals first | rfl | (simp; done)
      · have h6 : _ = _ := hsth
        rw [if_neg (by show ¬ _ &&& u = 0; omega)] at h6
        refine ⟨_, _, ?_, .refl _, i + 1, pk.length, (u, pk, sm), pk.map VI, _, ⟨by omega, rfl, rfl, by omega, rfl, h4, hu, ha1, by show sm ≤ _; omega, Lib.hid h6.symm⟩, rfl, rfl, ?_, ?_, ?_, ?_, ?_, ?_, ?_, ?_, ?_, ?_, ?_, ?_⟩
        · omega
        all_goals first | rfl | (simp; done)
    · have h5' : _ = _ := h5
      rw [List.take_of_length_le (by omega)] at h5'
      rw [← h5']
      obtain ⟨u, pk, sm⟩ := st
      have hne2 : ¬ sm ≥ bound → ∃ x0 xs, left = x0 :: xs := by
        intro h
        cases left with
        | nil =>
          exfalso
          have h6 : sm = px := congrArg (fun s : KS => s.2.2) h5'
          have := hne rfl
          omega
        | cons x0 xs => exact ⟨x0, xs, rfl⟩
      clear h5' hne
      simp only at hu ha1 ha2 hni ⊢
      have hil : i = left.length := by omega
      by_cases hsm : sm ≥ bound
      · rw [if_pos hsm]
        repeat' (first | (refine pbgo ⟨?_⟩) | (fail) | ((first | (refine bsp ?_ ?_) | (refine csp ?_ ?_)); all_goals (intro hb; (fail_if_success (cases hb; done)); (try simp only [decide_eq_true_eq, decide_eq_false_iff_not, beq_iff_eq, bne_iff_ne, ne_eq, beq_eq_false_iff_ne, bne_eq_false_iff_eq, Bool.not_eq_true', Bool.not_eq_false', Bool.and_eq_true, Bool.or_eq_true, Decidable.not_not] at hb); (try simp only [go_sem]))))
        refine ⟨by first | exact .inr rfl | exact .inl rfl, .inl ⟨[], _, (by dsimp only [Tryd.f35]; exact pbsv), ?_, by simp⟩⟩
        rfl
      · rw [if_neg hsm]
        obtain ⟨x0, xs, hx⟩ := hne2 hsm
        have hrm : minRow ms left ∈ left := minRow_mem (by rw [hx]; simp)
        obtain ⟨hr0, hr1, hr2⟩ := hmem _ hrm
        have hmin : ∀ (S : Sto) (lo' : Nat), lo' ≤ S.length → S[ip]? = some (.cells [.v (SL VU ms), .v (LI cost)]) → CallEv Tryd.prog tab B0 38 [.v (LI left), .clo 39 [ip]] S lo' (.v (VI (minRow ms left))) S := fun S lo' hlo' hS => by
          have h := minFuncI_ev (B := B0) left x0 xs hx (onesD ms) 39 [ip] (by omega) S lo' hlo' (fun x y hx hy => least11_ev ms cost (fun r hr => by have := hm.2 r hr; omega) x y ⟨(hmem x hx).1, (hmem x hx).2.1⟩ ⟨(hmem y hy).1, (hmem y hy).2.1⟩ ip S lo' hlo' hS)
          have e : minRow ms left = minByI (onesD ms) x0 xs := by rw [hx]; rfl
          rw [e]; exact h
        clear hrm hmem hx hne2 hlf hpx
        generalize minRow ms left = r at *
        have hra := mAt_eq hr1
        have hml := mAt_lt hm r
        rw [← hra] at hr2 hml ⊢
        have hlist := fun sto lo hlo => list_ev ms[r.toNat] (by omega) sto lo hlo
        have hbin : ∀ t ∈ bitsN ms[r.toNat], t < cost.length ∧ b.testBit t = false := fun t ht => by
          have := bitsN_in hml (by omega) (t : Int) (List.mem_map.2 ⟨t, ht, rfl⟩)
          exact ⟨by omega, and_zero_bit.1 hr2 t (mem_bitsN.1 ht).2⟩
        have hbl2 : (bitsN ms[r.toNat]).length ≤ 64 := subsetS_length _ 64
        clear hr2
        generalize bitsN ms[r.toNat] = ts at *
        have htl : (ints ts).length = ts.length := by simp
        clear hra hml
        repeat' (first | (refine pbgo ⟨?_⟩) | (first | ((refine pbcall ?_); (refine ⟨_, hmin _ _ (by first | omega | (simp; done) | (simp; omega)) (by simp (disch := omega) only [go_sem, List.getElem?_append_left, hp0]), ?_⟩); (try simp only [go_sem])) | ((refine pbcall ?_); (refine ⟨_, hlist _ _ (by first | omega | (simp; done) | (simp; omega)), ?_⟩); (try simp only [go_sem]))) | ((first | (refine bsp ?_ ?_) | (refine csp ?_ ?_)); all_goals (intro hb; (fail_if_success (cases hb; done)); (try simp only [decide_eq_true_eq, decide_eq_false_iff_not, beq_iff_eq, bne_iff_ne, ne_eq, beq_eq_false_iff_ne, bne_eq_false_iff_eq, Bool.not_eq_true', Bool.not_eq_false', Bool.and_eq_true, Bool.or_eq_true, Decidable.not_not] at hb); (try simp only [go_sem]))))
        clear hmin hlist
        generalize Ent.arr es false pk.length (List.map VI pk) = E
        clear h4 h5 hni hsm ha1 ha2 hu h1 hil hi
        refine c_loop (fun m s => ∃ (i : Nat) (cs : List V) (es : Option (TypeId × Nat)) (js : List Ent), (i ≤ ts.length ∧ m = ts.length - i ∧ cs = cellsCs ((ts.take i).map fun t => showC ms cost bound f (b ||| 2 ^ t)) ∧ (es = none ∨ es = some (30, 3))) ∧ (s.env.length = 90 ∧ s.sto = sto ++ .cells [.v (VI 0), .nilS, .nilS] :: .cells [.v (VI r), .nilS, .arr (sto.length + 3) i] :: E :: .arr es false i cs :: js ∧ s.env[0]? = some (.v (VU b)) ∧ s.env[1]? = some (.ptr ip 0) ∧ s.env[2]? = some (.ptr ib 0) ∧ s.env[3]? = some (.ptr is 0) ∧ s.env[5]? = some (.ptr sto.length 0) ∧ s.env[7]? = some (.ptr (sto.length + 1) 0) ∧ s.env[71]? = some (.v (LI (ints ts))) ∧ s.env[72]? = some (.v (VI ts.length)) ∧ s.env[73]? = some (.v (VI i)))) (.adoptC _ (sto.length + 1) 2 false [.v (VI r), .nilS, .nilS] (by simp) rfl (by omega) (by omega)) ⟨0, [], none, [], ⟨by omega, rfl, rfl, .inl rfl⟩, rfl, ?_, ?_, ?_, ?_, ?_, ?_, ?_, ?_, ?_, ?_⟩ ?_
        all_goals first | rfl | (simp; done) | skip
        rintro m s ⟨i, cs, es, js, ⟨h1, rfl, rfl, h4⟩, hL, hT, k0, k1, k2, k3, k5, k7, k71, k72, k73⟩
        obtain ⟨env, st0⟩ := s; obtain ⟨J, hJ⟩ := listJ hL; rw [show (List.range 90).map J = J 0 :: J 1 :: J 2 :: J 3 :: J 4 :: J 5 :: J 6 :: J 7 :: J 8 :: J 9 :: J 10 :: J 11 :: J 12 :: J 13 :: J 14 :: J 15 :: J 16 :: J 17 :: J 18 :: J 19 :: J 20 :: J 21 :: J 22 :: J 23 :: J 24 :: J 25 :: J 26 :: J 27 :: J 28 :: J 29 :: J 30 :: J 31 :: J 32 :: J 33 :: J 34 :: J 35 :: J 36 :: J 37 :: J 38 :: J 39 :: J 40 :: J 41 :: J 42 :: J 43 :: J 44 :: J 45 :: J 46 :: J 47 :: J 48 :: J 49 :: J 50 :: J 51 :: J 52 :: J 53 :: J 54 :: J 55 :: J 56 :: J 57 :: J 58 :: J 59 :: J 60 :: J 61 :: J 62 :: J 63 :: J 64 :: J 65 :: J 66 :: J 67 :: J 68 :: J 69 :: J 70 :: J 71 :: J 72 :: J 73 :: J 74 :: J 75 :: J 76 :: J 77 :: J 78 :: J 79 :: J 80 :: J 81 :: J 82 :: J 83 :: J 84 :: J 85 :: J 86 :: J 87 :: J 88 :: J 89 :: [] from by kernel_rfl] at hJ; replace k0 := Option.some.inj ((congrArg (·[0]?) hJ).symm.trans k0); replace k1 := Option.some.inj ((congrArg (·[1]?) hJ).symm.trans k1); replace k2 := Option.some.inj ((congrArg (·[2]?) hJ).symm.trans k2); replace k3 := Option.some.inj ((congrArg (·[3]?) hJ).symm.trans k3); replace k5 := Option.some.inj ((congrArg (·[5]?) hJ).symm.trans k5); replace k7 := Option.some.inj ((congrArg (·[7]?) hJ).symm.trans k7); replace k71 := Option.some.inj ((congrArg (·[71]?) hJ).symm.trans k71); replace k72 := Option.some.inj ((congrArg (·[72]?) hJ).symm.trans k72); replace k73 := Option.some.inj ((congrArg (·[73]?) hJ).symm.trans k73); rw [k0, k1, k2, k3, k5, k7, k71, k72, k73] at hJ; dsimp only at hJ hT; subst hJ; replace hT := hT.symm; subst hT; clear hL k0 k1 k2 k3 k5 k7 k71 k72 k73
        by_cases hi : i < ts.length
        · obtain ⟨hb1, hb2⟩ := hbin ts[i] (List.getElem_mem hi)
          have hb3 := bit_or_lt hb hb1
          have hb4 := miss_lt hb1 hb2
          have hor := orMask (a := b) (t := (ts[i] : Int)) (by omega) (by omega) (by omega)
          rw [show ((ts[i] : Int)).toNat = ts[i] from rfl] at hor
          have hrec := fun S lo hlo h0 h1 h2 => ih (b ||| 2 ^ ts[i]) S lo (by omega) hb3 hlo h0 h1 h2
          have hnx : cellsCs ((ts.take (i + 1)).map fun t => showC ms cost bound f (b ||| 2 ^ t)) = cellsCs ((ts.take i).map fun t => showC ms cost bound f (b ||| 2 ^ t)) ++ cellsC (showC ms cost bound f (b ||| 2 ^ ts[i])) := by
            rw [List.take_succ_eq_append_getElem hi, List.map_append, cellsCs_append]
            simp [cellsCs]
          generalize b ||| 2 ^ ts[i] = b2 at *
          generalize showC ms cost bound f b2 = kc at *
          have hnxh := Lib.hid hnx
          clear hnx
          generalize hcs : cellsCs ((ts.take i).map fun t => showC ms cost bound f (b ||| 2 ^ t)) = cs at *
          clear hcs
          obtain ⟨kr, kp, kk⟩ := kc
          repeat' (first | (refine pbgo ⟨?_⟩) | (((with_reducible apply ops_call); rfl; (simp (disch := (first | omega | assumption | ((repeat' with_reducible apply And.intro) <;> first | omega | assumption | rfl | (apply Or.inl; rfl) | (apply Or.inr; first | rfl | trivial | fail) | fail) | fail)) only [go_sem, if_pos, if_neg, wrapI, wrapU, decide_eq_true, decide_eq_false, beqT, beqF, bneT, bneF, List.getElem?_append_left, hp0, hp1, hp2] <;> rfl); (rw [hor]; exact hrec _ _ (by first | omega | (simp; done) | (simp; omega)) (by simp (disch := omega) only [go_sem, List.getElem?_append_left, hp0]) (by simp (disch := omega) only [go_sem, List.getElem?_append_left, hp1]) (by simp (disch := omega) only [go_sem, List.getElem?_append_left, hp2])); (try simp only [go_sem]))) | ((first | (refine bsp ?_ ?_) | (refine csp ?_ ?_)); all_goals (intro hb; (fail_if_success (cases hb; done)); (try simp only [decide_eq_true_eq, decide_eq_false_iff_not, beq_iff_eq, bne_iff_ne, ne_eq, beq_eq_false_iff_ne, bne_eq_false_iff_eq, Bool.not_eq_true', Bool.not_eq_false', Bool.and_eq_true, Bool.or_eq_true, Decidable.not_not] at hb); (try simp only [go_sem]))))
          refine ⟨_, _, ?_, .refl _, i + 1, cs ++ cellsC (.mk kr kp kk), _, js, ⟨by omega, rfl, Eq.symm hnxh, .inr rfl⟩, rfl, rfl, ?_, ?_, ?_, ?_, ?_, ?_, ?_, ?_, ?_⟩
          · omega
          all_goals first | rfl | (simp [cellsC]; done)
        · repeat' (first | (refine pbgo ⟨?_⟩) | (fail) | ((first | (refine bsp ?_ ?_) | (refine csp ?_ ?_)); all_goals (intro hb; (fail_if_success (cases hb; done)); (try simp only [decide_eq_true_eq, decide_eq_false_iff_not, beq_iff_eq, bne_iff_ne, ne_eq, beq_eq_false_iff_ne, bne_eq_false_iff_eq, Bool.not_eq_true', Bool.not_eq_false', Bool.and_eq_true, Bool.or_eq_true, Decidable.not_not] at hb); (try simp only [go_sem]))))
          refine ⟨by first | exact .inr rfl | exact .inl rfl, .inl ⟨[], _, (by dsimp only [Tryd.f35]; exact pbsv), ?_, by simp⟩⟩
          rw [List.take_of_length_le (by omega)]
          simp only [CV, cellsC, List.length_map]
          obtain rfl : i = ts.length := by omega
          rfl
end Go.Proofs.YtgkhcjdpdgfdbaaDoor
namespace Go.Proofs.YtgkhcjdpdgfdbaaDoor
theorem lacks_left {ms : List Nat} {n : Nat} : lacks ms n = false ↔ leftN ms n = [] := by
  unfold lacks leftN
  rw [List.any_eq_false, List.filter_eq_nil_iff]
  constructor
  · intro h i hi
    have hi := List.mem_range.1 hi
    have := h ms[i] (List.getElem_mem hi)
    rw [List.getD_eq_getElem?_getD, List.getElem?_eq_getElem hi, Option.getD_some]
    exact this
  · intro h r hr
    obtain ⟨i, hi, rfl⟩ := List.mem_iff_getElem.1 hr
    have := h i (List.mem_range.2 hi)
    rw [List.getD_eq_getElem?_getD, List.getElem?_eq_getElem hi, Option.getD_some] at this
    exact this
theorem beforeN_le {a b : Nat} {x y : Int} (h : beforeN a b x y = true) : x ≤ y := by
  rw [beforeN] at h
  split at h
  · have := of_decide_eq_true h; omega
  · omega
theorem beforeN_ge {a b : Nat} {x y : Int} (h : beforeN a b x y = false) : y ≤ x := by
  rw [beforeN] at h
  split at h
  · have := of_decide_eq_false h; omega
  · omega
theorem lfold_inv (ms : List Nat) (cost : List Int) : ∀ k, ((lfold ms cost k).2.2 = false → ∀ m, m < k → lacks ms m = true) ∧ ((lfold ms cost k).2.2 = true → lacks ms (lfold ms cost k).1 = false ∧ (lfold ms cost k).2.1 = priceS cost (ints (bitsN (lfold ms cost k).1)) ∧ ∀ m, m < k → lacks ms m = false → (lfold ms cost k).2.1 ≤ priceS cost (ints (bitsN m)))
  | 0 => by simp [lfold]
  | k + 1 => by
    obtain ⟨h1, h2⟩ := lfold_inv ms cost k
    rw [lfold_succ, lstep]
    cases hk : lacks ms k
    · rw [if_neg (by simp)]
      cases hf : (lfold ms cost k).2.2
      · rw [if_pos (by simp)]
        refine ⟨fun h => (by cases h), fun _ => ⟨hk, rfl, fun m hm hl => ?_⟩⟩
        rcases Nat.lt_succ_iff_lt_or_eq.1 hm with h | rfl
        · rw [h1 hf m h] at hl; cases hl
        · exact Int.le_refl _
      · obtain ⟨h3, h4, h5⟩ := h2 hf
        cases hb : beforeN k (lfold ms cost k).1 (priceS cost (ints (bitsN k))) (lfold ms cost k).2.1
        · rw [if_neg (by simp)]
          refine ⟨fun h => (by rw [hf] at h; cases h), fun _ => ⟨h3, h4, fun m hm hl => ?_⟩⟩
          rcases Nat.lt_succ_iff_lt_or_eq.1 hm with h | rfl
          · exact h5 m h hl
          · exact beforeN_ge hb
        · rw [if_pos (by simp)]
          refine ⟨fun h => (by cases h), fun _ => ⟨hk, rfl, fun m hm hl => ?_⟩⟩
          rcases Nat.lt_succ_iff_lt_or_eq.1 hm with h | rfl
          · exact Int.le_trans (beforeN_le hb) (h5 m h hl)
          · exact Int.le_refl _
    · rw [if_pos rfl]
      refine ⟨fun h m hm => ?_, fun h => ⟨(h2 h).1, (h2 h).2.1, fun m hm hl => ?_⟩⟩
      · rcases Nat.lt_succ_iff_lt_or_eq.1 hm with h' | rfl
        · exact h1 h m h'
        · exact hk
      · rcases Nat.lt_succ_iff_lt_or_eq.1 hm with h' | rfl
        · exact (h2 h).2.2 m h' hl
        · rw [hk] at hl; cases hl
theorem leastN_lt (ms : List Nat) (cost : List Int) : leastN ms cost < 2 ^ cost.length := lfold_lt ms cost _ (Nat.two_pow_pos _)
theorem leastN_le (ms : List Nat) (cost : List Int) {b : Nat} (hb : b < 2 ^ cost.length) (h : leftN ms b = []) : priceS cost (ints (bitsN (leastN ms cost))) ≤ priceS cost (ints (bitsN b)) := by
  obtain ⟨h1, h2⟩ := lfold_inv ms cost (2 ^ cost.length)
  have hl := lacks_left.2 h
  cases hf : (lfold ms cost (2 ^ cost.length)).2.2
  · rw [h1 hf b hb] at hl; cases hl
  · obtain ⟨h3, h4, h5⟩ := h2 hf
    have := h5 b hb hl
    rw [h4] at this
    exact this
/-- The full set leaves nothing. -/
theorem full_left {ms : List Nat} {cost : List Int} (hm : MsOK ms cost) : leftN ms (2 ^ cost.length - 1) = [] := by
  unfold leftN
  rw [List.filter_eq_nil_iff]
  intro i _
  rw [getD_mAt]
  have h := mAt_lt hm (i : Int)
  generalize mAt ms (i : Int) = m at *
  simp only [Bool.and_eq_true, decide_eq_true_eq, not_and]
  intro h0 h1
  apply h0
  apply Nat.eq_of_testBit_eq
  intro j
  rw [Nat.zero_testBit]
  rw [and_zero_bit] at h1
  cases hj : m.testBit j with
  | false => rfl
  | true =>
    have h2 := h1 j hj
    rw [Nat.testBit_two_pow_sub_one] at h2
    have h3 : ¬ j < cost.length := of_decide_eq_false h2
    rw [Nat.testBit_lt_two_pow (Nat.lt_of_lt_of_le h (Nat.pow_le_pow_right (by omega) (by omega)))] at hj
    cases hj
theorem leastN_left {ms : List Nat} {cost : List Int} (hm : MsOK ms cost) : leftN ms (leastN ms cost) = [] := by
  obtain ⟨h1, h2⟩ := lfold_inv ms cost (2 ^ cost.length)
  have hpos := Nat.two_pow_pos cost.length
  cases hf : (lfold ms cost (2 ^ cost.length)).2.2
  · have := h1 hf (2 ^ cost.length - 1) (by omega)
    rw [lacks_left.2 (full_left hm)] at this; cases this
  · exact lacks_left.1 (h2 hf).1
theorem miss_le (n b : Nat) : miss n b ≤ n := by
  have := List.countP_le_length (p := fun t => !b.testBit t) (l := List.range n)
  rwa [List.length_range] at this
end Go.Proofs.YtgkhcjdpdgfdbaaDoor
namespace Go.Proofs.YtgkhcjdpdgfdbaaDoor
open Go Go.RowKit

attribute [local irreducible] EvOps EvC
attribute [local go_sem] List.getElem?_toArray getS
set_option linter.unusedSimpArgs false
set_option linter.unusedVariables false
set_option maxRecDepth 100000
set_option maxHeartbeats 4000000
/-- The certificate. -/
def certC (ms : List Nat) (cost : List Int) : Crt := showC ms cost (priceS cost (ints (bitsN (leastN ms cost)))) (cost.length + 1) 0
theorem leastBad_ev (rows : List (List Int)) (cost : List Int) (hr : rows.length < 1000000) (hrr : ∀ r ∈ rows, r.length < 1000000) (hc : cost.length < 1000000) (h1 : possS rows cost = false) (sto : Sto) (lo : Nat) (hlo : lo ≤ sto.length) : CallEv Tryd.prog tab collB 12 [.v (MV rows), .v (LI cost)] sto lo (.v (.tup [.sl 0 [], CV (.mk 0 [] []), VI 1])) sto := by
  have hof := fun sto lo hlo => (of_ev rows cost hr hrr hc sto lo hlo).up0 (B := collB)
  rw [h1] at hof
  obtain ⟨ms, hms⟩ := ofP_some rows cost
  rw [hms] at hof
  refine CallEv.intro ⟨_, _, [], Tryd.func12, rfl, by decide, ?_⟩; simp only [go_sem, Tryd.ntmps12]
  repeat' (first | (refine go ⟨?_⟩) | (((refine call ?_); (refine ⟨_, hof _ _ (by first | omega | (simp; done) | (simp; omega)), ?_⟩); (try simp only [go_sem]))) | ((first | (refine bsp ?_ ?_) | (refine csp ?_ ?_)); all_goals (intro hb; (fail_if_success (cases hb; done)); (try simp only [decide_eq_true_eq, decide_eq_false_iff_not, beq_iff_eq, bne_iff_ne, ne_eq, beq_eq_false_iff_ne, bne_eq_false_iff_eq, Bool.not_eq_true', Bool.not_eq_false', Bool.and_eq_true, Bool.or_eq_true, Decidable.not_not] at hb); (try simp only [go_sem]))))
  refine ⟨by first | exact .inr rfl | exact .inl rfl, .inl ⟨[], _, (by dsimp only [Tryd.f12]; exact sv), ?_, by simp⟩⟩
  rfl
theorem Least_ev (rows : List (List Int)) (cost : List Int) (hr : rows.length < 13) (hrr : ∀ r ∈ rows, r.length < 1000000) (h1 : possS rows cost = true) (hc8 : cost.length ≤ 8) (sto : Sto) (lo : Nat) (hlo : lo ≤ sto.length) : CallEv Tryd.prog tab collB 12 [.v (MV rows), .v (LI cost)] sto lo (.v (.tup [LI (ints (bitsN (leastN (rows.map maskS) cost))), CV (certC (rows.map maskS) cost), VI 0])) sto := by
  have hof := fun sto lo hlo => (of_ev rows cost (by omega) hrr (by omega) sto lo hlo).up0 (B := collB)
  rw [h1, ofP_pos h1] at hof
  obtain ⟨-, hc, -⟩ := possS_ok h1
  have hm := maskOK h1
  have hml : (rows.map maskS).length < 13 := by simpa using hr
  have h16 := pow16 hc
  have hpw : 2 ^ cost.length ≤ 256 := Nat.pow_le_pow_right (n := 2) (by omega) hc8
  rw [certC]
  generalize rows.map maskS = ms at *
  have hms : ∀ r ∈ ms, r < 18446744073709551616 := fun r hr => by have := hm.2 r hr; omega
  have hle := fun sto lo hlo => least_ev ms cost hml hms hc hc8 sto lo hlo
  have hlt := leastN_lt ms cost
  have hopt : ∀ b, b < 2 ^ cost.length → leftN ms b = [] → priceS cost (ints (bitsN (leastN ms cost))) ≤ priceS cost (ints (bitsN b)) := fun b hb h => leastN_le ms cost hb h
  generalize leastN ms cost = best at *
  have hpx := fun sto lo hlo => (price_ev ms cost best (by omega) hc (bitsN_in hlt (by omega)) sto lo hlo).up0 (B := collB)
  have hls := fun sto lo hlo => (list_ev best (by omega) sto lo hlo).up0 (B := collB)
  generalize priceS cost (ints (bitsN best)) = bound at *
  have hmiss := miss_le cost.length 0
  have hsh := fun ip ib is sto lo hlo h0 h1 h2 => (show1_ev ms cost bound hm hc hc8 hopt ip ib is (cost.length + 1) 0 sto lo (by omega) (Nat.two_pow_pos _) hlo h0 h1 h2).up0 (B := collB)
  generalize showC ms cost bound (cost.length + 1) 0 = kc at *
  obtain ⟨kr, kp, kk⟩ := kc
  refine CallEv.intro ⟨_, _, [], Tryd.func12, rfl, by decide, ?_⟩; simp only [go_sem, Tryd.ntmps12]
  repeat' (first | (refine go ⟨?_⟩) | (first | ((refine call ?_); (refine ⟨_, hof _ _ (by first | omega | (simp; done) | (simp; omega)), ?_⟩); (try simp only [go_sem])) | ((refine call ?_); (refine ⟨_, hle _ _ (by first | omega | (simp; done) | (simp; omega)), ?_⟩); (try simp only [go_sem])) | ((refine call ?_); (refine ⟨_, hpx _ _ (by first | omega | (simp; done) | (simp; omega)), ?_⟩); (try simp only [go_sem])) | ((refine call ?_); (refine ⟨_, hls _ _ (by first | omega | (simp; done) | (simp; omega)), ?_⟩); (try simp only [go_sem])) | ((refine call ?_); (refine ⟨_, hsh _ _ _ _ _ (by first | omega | (simp; done) | (simp; omega)) (by simp only [go_sem]) (by simp only [go_sem]) (by simp only [go_sem]), ?_⟩); (try simp only [go_sem]))) | ((first | (refine bsp ?_ ?_) | (refine csp ?_ ?_)); all_goals (intro hb; (fail_if_success (cases hb; done)); (try simp only [decide_eq_true_eq, decide_eq_false_iff_not, beq_iff_eq, bne_iff_ne, ne_eq, beq_eq_false_iff_ne, bne_eq_false_iff_eq, Bool.not_eq_true', Bool.not_eq_false', Bool.and_eq_true, Bool.or_eq_true, Decidable.not_not] at hb); (try simp only [go_sem]))))
  refine ⟨by first | exact .inr rfl | exact .inl rfl, .inl ⟨[], _, (by dsimp only [Tryd.f12]; exact sv), ?_, by simp⟩⟩
  rfl
end Go.Proofs.YtgkhcjdpdgfdbaaDoor
namespace Go.Proofs.YtgkhcjdpdgfdbaaDoor
open Go Go.RowKit

attribute [local irreducible] EvOps EvC
attribute [local go_sem] List.getElem?_toArray getS List.flatten_cons List.flatten_nil
set_option linter.unusedSimpArgs false
set_option linter.unusedVariables false
set_option maxRecDepth 100000
set_option maxHeartbeats 4000000
theorem rowsC_append (a b : List (List Int)) : rowsC (a ++ b) = rowsC a ++ rowsC b := by
  induction a with
  | nil => rfl
  | cons c a ih => rw [List.cons_append, rowsC, ih, rowsC, List.append_assoc]
theorem lawOf_ev (rows : List (List Int)) (hr : rows.length < 1000000) (sto : Sto) (lo : Nat) (hlo : lo ≤ sto.length) : CallEv Tryd.prog tab B0 13 [.v (LLI rows)] sto lo (.v (MV rows)) sto := by
  refine CallEv.intro ⟨_, _, [], Tryd.func13, rfl, by decide, ?_⟩; simp only [go_sem, Tryd.ntmps13]
  repeat' (first | (refine go ⟨?_⟩) | (fail) | ((first | (refine bsp ?_ ?_) | (refine csp ?_ ?_)); all_goals (intro hb; (fail_if_success (cases hb; done)); (try simp only [decide_eq_true_eq, decide_eq_false_iff_not, beq_iff_eq, bne_iff_ne, ne_eq, beq_eq_false_iff_ne, bne_eq_false_iff_eq, Bool.not_eq_true', Bool.not_eq_false', Bool.and_eq_true, Bool.or_eq_true, Decidable.not_not] at hb); (try simp only [go_sem]))))
  refine c_loop (fun m s => ∃ (i : Nat) (cs : List V) (es : Option (TypeId × Nat)) (js : List Ent), (i ≤ rows.length ∧ m = rows.length - i ∧ cs = rowsC (rows.take i) ∧ (es = none ∨ es = some (88, 20))) ∧ (s.env.length = 22 ∧ s.sto = sto ++ .cells [.nilS] :: .cells [.arr (sto.length + 2) i] :: .arr es false i cs :: js ∧ s.env[0]? = some (.v (LLI rows)) ∧ s.env[2]? = some (.ptr sto.length 0) ∧ s.env[3]? = some (.ptr (sto.length + 1) 0) ∧ s.env[4]? = some (.v (VI i)))) (.adoptC _ (sto.length + 1) 0 false [.nilS] (by simp) rfl (by omega) (by omega)) ⟨0, [], none, [], ⟨by omega, rfl, rfl, .inl rfl⟩, rfl, ?_, ?_, ?_, ?_, ?_⟩ ?_
  all_goals first | rfl | (simp; done) | skip
  rintro m s ⟨i, cs, es, js, ⟨h1, rfl, rfl, h4⟩, hL, hT, k0, k2, k3, k4⟩
  obtain ⟨env, st0⟩ := s; obtain ⟨J, hJ⟩ := listJ hL; rw [show (List.range 22).map J = J 0 :: J 1 :: J 2 :: J 3 :: J 4 :: J 5 :: J 6 :: J 7 :: J 8 :: J 9 :: J 10 :: J 11 :: J 12 :: J 13 :: J 14 :: J 15 :: J 16 :: J 17 :: J 18 :: J 19 :: J 20 :: J 21 :: [] from by kernel_rfl] at hJ; replace k0 := Option.some.inj ((congrArg (·[0]?) hJ).symm.trans k0); replace k2 := Option.some.inj ((congrArg (·[2]?) hJ).symm.trans k2); replace k3 := Option.some.inj ((congrArg (·[3]?) hJ).symm.trans k3); replace k4 := Option.some.inj ((congrArg (·[4]?) hJ).symm.trans k4); rw [k0, k2, k3, k4] at hJ; dsimp only at hJ hT; subst hJ; replace hT := hT.symm; subst hT; clear hL k0 k2 k3 k4
  by_cases hi : i < rows.length
  · have hnx : rowsC (rows.take (i + 1)) = rowsC (rows.take i) ++ rowC rows[i] := by
      rw [List.take_succ_eq_append_getElem hi, rowsC_append]; simp [rowsC]
    generalize hrow : rows[i] = row at *
    have hnxh := Lib.hid hnx
    clear hnx
    generalize hcs : rowsC (rows.take i) = cs at *
    clear hcs
    repeat' (first | (refine go ⟨?_⟩) | (fail) | ((first | (refine bsp ?_ ?_) | (refine csp ?_ ?_)); all_goals (intro hb; (fail_if_success (cases hb; done)); (try simp only [decide_eq_true_eq, decide_eq_false_iff_not, beq_iff_eq, bne_iff_ne, ne_eq, beq_eq_false_iff_ne, bne_eq_false_iff_eq, Bool.not_eq_true', Bool.not_eq_false', Bool.and_eq_true, Bool.or_eq_true, Decidable.not_not] at hb); (try simp only [go_sem]))))
    rw [hrow]
    refine ⟨_, _, ?_, .refl _, i + 1, cs ++ rowC row, _, js, ⟨by omega, rfl, Eq.symm hnxh, .inr rfl⟩, rfl, rfl, ?_, ?_, ?_, ?_⟩
    · omega
    all_goals first | rfl | (simp [rowC]; done)
  · repeat' (first | (refine go ⟨?_⟩) | (fail) | ((first | (refine bsp ?_ ?_) | (refine csp ?_ ?_)); all_goals (intro hb; (fail_if_success (cases hb; done)); (try simp only [decide_eq_true_eq, decide_eq_false_iff_not, beq_iff_eq, bne_iff_ne, ne_eq, beq_eq_false_iff_ne, bne_eq_false_iff_eq, Bool.not_eq_true', Bool.not_eq_false', Bool.and_eq_true, Bool.or_eq_true, Decidable.not_not] at hb); (try simp only [go_sem]))))
    refine ⟨by first | exact .inr rfl | exact .inl rfl, .inl ⟨[], _, (by dsimp only [Tryd.f13]; exact sv), ?_, by simp⟩⟩
    rw [List.take_of_length_le (by omega)]
    obtain rfl : i = rows.length := by omega
    rfl
theorem own_ev (N : Nat) : ∀ (c : Crt) (sto : Sto) (lo : Nat), csz c ≤ N → csz c < 1000000 → lo ≤ sto.length → CallEv Tryd.prog tab B0 24 [.v (CV c)] sto lo (.v (CV c)) sto := by
  induction N with
  | zero => intro c sto lo h; cases c; simp only [csz] at h; omega
  | succ N ih =>
    rintro ⟨r, p, k⟩ sto lo hN hlen hlo
    simp only [csz] at hN hlen
    have hck := cszs_length k
    refine CallEv.intro ⟨_, _, [], Tryd.func24, rfl, by decide, ?_⟩; simp only [go_sem, Tryd.ntmps24]
    repeat' (first | (refine go ⟨?_⟩) | (fail) | ((first | (refine bsp ?_ ?_) | (refine csp ?_ ?_)); all_goals (intro hb; (fail_if_success (cases hb; done)); (try simp only [decide_eq_true_eq, decide_eq_false_iff_not, beq_iff_eq, bne_iff_ne, ne_eq, beq_eq_false_iff_ne, bne_eq_false_iff_eq, Bool.not_eq_true', Bool.not_eq_false', Bool.and_eq_true, Bool.or_eq_true, Decidable.not_not] at hb); (try simp only [go_sem]))))
    refine c_loop (fun m s => ∃ (i : Nat) (cs : List V) (es : Option (TypeId × Nat)) (js : List Ent), (i ≤ k.length ∧ m = k.length - i ∧ cs = cellsCs (k.take i) ∧ (es = none ∨ es = some (30, 3))) ∧ (s.env.length = 29 ∧ s.sto = sto ++ .cells [.v (VI r), .v (LI p), .v (.sl k.length (cellsCs k))] :: .cells [.v (VI 0), .nilS, .nilS] :: .cells [.v (VI r), .v (LI p), .arr (sto.length + 3) i] :: .arr es false i cs :: js ∧ s.env[1]? = some (.ptr sto.length 0) ∧ s.env[2]? = some (.ptr (sto.length + 1) 0) ∧ s.env[3]? = some (.ptr (sto.length + 2) 0) ∧ s.env[4]? = some (.v (VI i)))) (.adoptC _ (sto.length + 2) 2 false [.v (VI r), .v (LI p), .nilS] (by simp) rfl (by omega) (by omega)) ⟨0, [], none, [], ⟨by omega, rfl, rfl, .inl rfl⟩, rfl, ?_, ?_, ?_, ?_, ?_⟩ ?_
    all_goals first | rfl | (simp; done) | skip
    rintro m s ⟨i, cs, es, js, ⟨h1, rfl, rfl, h4⟩, hL, hT, k1, k2, k3, k4⟩
    obtain ⟨env, st0⟩ := s; obtain ⟨J, hJ⟩ := listJ hL; rw [show (List.range 29).map J = J 0 :: J 1 :: J 2 :: J 3 :: J 4 :: J 5 :: J 6 :: J 7 :: J 8 :: J 9 :: J 10 :: J 11 :: J 12 :: J 13 :: J 14 :: J 15 :: J 16 :: J 17 :: J 18 :: J 19 :: J 20 :: J 21 :: J 22 :: J 23 :: J 24 :: J 25 :: J 26 :: J 27 :: J 28 :: [] from by kernel_rfl] at hJ; replace k1 := Option.some.inj ((congrArg (·[1]?) hJ).symm.trans k1); replace k2 := Option.some.inj ((congrArg (·[2]?) hJ).symm.trans k2); replace k3 := Option.some.inj ((congrArg (·[3]?) hJ).symm.trans k3); replace k4 := Option.some.inj ((congrArg (·[4]?) hJ).symm.trans k4); rw [k1, k2, k3, k4] at hJ; dsimp only at hJ hT; subst hJ; replace hT := hT.symm; subst hT; clear hL k1 k2 k3 k4
    by_cases hi : i < k.length
    · have hcz := csz_get hi
      have hrec := fun sto lo hlo => ih k[i] sto lo (by omega) (by omega) hlo
      have hnx : cellsCs (k.take (i + 1)) = cellsCs (k.take i) ++ cellsC k[i] := by
        rw [List.take_succ_eq_append_getElem hi, cellsCs_append]; simp [cellsCs]
      generalize hkc : k[i] = kc at *
      have hnxh := Lib.hid hnx
      clear hnx
      generalize hcs : cellsCs (k.take i) = cs at *
      clear hcs
      obtain ⟨kr, kp, kk⟩ := kc
      repeat' (first | (refine go ⟨?_⟩) | (((with_reducible apply ops_call); rfl; (simp (disch := (first | omega | assumption | ((repeat' with_reducible apply And.intro) <;> first | omega | assumption | rfl | (apply Or.inl; rfl) | (apply Or.inr; first | rfl | trivial | fail) | fail) | fail)) only [go_sem, if_pos, if_neg, wrapI, wrapU, decide_eq_true, decide_eq_false, beqT, beqF, bneT, bneF] <;> rfl); (rw [hkc]; exact hrec _ _ (by first | omega | (simp; done) | (simp; omega))); (try simp only [go_sem]))) | ((first | (refine bsp ?_ ?_) | (refine csp ?_ ?_)); all_goals (intro hb; (fail_if_success (cases hb; done)); (try simp only [decide_eq_true_eq, decide_eq_false_iff_not, beq_iff_eq, bne_iff_ne, ne_eq, beq_eq_false_iff_ne, bne_eq_false_iff_eq, Bool.not_eq_true', Bool.not_eq_false', Bool.and_eq_true, Bool.or_eq_true, Decidable.not_not] at hb); (try simp only [go_sem]))))
      refine ⟨_, _, ?_, .refl _, i + 1, cs ++ cellsC (.mk kr kp kk), _, js, ⟨by omega, rfl, Eq.symm hnxh, .inr rfl⟩, rfl, rfl, ?_, ?_, ?_, ?_⟩
      · omega
      all_goals first | rfl | (simp [cellsC]; done)
    · repeat' (first | (refine go ⟨?_⟩) | (fail) | ((first | (refine bsp ?_ ?_) | (refine csp ?_ ?_)); all_goals (intro hb; (fail_if_success (cases hb; done)); (try simp only [decide_eq_true_eq, decide_eq_false_iff_not, beq_iff_eq, bne_iff_ne, ne_eq, beq_eq_false_iff_ne, bne_eq_false_iff_eq, Bool.not_eq_true', Bool.not_eq_false', Bool.and_eq_true, Bool.or_eq_true, Decidable.not_not] at hb); (try simp only [go_sem]))))
      refine ⟨by first | exact .inr rfl | exact .inl rfl, .inl ⟨[], _, (by dsimp only [Tryd.f24]; exact sv), ?_, by simp⟩⟩
      rw [List.take_of_length_le (by omega)]
      obtain rfl : i = k.length := by omega
      rfl
mutual
def dep : Crt → Nat
  | .mk _ _ k => deps k
def deps : List Crt → Nat
  | [] => 0
  | c :: cs => max (dep c + 1) (deps cs)
end
theorem dep_get : ∀ {l : List Crt} {i : Nat} (h : i < l.length), dep l[i] + 1 ≤ deps l
  | c :: cs, 0, _ => by simp only [deps, List.getElem_cons_zero]; omega
  | c :: cs, i + 1, h => by
    have := dep_get (l := cs) (i := i) (by simpa using h)
    simp only [deps, List.getElem_cons_succ]; omega
theorem plain_ev (N : Nat) : ∀ (c : Crt) (d : Nat) (sto : Sto) (lo : Nat), csz c ≤ N → csz c < 1000000 → dep c + d ≤ 17 → lo ≤ sto.length → CallEv Tryd.prog tab B0 22 [.v (CV c), .v (VI d)] sto lo (.v (CV c)) sto := by
  induction N with
  | zero => intro c d sto lo h; cases c; simp only [csz] at h; omega
  | succ N ih =>
    rintro ⟨r, p, k⟩ d sto lo hN hlen hd hlo
    simp only [csz] at hN hlen
    simp only [dep] at hd
    have hck := cszs_length k
    refine CallEv.intro ⟨_, _, [], Tryd.func22, rfl, by decide, ?_⟩; simp only [go_sem, Tryd.ntmps22]
    repeat' (first | (refine go ⟨?_⟩) | (fail) | ((first | (refine bsp ?_ ?_) | (refine csp ?_ ?_)); all_goals (intro hb; (fail_if_success (cases hb; done)); (try simp only [decide_eq_true_eq, decide_eq_false_iff_not, beq_iff_eq, bne_iff_ne, ne_eq, beq_eq_false_iff_ne, bne_eq_false_iff_eq, Bool.not_eq_true', Bool.not_eq_false', Bool.and_eq_true, Bool.or_eq_true, Decidable.not_not] at hb); (try simp only [go_sem]))))
    refine c_loop (fun m s => ∃ (i : Nat) (cs : List V) (es : Option (TypeId × Nat)) (js : List Ent), (i ≤ k.length ∧ m = k.length - i ∧ cs = cellsCs (k.take i) ∧ (es = none ∨ es = some (45, 3))) ∧ (s.env.length = 37 ∧ s.sto = sto ++ .cells [.v (VI r), .v (LI p), .v (.sl k.length (cellsCs k))] :: .cells [.v (VI 0), .nilS, .nilS] :: .cells [.v (VI r), .v (LI p), .arr (sto.length + 3) i] :: .arr es false i cs :: js ∧ s.env[1]? = some (.v (VI d)) ∧ s.env[2]? = some (.ptr sto.length 0) ∧ s.env[4]? = some (.ptr (sto.length + 1) 0) ∧ s.env[5]? = some (.ptr (sto.length + 2) 0) ∧ s.env[6]? = some (.v (VI i)))) (.adoptC _ (sto.length + 2) 2 false [.v (VI r), .v (LI p), .nilS] (by simp) rfl (by omega) (by omega)) ⟨0, [], none, [], ⟨by omega, rfl, rfl, .inl rfl⟩, rfl, ?_, ?_, ?_, ?_, ?_, ?_⟩ ?_
    all_goals first | rfl | (simp; done) | skip
    rintro m s ⟨i, cs, es, js, ⟨h1, rfl, rfl, h4⟩, hL, hT, k1, k2, k4, k5, k6⟩
    obtain ⟨env, st0⟩ := s; obtain ⟨J, hJ⟩ := listJ hL; rw [show (List.range 37).map J = J 0 :: J 1 :: J 2 :: J 3 :: J 4 :: J 5 :: J 6 :: J 7 :: J 8 :: J 9 :: J 10 :: J 11 :: J 12 :: J 13 :: J 14 :: J 15 :: J 16 :: J 17 :: J 18 :: J 19 :: J 20 :: J 21 :: J 22 :: J 23 :: J 24 :: J 25 :: J 26 :: J 27 :: J 28 :: J 29 :: J 30 :: J 31 :: J 32 :: J 33 :: J 34 :: J 35 :: J 36 :: [] from by kernel_rfl] at hJ; replace k1 := Option.some.inj ((congrArg (·[1]?) hJ).symm.trans k1); replace k2 := Option.some.inj ((congrArg (·[2]?) hJ).symm.trans k2); replace k4 := Option.some.inj ((congrArg (·[4]?) hJ).symm.trans k4); replace k5 := Option.some.inj ((congrArg (·[5]?) hJ).symm.trans k5); replace k6 := Option.some.inj ((congrArg (·[6]?) hJ).symm.trans k6); rw [k1, k2, k4, k5, k6] at hJ; dsimp only at hJ hT; subst hJ; replace hT := hT.symm; subst hT; clear hL k1 k2 k4 k5 k6
    by_cases hi : i < k.length
    · have hcz := csz_get hi
      have hdg := dep_get hi
      have hrec := fun sto lo hlo => ih k[i] (d + 1) sto lo (by omega) (by omega) (by omega) hlo
      have hnx : cellsCs (k.take (i + 1)) = cellsCs (k.take i) ++ cellsC k[i] := by
        rw [List.take_succ_eq_append_getElem hi, cellsCs_append]; simp [cellsCs]
      generalize hkc : k[i] = kc at *
      have hnxh := Lib.hid hnx
      clear hnx
      generalize hcs : cellsCs (k.take i) = cs at *
      clear hcs
      obtain ⟨kr, kp, kk⟩ := kc
      repeat' (first | (refine go ⟨?_⟩) | (((with_reducible apply ops_call); rfl; (simp (disch := (first | omega | assumption | ((repeat' with_reducible apply And.intro) <;> first | omega | assumption | rfl | (apply Or.inl; rfl) | (apply Or.inr; first | rfl | trivial | fail) | fail) | fail)) only [go_sem, if_pos, if_neg, wrapI, wrapU, decide_eq_true, decide_eq_false, beqT, beqF, bneT, bneF] <;> rfl); (rw [hkc]; exact hrec _ _ (by first | omega | (simp; done) | (simp; omega))); (try simp only [go_sem]))) | ((first | (refine bsp ?_ ?_) | (refine csp ?_ ?_)); all_goals (intro hb; (fail_if_success (cases hb; done)); (try simp only [decide_eq_true_eq, decide_eq_false_iff_not, beq_iff_eq, bne_iff_ne, ne_eq, beq_eq_false_iff_ne, bne_eq_false_iff_eq, Bool.not_eq_true', Bool.not_eq_false', Bool.and_eq_true, Bool.or_eq_true, Decidable.not_not] at hb); (try simp only [go_sem]))))
      refine ⟨_, _, ?_, .refl _, i + 1, cs ++ cellsC (.mk kr kp kk), _, js, ⟨by omega, rfl, Eq.symm hnxh, .inr rfl⟩, rfl, rfl, ?_, ?_, ?_, ?_, ?_⟩
      · omega
      all_goals first | rfl | (simp [cellsC]; done)
    · repeat' (first | (refine go ⟨?_⟩) | (fail) | ((first | (refine bsp ?_ ?_) | (refine csp ?_ ?_)); all_goals (intro hb; (fail_if_success (cases hb; done)); (try simp only [decide_eq_true_eq, decide_eq_false_iff_not, beq_iff_eq, bne_iff_ne, ne_eq, beq_eq_false_iff_ne, bne_eq_false_iff_eq, Bool.not_eq_true', Bool.not_eq_false', Bool.and_eq_true, Bool.or_eq_true, Decidable.not_not] at hb); (try simp only [go_sem]))))
      refine ⟨by first | exact .inr rfl | exact .inl rfl, .inl ⟨[], _, (by dsimp only [Tryd.f22]; exact sv), ?_, by simp⟩⟩
      rw [List.take_of_length_le (by omega)]
      obtain rfl : i = k.length := by omega
      rfl
end Go.Proofs.YtgkhcjdpdgfdbaaDoor
namespace Go.Proofs.YtgkhcjdpdgfdbaaDoor
open Go Go.RowKit

attribute [local irreducible] EvOps EvC
attribute [local go_sem] List.getElem?_toArray
set_option linter.unusedSimpArgs false
set_option linter.unusedVariables false
set_option maxRecDepth 100000
set_option maxHeartbeats 4000000
theorem showsLN_drop {ms : List Nat} {cost : List Int} {bound : Int} {k : List Crt} {l : List Nat} {b i : Nat} (hk : i < k.length) (hl : i < l.length) : showsLN ms cost bound (k.drop i) (l.drop i) b = (showsN ms cost bound k[i] (b ||| 2 ^ l[i]) && showsLN ms cost bound (k.drop (i + 1)) (l.drop (i + 1)) b) := by
  rw [drop_cons hk, drop_cons hl, showsLN]
theorem shows_kids (ms : List Nat) (cost : List Int) (bound : Int) (hm : MsOK ms cost) (hc : CostOK cost) (N : Nat) (ih : ∀ (c : Crt) (b : Nat) (sto : Sto) (lo : Nat), csz c ≤ N → csz c < 1000000 → b < 2 ^ cost.length → lo ≤ sto.length → CallEv Tryd.prog tab B0 45 [.v (PV ms cost), .v (CV c), .v (VU b), .v (VI bound)] sto lo (.v (.bool (showsN ms cost bound c b))) sto) (r : Int) (p : List Int) (k : List Crt) (hk : ¬ k.length = 0) (b : Nat) (hb : b < 2 ^ cost.length) (sto : Sto) (lo : Nat) (hN' : 1 + p.length + cszs k ≤ N + 1) (hlen' : 1 + p.length + cszs k < 1000000) (hlo : lo ≤ sto.length) : CallEv Tryd.prog tab B0 45 [.v (PV ms cost), .v (CV (.mk r p k)), .v (VU b), .v (VI bound)] sto lo (.v (.bool (showsN ms cost bound (.mk r p k) b))) sto := by
  have hck := cszs_length k
  have h16 := pow16 hc
  have hms : ∀ r ∈ ms, r < 18446744073709551616 := fun r hr => by have := hm.2 r hr; omega
  have hlf := fun sto lo hlo => left_ev ms cost b (by omega) hm.1 hms sto lo hlo
  have hll : (ints (leftN ms b)).length < 1000000 := by have := leftN_length ms b; have := hm.1; simp; omega
  have hmem : ∀ i ∈ ints (leftN ms b), 0 ≤ i ∧ i.toNat < ms.length := fun i => mem_leftN
  have hS : showsN ms cost bound (.mk r p k) b = (decide (p.length = 0) && decide (r ∈ ints (leftN ms b)) && decide ((bitsN (mAt ms r)).length = k.length) && showsLN ms cost bound k (bitsN (mAt ms r)) b) := by simp [showsN, hk]
  rw [hS]
  clear hS hms
  generalize ints (leftN ms b) = left at *
  have hcn := fun sto lo hlo => containsI_ev left r (by omega) sto lo hlo
  by_cases hp : p.length = 0
  · rw [decide_eq_true hp]
    by_cases hq : r ∈ left
    · rw [decide_eq_true hq] at hcn ⊢
      obtain ⟨hq0, hq1⟩ := hmem _ hq
      have hra := mAt_eq hq1
      have hml := mAt_lt hm r
      have hlist := fun sto lo hlo => list_ev (mAt ms r) (by omega) sto lo hlo
      rw [← hra] at hlist hml ⊢
      have hbin : ∀ t ∈ bitsN ms[r.toNat], t < cost.length := fun t ht => by
        have := bitsN_in hml (by have := hc.1; omega) (t : Int) (List.mem_map.2 ⟨t, ht, rfl⟩)
        omega
      have hbl : (bitsN ms[r.toNat]).length ≤ 64 := subsetS_length _ 64
      generalize bitsN ms[r.toNat] = ts at *
      have htl : (ints ts).length = ts.length := by simp
      have hc16 := hc.1
      clear hmem hm hc hq hra hml
      simp only [Bool.true_and]
      by_cases hL : ts.length = k.length
      · rw [decide_eq_true hL, Bool.true_and]
        have hLh := Lib.hid hL
        refine CallEv.intro ⟨_, _, [], Tryd.func45, rfl, by decide, ?_⟩; simp only [go_sem, Tryd.ntmps45]
        repeat' (first | (refine go ⟨?_⟩) | (first | ((refine call ?_); (refine ⟨_, hlf _ _ (by first | omega | (simp; done) | (simp; omega)), ?_⟩); (try simp only [go_sem])) | ((refine call ?_); (refine ⟨_, hcn _ _ (by first | omega | (simp; done) | (simp; omega)), ?_⟩); (try simp only [go_sem])) | ((refine call ?_); (refine ⟨_, hlist _ _ (by first | omega | (simp; done) | (simp; omega)), ?_⟩); (try simp only [go_sem]))) | ((first | (refine bsp ?_ ?_) | (refine csp ?_ ?_)); all_goals (intro hb; (fail_if_success (cases hb; done)); (try simp only [decide_eq_true_eq, decide_eq_false_iff_not, beq_iff_eq, bne_iff_ne, ne_eq, beq_eq_false_iff_ne, bne_eq_false_iff_eq, Bool.not_eq_true', Bool.not_eq_false', Bool.and_eq_true, Bool.or_eq_true, Decidable.not_not] at hb); (try simp only [go_sem]))))
        refine c_loop (fun m s => ∃ (i : Nat) (js : List Ent), (i ≤ k.length ∧ m = k.length - i ∧ Hid (showsLN ms cost bound k ts b = showsLN ms cost bound (k.drop i) (ts.drop i) b)) ∧ (s.env.length = 120 ∧ s.sto = sto ++ .cells [.v (SL VU ms), .v (LI cost)] :: .cells [.v (VI r), .v (LI p), .v (.sl k.length (cellsCs k))] :: js ∧ s.env[2]? = some (.v (VU b)) ∧ s.env[3]? = some (.v (VI bound)) ∧ s.env[4]? = some (.ptr sto.length 0) ∧ s.env[5]? = some (.ptr (sto.length + 1) 0) ∧ s.env[15]? = some (.v (LI (ints ts))) ∧ s.env[99]? = some (.v (LI (ints ts))) ∧ s.env[100]? = some (.v (VI ts.length)) ∧ s.env[101]? = some (.v (VI i)))) (.refl _) ⟨0, [], ⟨by omega, rfl, Lib.hid rfl⟩, rfl, rfl, ?_, ?_, ?_, ?_, ?_, ?_, ?_, ?_⟩ ?_
        all_goals first | rfl | skip
        rintro m s ⟨i, js, ⟨h1, rfl, h3⟩, hL, hT, k2, k3, k4, k5, k15, k99, k100, k101⟩
        obtain ⟨env, st0⟩ := s; obtain ⟨J, hJ⟩ := listJ hL; rw [show (List.range 120).map J = J 0 :: J 1 :: J 2 :: J 3 :: J 4 :: J 5 :: J 6 :: J 7 :: J 8 :: J 9 :: J 10 :: J 11 :: J 12 :: J 13 :: J 14 :: J 15 :: J 16 :: J 17 :: J 18 :: J 19 :: J 20 :: J 21 :: J 22 :: J 23 :: J 24 :: J 25 :: J 26 :: J 27 :: J 28 :: J 29 :: J 30 :: J 31 :: J 32 :: J 33 :: J 34 :: J 35 :: J 36 :: J 37 :: J 38 :: J 39 :: J 40 :: J 41 :: J 42 :: J 43 :: J 44 :: J 45 :: J 46 :: J 47 :: J 48 :: J 49 :: J 50 :: J 51 :: J 52 :: J 53 :: J 54 :: J 55 :: J 56 :: J 57 :: J 58 :: J 59 :: J 60 :: J 61 :: J 62 :: J 63 :: J 64 :: J 65 :: J 66 :: J 67 :: J 68 :: J 69 :: J 70 :: J 71 :: J 72 :: J 73 :: J 74 :: J 75 :: J 76 :: J 77 :: J 78 :: J 79 :: J 80 :: J 81 :: J 82 :: J 83 :: J 84 :: J 85 :: J 86 :: J 87 :: J 88 :: J 89 :: J 90 :: J 91 :: J 92 :: J 93 :: J 94 :: J 95 :: J 96 :: J 97 :: J 98 :: J 99 :: J 100 :: J 101 :: J 102 :: J 103 :: J 104 :: J 105 :: J 106 :: J 107 :: J 108 :: J 109 :: J 110 :: J 111 :: J 112 :: J 113 :: J 114 :: J 115 :: J 116 :: J 117 :: J 118 :: J 119 :: [] from by kernel_rfl] at hJ; replace k2 := Option.some.inj ((congrArg (·[2]?) hJ).symm.trans k2); replace k3 := Option.some.inj ((congrArg (·[3]?) hJ).symm.trans k3); replace k4 := Option.some.inj ((congrArg (·[4]?) hJ).symm.trans k4); replace k5 := Option.some.inj ((congrArg (·[5]?) hJ).symm.trans k5); replace k15 := Option.some.inj ((congrArg (·[15]?) hJ).symm.trans k15); replace k99 := Option.some.inj ((congrArg (·[99]?) hJ).symm.trans k99); replace k100 := Option.some.inj ((congrArg (·[100]?) hJ).symm.trans k100); replace k101 := Option.some.inj ((congrArg (·[101]?) hJ).symm.trans k101); rw [k2, k3, k4, k5, k15, k99, k100, k101] at hJ; dsimp only at hJ hT; subst hJ; replace hT := hT.symm; subst hT; clear hL k2 k3 k4 k5 k15 k99 k100 k101
        clear hlf hcn hlist
        have h3 : _ = _ := h3
        by_cases hi : i < k.length
        · have hit : i < ts.length := by omega
          have hcz := csz_get hi
          have hti := hbin ts[i] (List.getElem_mem (by omega))
          have hbo := bit_or_lt hb hti
          have hrec := fun sto lo hlo => ih k[i] (b ||| 2 ^ ts[i]) sto lo (by omega) (by omega) hbo hlo
          rw [showsLN_drop hi (by omega)] at h3
          have hsh := orMask (a := b) (t := (ts[i] : Int)) (by omega) (by omega) (by omega)
          rw [show ((ts[i] : Int)).toNat = ts[i] from rfl] at hsh
          generalize b ||| 2 ^ ts[i] = b2 at *
          generalize hsn : showsN ms cost bound k[i] b2 = sn at *
          have h3h := Lib.hid h3
          clear h3
          repeat' (first | (refine go ⟨?_⟩) | (first | ((with_reducible apply ops_call); rfl; (simp (disch := (first | omega | assumption | ((repeat' with_reducible apply And.intro) <;> first | omega | assumption | rfl | (apply Or.inl; rfl) | (apply Or.inr; first | rfl | trivial | fail) | fail) | fail)) only [go_sem, if_pos, if_neg, wrapI, wrapU, decide_eq_true, decide_eq_false, beqT, beqF, bneT, bneF] <;> rfl); (rw [hsh]; exact hrec _ _ (by first | omega | (simp; done) | (simp; omega))); (try simp only [go_sem]))) | ((first | (refine bsp ?_ ?_) | (refine csp ?_ ?_)); all_goals (intro hb; (fail_if_success (cases hb; done)); (try simp only [decide_eq_true_eq, decide_eq_false_iff_not, beq_iff_eq, bne_iff_ne, ne_eq, beq_eq_false_iff_ne, bne_eq_false_iff_eq, Bool.not_eq_true', Bool.not_eq_false', Bool.and_eq_true, Bool.or_eq_true, Decidable.not_not] at hb); (try simp only [go_sem]))))
          · refine ⟨by first | exact .inr rfl | exact .inl rfl, .inl ⟨[], _, (by dsimp only [Tryd.f45]; exact sv), ?_, by simp⟩⟩
            have h4 : _ = _ := h3h
            rw [h4, hb]; rfl
          · have h4 : _ = _ := h3h
            rw [hb, Bool.true_and] at h4
            refine ⟨_, _, ?_, .refl _, i + 1, _, ⟨by omega, rfl, Lib.hid h4⟩, rfl, rfl, ?_, ?_, ?_, ?_, ?_, ?_, ?_, ?_⟩
            · omega
            all_goals rfl
        · repeat' (first | (refine go ⟨?_⟩) | (fail) | ((first | (refine bsp ?_ ?_) | (refine csp ?_ ?_)); all_goals (intro hb; (fail_if_success (cases hb; done)); (try simp only [decide_eq_true_eq, decide_eq_false_iff_not, beq_iff_eq, bne_iff_ne, ne_eq, beq_eq_false_iff_ne, bne_eq_false_iff_eq, Bool.not_eq_true', Bool.not_eq_false', Bool.and_eq_true, Bool.or_eq_true, Decidable.not_not] at hb); (try simp only [go_sem]))))
          refine ⟨by first | exact .inr rfl | exact .inl rfl, .inl ⟨[], _, (by dsimp only [Tryd.f45]; exact sv), ?_, by simp⟩⟩
          rw [h3, List.drop_of_length_le (by omega)]; rfl
      · rw [decide_eq_false hL]
        refine CallEv.intro ⟨_, _, [], Tryd.func45, rfl, by decide, ?_⟩; simp only [go_sem, Tryd.ntmps45]
        repeat' (first | (refine go ⟨?_⟩) | (first | ((refine call ?_); (refine ⟨_, hlf _ _ (by first | omega | (simp; done) | (simp; omega)), ?_⟩); (try simp only [go_sem])) | ((refine call ?_); (refine ⟨_, hcn _ _ (by first | omega | (simp; done) | (simp; omega)), ?_⟩); (try simp only [go_sem])) | ((refine call ?_); (refine ⟨_, hlist _ _ (by first | omega | (simp; done) | (simp; omega)), ?_⟩); (try simp only [go_sem]))) | ((first | (refine bsp ?_ ?_) | (refine csp ?_ ?_)); all_goals (intro hb; (fail_if_success (cases hb; done)); (try simp only [decide_eq_true_eq, decide_eq_false_iff_not, beq_iff_eq, bne_iff_ne, ne_eq, beq_eq_false_iff_ne, bne_eq_false_iff_eq, Bool.not_eq_true', Bool.not_eq_false', Bool.and_eq_true, Bool.or_eq_true, Decidable.not_not] at hb); (try simp only [go_sem]))))
        refine ⟨by first | exact .inr rfl | exact .inl rfl, .inl ⟨[], _, (by dsimp only [Tryd.f45]; exact sv), ?_, by simp⟩⟩
        rfl
    · rw [decide_eq_false hq] at hcn ⊢
      refine CallEv.intro ⟨_, _, [], Tryd.func45, rfl, by decide, ?_⟩; simp only [go_sem, Tryd.ntmps45]
      repeat' (first | (refine go ⟨?_⟩) | (first | ((refine call ?_); (refine ⟨_, hlf _ _ (by first | omega | (simp; done) | (simp; omega)), ?_⟩); (try simp only [go_sem])) | ((refine call ?_); (refine ⟨_, hcn _ _ (by first | omega | (simp; done) | (simp; omega)), ?_⟩); (try simp only [go_sem]))) | ((first | (refine bsp ?_ ?_) | (refine csp ?_ ?_)); all_goals (intro hb; (fail_if_success (cases hb; done)); (try simp only [decide_eq_true_eq, decide_eq_false_iff_not, beq_iff_eq, bne_iff_ne, ne_eq, beq_eq_false_iff_ne, bne_eq_false_iff_eq, Bool.not_eq_true', Bool.not_eq_false', Bool.and_eq_true, Bool.or_eq_true, Decidable.not_not] at hb); (try simp only [go_sem]))))
      refine ⟨by first | exact .inr rfl | exact .inl rfl, .inl ⟨[], _, (by dsimp only [Tryd.f45]; exact sv), ?_, by simp⟩⟩
      rfl
  · rw [decide_eq_false hp]
    refine CallEv.intro ⟨_, _, [], Tryd.func45, rfl, by decide, ?_⟩; simp only [go_sem, Tryd.ntmps45]
    repeat' (first | (refine go ⟨?_⟩) | (first | ((refine call ?_); (refine ⟨_, hlf _ _ (by first | omega | (simp; done) | (simp; omega)), ?_⟩); (try simp only [go_sem])) | ((refine call ?_); (refine ⟨_, hcn _ _ (by first | omega | (simp; done) | (simp; omega)), ?_⟩); (try simp only [go_sem]))) | ((first | (refine bsp ?_ ?_) | (refine csp ?_ ?_)); all_goals (intro hb; (fail_if_success (cases hb; done)); (try simp only [decide_eq_true_eq, decide_eq_false_iff_not, beq_iff_eq, bne_iff_ne, ne_eq, beq_eq_false_iff_ne, bne_eq_false_iff_eq, Bool.not_eq_true', Bool.not_eq_false', Bool.and_eq_true, Bool.or_eq_true, Decidable.not_not] at hb); (try simp only [go_sem]))))
    refine ⟨by first | exact .inr rfl | exact .inl rfl, .inl ⟨[], _, (by dsimp only [Tryd.f45]; exact sv), ?_, by simp⟩⟩
    rfl
theorem shows_ev (ms : List Nat) (cost : List Int) (bound : Int) (hm : MsOK ms cost) (hc : CostOK cost) (N : Nat) : ∀ (c : Crt) (b : Nat) (sto : Sto) (lo : Nat), csz c ≤ N → csz c < 1000000 → b < 2 ^ cost.length → lo ≤ sto.length → CallEv Tryd.prog tab B0 45 [.v (PV ms cost), .v (CV c), .v (VU b), .v (VI bound)] sto lo (.v (.bool (showsN ms cost bound c b))) sto := by
  induction N with
  | zero => intro c b sto lo h; cases c; simp only [csz] at h; omega
  | succ N ih =>
    rintro ⟨r, p, k⟩ b sto lo hN hlen hb hlo
    simp only [csz] at hN hlen
    by_cases hk : k.length = 0
    · exact shows_leaf ms cost bound hm hc r p k hk (by omega) b hb sto lo hlo
    · exact shows_kids ms cost bound hm hc N ih r p k hk b hb sto lo hN hlen hlo
end Go.Proofs.YtgkhcjdpdgfdbaaDoor
namespace Go.Proofs.YtgkhcjdpdgfdbaaDoor
open Go Go.RowKit

attribute [local irreducible] EvOps EvC
attribute [local go_sem] List.getElem?_toArray
set_option linter.unusedSimpArgs false
set_option linter.unusedVariables false
set_option maxRecDepth 100000
set_option maxHeartbeats 4000000
/-- What Check answers, in sets. -/
def checkN (rows : List (List Int)) (cost ts : List Int) (c : Crt) : Int :=
  if possS rows cost = false then 1
  else if incS cost.length (-1) ts = false then 22
  else if (leftN (rows.map maskS) (maskS ts)).length > 0 then 22
  else if showsN (rows.map maskS) cost (priceS cost (ints (bitsN (maskS ts)))) c 0 then 0 else 22
theorem check_ev (rows : List (List Int)) (cost ts : List Int) (c : Crt) (hr : rows.length < 1000000) (hrr : ∀ r ∈ rows, r.length < 1000000) (hc : cost.length < 1000000) (ht : ts.length < 1000000) (hz : csz c < 1000000) (sto : Sto) (lo : Nat) (hlo : lo ≤ sto.length) : CallEv Tryd.prog tab B0 23 [.v (MV rows), .v (LI cost), .v (LI ts), .v (CV c)] sto lo (.v (VI (checkN rows cost ts c))) sto := by
  obtain ⟨r, p, k⟩ := c
  have hof := fun sto lo hlo => of_ev rows cost hr hrr hc sto lo hlo
  rw [checkN]
  cases h1 : possS rows cost
  · rw [if_pos rfl]
    rw [h1] at hof
    obtain ⟨ms, hms⟩ := ofP_some rows cost
    rw [hms] at hof
    refine CallEv.intro ⟨_, _, [], Tryd.func23, rfl, by decide, ?_⟩; simp only [go_sem, Tryd.ntmps23]
    repeat' (first | (refine go ⟨?_⟩) | (((refine call ?_); (refine ⟨_, hof _ _ (by first | omega | (simp; done) | (simp; omega)), ?_⟩); (try simp only [go_sem]))) | ((first | (refine bsp ?_ ?_) | (refine csp ?_ ?_)); all_goals (intro hb; (fail_if_success (cases hb; done)); (try simp only [decide_eq_true_eq, decide_eq_false_iff_not, beq_iff_eq, bne_iff_ne, ne_eq, beq_eq_false_iff_ne, bne_eq_false_iff_eq, Bool.not_eq_true', Bool.not_eq_false', Bool.and_eq_true, Bool.or_eq_true, Decidable.not_not] at hb); (try simp only [go_sem]))))
    refine ⟨by first | exact .inr rfl | exact .inl rfl, .inl ⟨[], _, (by dsimp only [Tryd.f23]; exact sv), ?_, by simp⟩⟩
    rfl
  rw [if_neg (by simp)]
  obtain ⟨_, hcost, hin⟩ := possS_ok h1
  have hm := maskOK h1
  rw [h1, ofP_pos h1] at hof
  have hc16 := hcost.1
  have h16 := pow16 hcost
  generalize hms : rows.map maskS = ms at *
  refine CallEv.intro ⟨_, _, [], Tryd.func23, rfl, by decide, ?_⟩; simp only [go_sem, Tryd.ntmps23]
  repeat' (first | (refine go ⟨?_⟩) | (((refine call ?_); (refine ⟨_, hof _ _ (by first | omega | (simp; done) | (simp; omega)), ?_⟩); (try simp only [go_sem]))) | ((first | (refine bsp ?_ ?_) | (refine csp ?_ ?_)); all_goals (intro hb; (fail_if_success (cases hb; done)); (try simp only [decide_eq_true_eq, decide_eq_false_iff_not, beq_iff_eq, bne_iff_ne, ne_eq, beq_eq_false_iff_ne, bne_eq_false_iff_eq, Bool.not_eq_true', Bool.not_eq_false', Bool.and_eq_true, Bool.or_eq_true, Decidable.not_not] at hb); (try simp only [go_sem]))))
  clear hof
  refine c_loop (fun m s => ∃ i : Nat, (i ≤ ts.length ∧ m = ts.length - i ∧ Hid (In cost.length (ts.take i)) ∧ Hid (incS cost.length (-1) ts = incS cost.length (lastI ts i) (ts.drop i)) ∧ -1 ≤ lastI ts i) ∧ (s.env.length = 58 ∧ s.sto = sto ++ [.cells [.v (.sl rows.length (rowsC rows))], .cells [.v (VI r), .v (LI p), .v (.sl k.length (cellsCs k))], .cells [.v (SL VU ms), .v (LI cost)]] ∧ s.env[1]? = some (.v (LI cost)) ∧ s.env[4]? = some (.ptr sto.length 0) ∧ s.env[7]? = some (.ptr (sto.length + 1) 0) ∧ s.env[9]? = some (.ptr (sto.length + 2) 0) ∧ s.env[11]? = some (.v (VU (maskS (ts.take i)))) ∧ s.env[12]? = some (.v (VI (lastI ts i))) ∧ s.env[23]? = some (.v (LI ts)) ∧ s.env[24]? = some (.v (VI ts.length)) ∧ s.env[25]? = some (.v (VI i)))) (.refl _) ⟨0, ⟨by omega, rfl, Lib.hid (fun t h => by simp at h), Lib.hid rfl, by simp [lastI]⟩, rfl, rfl, ?_, ?_, ?_, ?_, ?_, ?_, ?_, ?_, ?_⟩ ?_
  all_goals first | rfl | skip
  rintro m s ⟨i, ⟨g1, rfl, g2, g3, g4⟩, hL, hT, k1, k4, k7, k9, k11, k12, k23, k24, k25⟩
  obtain ⟨env, st0⟩ := s; obtain ⟨J, hJ⟩ := listJ hL; rw [show (List.range 58).map J = J 0 :: J 1 :: J 2 :: J 3 :: J 4 :: J 5 :: J 6 :: J 7 :: J 8 :: J 9 :: J 10 :: J 11 :: J 12 :: J 13 :: J 14 :: J 15 :: J 16 :: J 17 :: J 18 :: J 19 :: J 20 :: J 21 :: J 22 :: J 23 :: J 24 :: J 25 :: J 26 :: J 27 :: J 28 :: J 29 :: J 30 :: J 31 :: J 32 :: J 33 :: J 34 :: J 35 :: J 36 :: J 37 :: J 38 :: J 39 :: J 40 :: J 41 :: J 42 :: J 43 :: J 44 :: J 45 :: J 46 :: J 47 :: J 48 :: J 49 :: J 50 :: J 51 :: J 52 :: J 53 :: J 54 :: J 55 :: J 56 :: J 57 :: [] from by kernel_rfl] at hJ; replace k1 := Option.some.inj ((congrArg (·[1]?) hJ).symm.trans k1); replace k4 := Option.some.inj ((congrArg (·[4]?) hJ).symm.trans k4); replace k7 := Option.some.inj ((congrArg (·[7]?) hJ).symm.trans k7); replace k9 := Option.some.inj ((congrArg (·[9]?) hJ).symm.trans k9); replace k11 := Option.some.inj ((congrArg (·[11]?) hJ).symm.trans k11); replace k12 := Option.some.inj ((congrArg (·[12]?) hJ).symm.trans k12); replace k23 := Option.some.inj ((congrArg (·[23]?) hJ).symm.trans k23); replace k24 := Option.some.inj ((congrArg (·[24]?) hJ).symm.trans k24); replace k25 := Option.some.inj ((congrArg (·[25]?) hJ).symm.trans k25); rw [k1, k4, k7, k9, k11, k12, k23, k24, k25] at hJ; dsimp only at hJ hT; subst hJ; replace hT := hT.symm; subst hT; clear hL k1 k4 k7 k9 k11 k12 k23 k24 k25
  have g3 : _ = _ := g3
  by_cases hi : i < ts.length
  · rw [incS_drop hi] at g3
    by_cases hti : lastI ts i < ts[i] ∧ ts[i] < cost.length
    · rw [decide_eq_true hti.1, decide_eq_true hti.2, Bool.true_and, Bool.true_and, ← lastI_succ hi] at g3
      have hg3 := Lib.hid g3
      have hm1 : maskS (ts.take i) < 18446744073709551616 := Nat.lt_of_lt_of_le (mask_lt g2) (Nat.le_trans h16 (by omega))
      have hmt := mask_take hi
      have hshl := orMask hm1 (t := ts[i]) (by omega) (by omega)
      rw [← hmt] at hshl
      have hls := lastI_succ hi
      have hin2 : In cost.length (ts.take (i + 1)) := by
        rw [List.take_succ_eq_append_getElem hi]
        intro t h
        rcases List.mem_append.1 h with h | h
        · exact g2 t h
        · rw [List.mem_singleton.1 h]; omega
      have hR := Lib.hid (And.intro hshl (And.intro hls hin2))
      clear hshl hmt hls hin2 g3
      repeat' (first | (refine go ⟨?_⟩) | (fail) | ((first | (refine bsp ?_ ?_) | (refine csp ?_ ?_)); all_goals (intro hb; (fail_if_success (cases hb; done)); (try simp only [decide_eq_true_eq, decide_eq_false_iff_not, beq_iff_eq, bne_iff_ne, ne_eq, beq_eq_false_iff_ne, bne_eq_false_iff_eq, Bool.not_eq_true', Bool.not_eq_false', Bool.and_eq_true, Bool.or_eq_true, Decidable.not_not] at hb); (try simp only [go_sem]))))
      obtain ⟨hshl, hls, hin2⟩ := hR
      refine ⟨_, _, ?_, .refl _, i + 1, ⟨by omega, rfl, Lib.hid hin2, hg3, by omega⟩, rfl, rfl, ?_, ?_, ?_, ?_, ?_, ?_, ?_, ?_, ?_⟩
      · omega
      all_goals first | rfl | exact congrArg (fun z => some (D.v (V.int .u64 z))) hshl | exact congrArg (fun z => some (D.v (VI z))) hls.symm
    · have g5 : incS cost.length (-1) ts = false := by
        rw [g3]
        rcases Decidable.not_and_iff_or_not.1 hti with h | h
        · rw [decide_eq_false h]; rfl
        · rw [decide_eq_false h, Bool.and_false]; rfl
      rw [if_pos g5]
      clear g3 g5
      repeat' (first | (refine go ⟨?_⟩) | (fail) | ((first | (refine bsp ?_ ?_) | (refine csp ?_ ?_)); all_goals (intro hb; (fail_if_success (cases hb; done)); (try simp only [decide_eq_true_eq, decide_eq_false_iff_not, beq_iff_eq, bne_iff_ne, ne_eq, beq_eq_false_iff_ne, bne_eq_false_iff_eq, Bool.not_eq_true', Bool.not_eq_false', Bool.and_eq_true, Bool.or_eq_true, Decidable.not_not] at hb); (try simp only [go_sem]))))
      all_goals (refine ⟨by first | exact .inr rfl | exact .inl rfl, .inl ⟨[], _, (by dsimp only [Tryd.f23]; exact sv), ?_, by simp⟩⟩; rfl)
  · rw [List.drop_of_length_le (by omega), incS] at g3
    rw [List.take_of_length_le (by omega)] at g2
    rw [List.take_of_length_le (by omega : ts.length ≤ i)]
    rw [if_neg (by rw [g3]; simp)]
    have hb := mask_lt g2
    have hlf := fun sto lo hlo => left_ev ms cost (maskS ts) (by omega) hm.1 (fun r hr => by have := hm.2 r hr; omega) sto lo hlo
    have hpx := fun sto lo hlo => price_ev ms cost (maskS ts) (by omega) hcost (bitsN_in hb (by omega)) sto lo hlo
    have hsh := fun sto lo hlo => shows_ev ms cost (priceS cost (ints (bitsN (maskS ts)))) hm hcost _ (.mk r p k) 0 sto lo (Nat.le_refl _) hz (Nat.two_pow_pos _) hlo
    have hll : (leftN ms (maskS ts)).length < 1000000 := by have := leftN_length ms (maskS ts); have := hm.1; omega
    have hll2 : (ints (leftN ms (maskS ts))).length = (leftN ms (maskS ts)).length := by simp
    clear hm hcost hin g3 g2
    generalize leftN ms (maskS ts) = lf at *
    generalize priceS cost (ints (bitsN (maskS ts))) = px at *
    generalize showsN ms cost px (.mk r p k) 0 = sn at *
    repeat' (first | (refine go ⟨?_⟩) | (first | ((refine call ?_); (refine ⟨_, hlf _ _ (by first | omega | (simp; done) | (simp; omega)), ?_⟩); (try simp only [go_sem])) | ((refine call ?_); (refine ⟨_, hpx _ _ (by first | omega | (simp; done) | (simp; omega)), ?_⟩); (try simp only [go_sem])) | ((refine call ?_); (refine ⟨_, hsh _ _ (by first | omega | (simp; done) | (simp; omega)), ?_⟩); (try simp only [go_sem]))) | ((first | (refine bsp ?_ ?_) | (refine csp ?_ ?_)); all_goals (intro hb; (fail_if_success (cases hb; done)); (try simp only [decide_eq_true_eq, decide_eq_false_iff_not, beq_iff_eq, bne_iff_ne, ne_eq, beq_eq_false_iff_ne, bne_eq_false_iff_eq, Bool.not_eq_true', Bool.not_eq_false', Bool.and_eq_true, Bool.or_eq_true, Decidable.not_not] at hb); (try simp only [go_sem]))))
    all_goals (refine ⟨by first | exact .inr rfl | exact .inl rfl, .inl ⟨[], _, (by dsimp only [Tryd.f23]; exact sv), ?_, by simp⟩⟩)
    all_goals simp_all
end Go.Proofs.YtgkhcjdpdgfdbaaDoor
namespace Go.Proofs.YtgkhcjdpdgfdbaaDoor
open Go Go.RowKit

attribute [local irreducible] EvOps EvC
attribute [local go_sem] List.getElem?_toArray
set_option linter.unusedSimpArgs false
set_option linter.unusedVariables false
set_option maxRecDepth 100000
set_option maxHeartbeats 4000000
theorem killN_take {ms : List Nat} {left : List Int} {t i : Nat} (h : i < left.length) : killN ms (left.take (i + 1)) t = killN ms (left.take i) t + if (mAt ms left[i]).testBit t then 1 else 0 := by
  rw [List.take_succ_eq_append_getElem h, killN, List.countP_append, List.countP_singleton]; rfl
theorem shrAdd {n m t : Nat} (ht : t < 64) (hn : n < 1000000) (hm : m < 18446744073709551616) : IntKind.wrap .i64 ((n : Int) + IntKind.wrap .i64 (andI .u64 ((m : Int).fdiv (2 ^ min t 64)) 1)) = ((n + (if m.testBit t then 1 else 0) : Nat) : Int) := by
  have e := shrU (m := m) ht
  rw [Int.toNat_natCast] at e
  have h2 : m >>> t ≤ m := by rw [Nat.shiftRight_eq_div_pow]; exact Nat.div_le_self _ _
  have h3 := bitOne m t
  rw [e]
  generalize m >>> t = q at *
  rw [andB (by omega) (by omega), Int.toNat_natCast, show (1 : Int).toNat = 1 from rfl, h3, IntKind.wrap_i64, IntKind.wrap_i64]
  split <;> omega
theorem greedy_ev (rows : List (List Int)) (cost : List Int) (hr : rows.length < 1000000) (hrr : ∀ r ∈ rows, r.length < 1000000) (hc : cost.length < 1000000) (sto : Sto) (lo : Nat) (hlo : lo ≤ sto.length) : CallEv Tryd.prog tab B0 26 [.v (MV rows), .v (LI cost)] sto lo (.v (.tup [if possS rows cost then LI (ints (bitsN (greedyN (rows.map maskS) cost))) else .sl 0 [], VI (if possS rows cost then 0 else 1)])) sto := by
  have hof := fun sto lo hlo => of_ev rows cost hr hrr hc sto lo hlo
  cases h1 : possS rows cost
  · rw [h1] at hof
    obtain ⟨ms, hms⟩ := ofP_some rows cost
    rw [hms] at hof
    refine CallEv.intro ⟨_, _, [], Tryd.func26, rfl, by decide, ?_⟩; simp only [go_sem, Tryd.ntmps26]
    repeat' (first | (refine go ⟨?_⟩) | (((refine call ?_); (refine ⟨_, hof _ _ (by first | omega | (simp; done) | (simp; omega)), ?_⟩); (try simp only [go_sem]))) | ((first | (refine bsp ?_ ?_) | (refine csp ?_ ?_)); all_goals (intro hb; (fail_if_success (cases hb; done)); (try simp only [decide_eq_true_eq, decide_eq_false_iff_not, beq_iff_eq, bne_iff_ne, ne_eq, beq_eq_false_iff_ne, bne_eq_false_iff_eq, Bool.not_eq_true', Bool.not_eq_false', Bool.and_eq_true, Bool.or_eq_true, Decidable.not_not] at hb); (try simp only [go_sem]))))
    refine ⟨by first | exact .inr rfl | exact .inl rfl, .inl ⟨[], _, (by dsimp only [Tryd.f26]; exact sv), ?_, by simp⟩⟩
    rfl
  rw [if_pos rfl, if_pos rfl]
  obtain ⟨hrow, hcost, hin⟩ := possS_ok h1
  have hm := maskOK h1
  rw [h1, ofP_pos h1] at hof
  have hml : (rows.map maskS).length ≤ 512 := by simpa using hrow
  have hc16 := hcost.1
  have h16 := pow16 hcost
  generalize hms : rows.map maskS = ms at *
  clear hms h1 hin
  have hlf := fun b (hb : b < 2 ^ cost.length) sto lo hlo => left_ev ms cost b (by omega) hm.1 (fun r hr => by have := hm.2 r hr; omega) sto lo hlo
  refine CallEv.intro ⟨_, _, [], Tryd.func26, rfl, by decide, ?_⟩; simp only [go_sem, Tryd.ntmps26]
  repeat' (first | (refine go ⟨?_⟩) | (first | ((refine call ?_); (refine ⟨_, hof _ _ (by first | omega | (simp; done) | (simp; omega)), ?_⟩); (try simp only [go_sem])) | ((refine call ?_); (refine ⟨_, hlf 0 (Nat.two_pow_pos _) _ _ (by first | omega | (simp; done) | (simp; omega)), ?_⟩); (try simp only [go_sem]))) | ((first | (refine bsp ?_ ?_) | (refine csp ?_ ?_)); all_goals (intro hb; (fail_if_success (cases hb; done)); (try simp only [decide_eq_true_eq, decide_eq_false_iff_not, beq_iff_eq, bne_iff_ne, ne_eq, beq_eq_false_iff_ne, bne_eq_false_iff_eq, Bool.not_eq_true', Bool.not_eq_false', Bool.and_eq_true, Bool.or_eq_true, Decidable.not_not] at hb); (try simp only [go_sem]))))
  clear hof
  refine c_loop (fun m s => ∃ b f : Nat, (m = (leftN ms b).length ∧ b < 2 ^ cost.length ∧ Hid ((leftN ms b).length < f) ∧ Hid (greedyN ms cost = greedyF ms cost f b)) ∧ (s.env.length = 104 ∧ s.sto = sto ++ [.cells [.v (.sl rows.length (rowsC rows))], .cells [.v (SL VU ms), .v (LI cost)]] ∧ s.env[1]? = some (.v (LI cost)) ∧ s.env[2]? = some (.ptr sto.length 0) ∧ s.env[6]? = some (.ptr (sto.length + 1) 0) ∧ s.env[8]? = some (.v (VU b)) ∧ s.env[9]? = some (.v (LI (ints (leftN ms b)))))) (.refl _) ⟨0, ms.length + 1, ⟨rfl, Nat.two_pow_pos _, Lib.hid (by have := leftN_length ms 0; omega), Lib.hid rfl⟩, rfl, rfl, ?_, ?_, ?_, ?_, ?_⟩ ?_
  all_goals first | rfl | skip
  rintro m s ⟨b, f, ⟨rfl, hb, hf, hg⟩, hL, hT, k1, k2, k6, k8, k9⟩
  obtain ⟨env, st0⟩ := s; obtain ⟨J, hJ⟩ := listJ hL; rw [show (List.range 104).map J = J 0 :: J 1 :: J 2 :: J 3 :: J 4 :: J 5 :: J 6 :: J 7 :: J 8 :: J 9 :: J 10 :: J 11 :: J 12 :: J 13 :: J 14 :: J 15 :: J 16 :: J 17 :: J 18 :: J 19 :: J 20 :: J 21 :: J 22 :: J 23 :: J 24 :: J 25 :: J 26 :: J 27 :: J 28 :: J 29 :: J 30 :: J 31 :: J 32 :: J 33 :: J 34 :: J 35 :: J 36 :: J 37 :: J 38 :: J 39 :: J 40 :: J 41 :: J 42 :: J 43 :: J 44 :: J 45 :: J 46 :: J 47 :: J 48 :: J 49 :: J 50 :: J 51 :: J 52 :: J 53 :: J 54 :: J 55 :: J 56 :: J 57 :: J 58 :: J 59 :: J 60 :: J 61 :: J 62 :: J 63 :: J 64 :: J 65 :: J 66 :: J 67 :: J 68 :: J 69 :: J 70 :: J 71 :: J 72 :: J 73 :: J 74 :: J 75 :: J 76 :: J 77 :: J 78 :: J 79 :: J 80 :: J 81 :: J 82 :: J 83 :: J 84 :: J 85 :: J 86 :: J 87 :: J 88 :: J 89 :: J 90 :: J 91 :: J 92 :: J 93 :: J 94 :: J 95 :: J 96 :: J 97 :: J 98 :: J 99 :: J 100 :: J 101 :: J 102 :: J 103 :: [] from by kernel_rfl] at hJ; replace k1 := Option.some.inj ((congrArg (·[1]?) hJ).symm.trans k1); replace k2 := Option.some.inj ((congrArg (·[2]?) hJ).symm.trans k2); replace k6 := Option.some.inj ((congrArg (·[6]?) hJ).symm.trans k6); replace k8 := Option.some.inj ((congrArg (·[8]?) hJ).symm.trans k8); replace k9 := Option.some.inj ((congrArg (·[9]?) hJ).symm.trans k9); rw [k1, k2, k6, k8, k9] at hJ; dsimp only at hJ hT; subst hJ; replace hT := hT.symm; subst hT; clear hL k1 k2 k6 k8 k9
  have hf : _ < _ := hf
  have hg : _ = _ := hg
  by_cases hl : leftN ms b = []
  · rw [greedyF_stop hl] at hg
    rw [hg, hl]
    have hls := fun sto lo hlo => list_ev b (by omega) sto lo hlo
    repeat' (first | (refine go ⟨?_⟩) | (((refine call ?_); (refine ⟨_, hls _ _ (by first | omega | (simp; done) | (simp; omega)), ?_⟩); (try simp only [go_sem]))) | ((first | (refine bsp ?_ ?_) | (refine csp ?_ ?_)); all_goals (intro hb; (fail_if_success (cases hb; done)); (try simp only [decide_eq_true_eq, decide_eq_false_iff_not, beq_iff_eq, bne_iff_ne, ne_eq, beq_eq_false_iff_ne, bne_eq_false_iff_eq, Bool.not_eq_true', Bool.not_eq_false', Bool.and_eq_true, Bool.or_eq_true, Decidable.not_not] at hb); (try simp only [go_sem]))))
    refine ⟨by first | exact .inr rfl | exact .inl rfl, .inl ⟨[], _, (by dsimp only [Tryd.f26]; exact sv), ?_, by simp⟩⟩
    rfl
  · have hlen : 0 < (leftN ms b).length := List.length_pos_iff.2 hl
    obtain ⟨hs1, hs2⟩ := left_shorter hm hl
    obtain ⟨hs3, hs4, -⟩ := gfold_ok ms cost (ints (leftN ms b)) cost.length
    obtain ⟨f, rfl⟩ : ∃ f', f = f' + 1 := ⟨f - 1, by omega⟩
    rw [greedyF, if_neg hl] at hg
    have hleft : ∀ i ∈ ints (leftN ms b), 0 ≤ i ∧ i.toNat < ms.length := fun i => mem_leftN
    have hll : (ints (leftN ms b)).length ≤ 512 := by have := leftN_length ms b; simp; omega
    have hll2 : (ints (leftN ms b)).length = (leftN ms b).length := by simp
    have hb2 := bit_or_lt hb (t := (gfold ms cost (ints (leftN ms b)) cost.length).1.toNat) (by omega)
    have hlf2 := hlf _ hb2
    have hor := orMask (a := b) (t := (gfold ms cost (ints (leftN ms b)) cost.length).1) (by omega) hs1 (by omega)
    generalize hb2e : b ||| 2 ^ (gfold ms cost (ints (leftN ms b)) cost.length).1.toNat = b2 at *
    have hR := Lib.hid (And.intro hs1 (And.intro hs2 (And.intro hs4 (And.intro hg (And.intro hor hf)))))
    clear hs1 hs2 hs3 hs4 hg hor hf hb2e hlf
    generalize hlfe : ints (leftN ms b) = left at *
    repeat' (first | (refine go ⟨?_⟩) | (fail) | ((first | (refine bsp ?_ ?_) | (refine csp ?_ ?_)); all_goals (intro hb; (fail_if_success (cases hb; done)); (try simp only [decide_eq_true_eq, decide_eq_false_iff_not, beq_iff_eq, bne_iff_ne, ne_eq, beq_eq_false_iff_ne, bne_eq_false_iff_eq, Bool.not_eq_true', Bool.not_eq_false', Bool.and_eq_true, Bool.or_eq_true, Decidable.not_not] at hb); (try simp only [go_sem]))))
    refine c_loop (fun m s => ∃ (t : Nat) (g1 g2 : Int), (t ≤ cost.length ∧ m = cost.length - t ∧ Hid ((g1, g2) = gfold ms cost left t)) ∧ (s.env.length = 104 ∧ s.sto = sto ++ [.cells [.v (.sl rows.length (rowsC rows))], .cells [.v (SL VU ms), .v (LI cost)]] ∧ s.env[1]? = some (.v (LI cost)) ∧ s.env[2]? = some (.ptr sto.length 0) ∧ s.env[6]? = some (.ptr (sto.length + 1) 0) ∧ s.env[8]? = some (.v (VU b)) ∧ s.env[9]? = some (.v (LI left)) ∧ s.env[10]? = some (.v (VI g1)) ∧ s.env[11]? = some (.v (VI g2)) ∧ s.env[34]? = some (.v (VI cost.length)) ∧ s.env[35]? = some (.v (VI t)))) (.refl _) ⟨0, -1, 0, ⟨by omega, rfl, Lib.hid rfl⟩, rfl, rfl, ?_, ?_, ?_, ?_, ?_, ?_, ?_, ?_, ?_⟩ ?_
    all_goals first | rfl | skip
    rintro m s ⟨t, g1, g2, ⟨e1, rfl, e2⟩, hL, hT, k1, k2, k6, k8, k9, k10, k11, k34, k35⟩
    obtain ⟨env, st0⟩ := s; obtain ⟨J, hJ⟩ := listJ hL; rw [show (List.range 104).map J = J 0 :: J 1 :: J 2 :: J 3 :: J 4 :: J 5 :: J 6 :: J 7 :: J 8 :: J 9 :: J 10 :: J 11 :: J 12 :: J 13 :: J 14 :: J 15 :: J 16 :: J 17 :: J 18 :: J 19 :: J 20 :: J 21 :: J 22 :: J 23 :: J 24 :: J 25 :: J 26 :: J 27 :: J 28 :: J 29 :: J 30 :: J 31 :: J 32 :: J 33 :: J 34 :: J 35 :: J 36 :: J 37 :: J 38 :: J 39 :: J 40 :: J 41 :: J 42 :: J 43 :: J 44 :: J 45 :: J 46 :: J 47 :: J 48 :: J 49 :: J 50 :: J 51 :: J 52 :: J 53 :: J 54 :: J 55 :: J 56 :: J 57 :: J 58 :: J 59 :: J 60 :: J 61 :: J 62 :: J 63 :: J 64 :: J 65 :: J 66 :: J 67 :: J 68 :: J 69 :: J 70 :: J 71 :: J 72 :: J 73 :: J 74 :: J 75 :: J 76 :: J 77 :: J 78 :: J 79 :: J 80 :: J 81 :: J 82 :: J 83 :: J 84 :: J 85 :: J 86 :: J 87 :: J 88 :: J 89 :: J 90 :: J 91 :: J 92 :: J 93 :: J 94 :: J 95 :: J 96 :: J 97 :: J 98 :: J 99 :: J 100 :: J 101 :: J 102 :: J 103 :: [] from by kernel_rfl] at hJ; replace k1 := Option.some.inj ((congrArg (·[1]?) hJ).symm.trans k1); replace k2 := Option.some.inj ((congrArg (·[2]?) hJ).symm.trans k2); replace k6 := Option.some.inj ((congrArg (·[6]?) hJ).symm.trans k6); replace k8 := Option.some.inj ((congrArg (·[8]?) hJ).symm.trans k8); replace k9 := Option.some.inj ((congrArg (·[9]?) hJ).symm.trans k9); replace k10 := Option.some.inj ((congrArg (·[10]?) hJ).symm.trans k10); replace k11 := Option.some.inj ((congrArg (·[11]?) hJ).symm.trans k11); replace k34 := Option.some.inj ((congrArg (·[34]?) hJ).symm.trans k34); replace k35 := Option.some.inj ((congrArg (·[35]?) hJ).symm.trans k35); rw [k1, k2, k6, k8, k9, k10, k11, k34, k35] at hJ; dsimp only at hJ hT; subst hJ; replace hT := hT.symm; subst hT; clear hL k1 k2 k6 k8 k9 k10 k11 k34 k35
    have e2 : _ = _ := e2
    by_cases ht : t < cost.length
    · obtain ⟨k1, k2, k3, k4, -⟩ := gfold_ok ms cost left t
      have hst := gfold_succ ms cost left t
      rw [← e2] at k1 k2 k3 k4 hst
      have hsth := Lib.hid hst
      clear hst
      have e2h := Lib.hid e2
      clear e2
      simp only at k1 k2 k3 k4
      repeat' (first | (refine go ⟨?_⟩) | (fail) | ((first | (refine bsp ?_ ?_) | (refine csp ?_ ?_)); all_goals (intro hb; (fail_if_success (cases hb; done)); (try simp only [decide_eq_true_eq, decide_eq_false_iff_not, beq_iff_eq, bne_iff_ne, ne_eq, beq_eq_false_iff_ne, bne_eq_false_iff_eq, Bool.not_eq_true', Bool.not_eq_false', Bool.and_eq_true, Bool.or_eq_true, Decidable.not_not] at hb); (try simp only [go_sem]))))
      refine c_loop (fun m s => ∃ (i n : Nat), (i ≤ left.length ∧ m = left.length - i ∧ n = killN ms (left.take i) t) ∧ (s.env.length = 104 ∧ s.sto = sto ++ [.cells [.v (.sl rows.length (rowsC rows))], .cells [.v (SL VU ms), .v (LI cost)]] ∧ s.env[1]? = some (.v (LI cost)) ∧ s.env[2]? = some (.ptr sto.length 0) ∧ s.env[6]? = some (.ptr (sto.length + 1) 0) ∧ s.env[8]? = some (.v (VU b)) ∧ s.env[9]? = some (.v (LI left)) ∧ s.env[10]? = some (.v (VI g1)) ∧ s.env[11]? = some (.v (VI g2)) ∧ s.env[12]? = some (.v (VI t)) ∧ s.env[13]? = some (.v (VI n)) ∧ s.env[34]? = some (.v (VI cost.length)) ∧ s.env[35]? = some (.v (VI t)) ∧ s.env[38]? = some (.v (LI left)) ∧ s.env[39]? = some (.v (VI left.length)) ∧ s.env[40]? = some (.v (VI i)))) (.refl _) ⟨0, 0, ⟨by omega, rfl, rfl⟩, rfl, rfl, ?_, ?_, ?_, ?_, ?_, ?_, ?_, ?_, ?_, ?_, ?_, ?_, ?_, ?_⟩ ?_
      all_goals first | rfl | skip
      rintro m s ⟨i, n, ⟨n1, rfl, n3⟩, hL, hT, k1, k2, k6, k8, k9, k10, k11, k12, k13, k34, k35, k38, k39, k40⟩
      obtain ⟨env, st0⟩ := s; obtain ⟨J, hJ⟩ := listJ hL; rw [show (List.range 104).map J = J 0 :: J 1 :: J 2 :: J 3 :: J 4 :: J 5 :: J 6 :: J 7 :: J 8 :: J 9 :: J 10 :: J 11 :: J 12 :: J 13 :: J 14 :: J 15 :: J 16 :: J 17 :: J 18 :: J 19 :: J 20 :: J 21 :: J 22 :: J 23 :: J 24 :: J 25 :: J 26 :: J 27 :: J 28 :: J 29 :: J 30 :: J 31 :: J 32 :: J 33 :: J 34 :: J 35 :: J 36 :: J 37 :: J 38 :: J 39 :: J 40 :: J 41 :: J 42 :: J 43 :: J 44 :: J 45 :: J 46 :: J 47 :: J 48 :: J 49 :: J 50 :: J 51 :: J 52 :: J 53 :: J 54 :: J 55 :: J 56 :: J 57 :: J 58 :: J 59 :: J 60 :: J 61 :: J 62 :: J 63 :: J 64 :: J 65 :: J 66 :: J 67 :: J 68 :: J 69 :: J 70 :: J 71 :: J 72 :: J 73 :: J 74 :: J 75 :: J 76 :: J 77 :: J 78 :: J 79 :: J 80 :: J 81 :: J 82 :: J 83 :: J 84 :: J 85 :: J 86 :: J 87 :: J 88 :: J 89 :: J 90 :: J 91 :: J 92 :: J 93 :: J 94 :: J 95 :: J 96 :: J 97 :: J 98 :: J 99 :: J 100 :: J 101 :: J 102 :: J 103 :: [] from by kernel_rfl] at hJ; replace k1 := Option.some.inj ((congrArg (·[1]?) hJ).symm.trans k1); replace k2 := Option.some.inj ((congrArg (·[2]?) hJ).symm.trans k2); replace k6 := Option.some.inj ((congrArg (·[6]?) hJ).symm.trans k6); replace k8 := Option.some.inj ((congrArg (·[8]?) hJ).symm.trans k8); replace k9 := Option.some.inj ((congrArg (·[9]?) hJ).symm.trans k9); replace k10 := Option.some.inj ((congrArg (·[10]?) hJ).symm.trans k10); replace k11 := Option.some.inj ((congrArg (·[11]?) hJ).symm.trans k11); replace k12 := Option.some.inj ((congrArg (·[12]?) hJ).symm.trans k12); replace k13 := Option.some.inj ((congrArg (·[13]?) hJ).symm.trans k13); replace k34 := Option.some.inj ((congrArg (·[34]?) hJ).symm.trans k34); replace k35 := Option.some.inj ((congrArg (·[35]?) hJ).symm.trans k35); replace k38 := Option.some.inj ((congrArg (·[38]?) hJ).symm.trans k38); replace k39 := Option.some.inj ((congrArg (·[39]?) hJ).symm.trans k39); replace k40 := Option.some.inj ((congrArg (·[40]?) hJ).symm.trans k40); rw [k1, k2, k6, k8, k9, k10, k11, k12, k13, k34, k35, k38, k39, k40] at hJ; dsimp only at hJ hT; subst hJ; replace hT := hT.symm; subst hT; clear hL k1 k2 k6 k8 k9 k10 k11 k12 k13 k34 k35 k38 k39 k40
      by_cases hi : i < left.length
      · obtain ⟨q1, q2⟩ := hleft left[i] (List.getElem_mem hi)
        have hkt := killN_take (ms := ms) (t := t) hi
        have hnl : n ≤ left.length := by rw [n3]; exact Nat.le_trans List.countP_le_length (by simp; omega)
        have hmi := hm.2 _ (List.getElem_mem q2)
        rw [← n3, ← mAt_eq q2] at hkt
        have hkth := Lib.hid hkt
        have e3 := shrU (m := ms[left[i].toNat]) (t := t) (by omega)
        have e4 := bitOne ms[left[i].toNat] t
        have e5 : (ms[left[i].toNat] >>> t) ≤ ms[left[i].toNat] := Nat.shiftRight_le _ _
        have e4h := Lib.hid e4
        have e6 : ms[left[i].toNat] >>> t &&& 1 ≤ 1 := by rw [e4]; split <;> omega
        clear e4 hkt
        repeat' (first | (refine go ⟨?_⟩) | (fail) | ((first | (refine bsp ?_ ?_) | (refine csp ?_ ?_)); all_goals (intro hb; (fail_if_success (cases hb; done)); (try simp only [decide_eq_true_eq, decide_eq_false_iff_not, beq_iff_eq, bne_iff_ne, ne_eq, beq_eq_false_iff_ne, bne_eq_false_iff_eq, Bool.not_eq_true', Bool.not_eq_false', Bool.and_eq_true, Bool.or_eq_true, Decidable.not_not] at hb); (try simp only [go_sem]))))
        refine ⟨_, _, ?_, .refl _, i + 1, _, ⟨by omega, rfl, Eq.symm hkth⟩, rfl, rfl, ?_, ?_, ?_, ?_, ?_, ?_, ?_, ?_, ?_, ?_, ?_, ?_, ?_, ?_⟩
        · omega
        all_goals first | rfl | exact congrArg (fun z => some (D.v (VI z))) (shrAdd (by omega) (by omega) (by omega))
      · have hil : i = left.length := by omega
        subst hil
        rw [List.take_of_length_le (Nat.le_refl _)] at n3
        have hnl : n ≤ left.length := by rw [n3]; exact List.countP_le_length
        have hst : gfold ms cost left (t + 1) = if killN ms left t = 0 then (g1, g2) else if g1 < 0 ∨ (killN ms left t : Int) * cAt cost g1 > g2 * cAt cost t ∨ ((killN ms left t : Int) * cAt cost g1 = g2 * cAt cost t ∧ (killN ms left t : Int) > g2) then ((t : Int), (killN ms left t : Int)) else (g1, g2) := hsth
        rw [← n3] at hst
        clear n3 hsth
        have hB : cost[t] = cAt cost (t : Int) := cAt_eq (t := (t : Int)) ht
        by_cases hn0 : n = 0
        · rw [if_pos hn0] at hst
          repeat' (first | (refine go ⟨?_⟩) | (fail) | ((first | (refine bsp ?_ ?_) | (refine csp ?_ ?_)); all_goals (intro hb; (fail_if_success (cases hb; done)); (try simp only [decide_eq_true_eq, decide_eq_false_iff_not, beq_iff_eq, bne_iff_ne, ne_eq, beq_eq_false_iff_ne, bne_eq_false_iff_eq, Bool.not_eq_true', Bool.not_eq_false', Bool.and_eq_true, Bool.or_eq_true, Decidable.not_not] at hb); (try simp only [go_sem]))))
          refine ⟨_, _, ?_, .refl _, t + 1, g1, g2, ⟨by omega, rfl, Eq.symm hst⟩, rfl, rfl, ?_, ?_, ?_, ?_, ?_, ?_, ?_, ?_, ?_⟩
          · omega
          all_goals rfl
        rw [if_neg hn0] at hst
        by_cases hg : g1 < 0
        · rw [if_pos (.inl hg)] at hst
          repeat' (first | (refine go ⟨?_⟩) | (fail) | ((first | (refine bsp ?_ ?_) | (refine csp ?_ ?_)); all_goals (intro hb; (fail_if_success (cases hb; done)); (try simp only [decide_eq_true_eq, decide_eq_false_iff_not, beq_iff_eq, bne_iff_ne, ne_eq, beq_eq_false_iff_ne, bne_eq_false_iff_eq, Bool.not_eq_true', Bool.not_eq_false', Bool.and_eq_true, Bool.or_eq_true, Decidable.not_not] at hb); (try simp only [go_sem]))))
          refine ⟨_, _, ?_, .refl _, t + 1, t, n, ⟨by omega, rfl, Eq.symm hst⟩, rfl, rfl, ?_, ?_, ?_, ?_, ?_, ?_, ?_, ?_, ?_⟩
          · omega
          all_goals rfl
        have hgl : g1.toNat < cost.length := by omega
        have hA : cost[g1.toNat] = cAt cost g1 := cAt_eq hgl
        have hA2 := cAt_bound hcost g1
        have hB2 := cAt_bound hcost (t : Int)
        rw [← hA] at hst hA2
        rw [← hB] at hst hB2
        have hm1 : 0 ≤ (n : Int) * cost[g1.toNat] := Int.mul_nonneg (by omega) hA2.1
        have hm2 : (n : Int) * cost[g1.toNat] ≤ 512 * 1048576 := Int.mul_le_mul (by omega) hA2.2 hA2.1 (by omega)
        have hm3 : 0 ≤ g2 * cost[t] := Int.mul_nonneg (by omega) hB2.1
        have hm4 : g2 * cost[t] ≤ 512 * 1048576 := Int.mul_le_mul (by omega) hB2.2 hB2.1 (by omega)
        have hsth := Lib.hid hst
        clear hst hA hB
        repeat' (first | (refine go ⟨?_⟩) | (fail) | ((first | (refine bsp ?_ ?_) | (refine csp ?_ ?_)); all_goals (intro hb; (fail_if_success (cases hb; done)); (try simp only [decide_eq_true_eq, decide_eq_false_iff_not, beq_iff_eq, bne_iff_ne, ne_eq, beq_eq_false_iff_ne, bne_eq_false_iff_eq, Bool.not_eq_true', Bool.not_eq_false', Bool.and_eq_true, Bool.or_eq_true, Decidable.not_not] at hb); (try simp only [go_sem]))))
        all_goals have hst : _ = _ := hsth
        all_goals first
          | (refine ⟨_, _, ?_, .refl _, t + 1, t, n, ⟨by omega, rfl, Lib.hid ?_⟩, rfl, rfl, ?_, ?_, ?_, ?_, ?_, ?_, ?_, ?_, ?_⟩ <;> first | rfl | omega | (rw [hst, if_pos (by omega)]))
          | (refine ⟨_, _, ?_, .refl _, t + 1, g1, g2, ⟨by omega, rfl, Lib.hid ?_⟩, rfl, rfl, ?_, ?_, ?_, ?_, ?_, ?_, ?_, ?_, ?_⟩ <;> first | rfl | omega | (rw [hst, if_neg (by omega)]))
    · obtain rfl : t = cost.length := by omega
      obtain ⟨hs1, hs2, hs4, hg, hor, hf⟩ := hR
      rw [← e2] at hs1 hs4 hor
      simp only at hs1 hs4 hor
      have hgh := Lib.hid hg
      clear hg e2
      repeat' (first | (refine go ⟨?_⟩) | (((with_reducible apply ops_call); rfl; (simp (disch := (first | omega | assumption | ((repeat' with_reducible apply And.intro) <;> first | omega | assumption | rfl | (apply Or.inl; rfl) | (apply Or.inr; first | rfl | trivial | fail) | fail) | fail)) only [go_sem, if_pos, if_neg, wrapI, wrapU, decide_eq_true, decide_eq_false, beqT, beqF, bneT, bneF] <;> rfl); (rw [hor]; exact hlf2 _ _ (by first | omega | (simp; done) | (simp; omega))); (try simp only [go_sem]))) | ((first | (refine bsp ?_ ?_) | (refine csp ?_ ?_)); all_goals (intro hb; (fail_if_success (cases hb; done)); (try simp only [decide_eq_true_eq, decide_eq_false_iff_not, beq_iff_eq, bne_iff_ne, ne_eq, beq_eq_false_iff_ne, bne_eq_false_iff_eq, Bool.not_eq_true', Bool.not_eq_false', Bool.and_eq_true, Bool.or_eq_true, Decidable.not_not] at hb); (try simp only [go_sem]))))
      refine ⟨_, _, ?_, .refl _, b2, f, ⟨rfl, hb2, Lib.hid (by omega), hgh⟩, rfl, rfl, ?_, ?_, ?_, ?_, ?_⟩
      · omega
      all_goals first | rfl | exact congrArg (fun z => some (D.v (V.int .u64 z))) hor
end Go.Proofs.YtgkhcjdpdgfdbaaDoor
namespace Go.Proofs.YtgkhcjdpdgfdbaaDoor
theorem deps_le {n : Nat} : ∀ {l : List Crt}, (∀ c ∈ l, dep c + 1 ≤ n) → deps l ≤ n
  | [], _ => by simp [deps]
  | c :: cs, h => by
    have h1 := h c (by simp)
    have h2 := deps_le (l := cs) fun x hx => h x (by simp [hx])
    simp only [deps]; omega
theorem dep_showC (ms : List Nat) (cost : List Int) (bound : Int) : ∀ f b, dep (showC ms cost bound f b) ≤ f
  | 0, b => by simp [showC, dep, deps]
  | f + 1, b => by
    rw [showC]
    split
    · simp [dep, deps]
    · rw [dep]
      refine deps_le fun c hc => ?_
      obtain ⟨t, _, rfl⟩ := List.mem_map.1 hc
      have := dep_showC ms cost bound f (b ||| 2 ^ t)
      omega
theorem cszs_le {n : Nat} : ∀ {l : List Crt}, (∀ c ∈ l, 1 + csz c ≤ n) → cszs l ≤ l.length * n
  | [], _ => by simp [cszs]
  | c :: cs, h => by
    have h1 := h c (by simp)
    have h2 := cszs_le (l := cs) fun x hx => h x (by simp [hx])
    simp only [cszs, List.length_cons, Nat.add_mul]; omega
def bigB : Nat → Nat
  | 0 => 13
  | m + 1 => 13 + (m + 1) * (1 + bigB m)
theorem bigB_ge : ∀ m, 13 ≤ bigB m
  | 0 => by simp [bigB]
  | m + 1 => by rw [bigB]; omega
theorem bigB_step (m : Nat) : bigB m ≤ bigB (m + 1) := by
  rw [bigB, Nat.add_mul]; omega
theorem bigB_mono {a b : Nat} (h : a ≤ b) : bigB a ≤ bigB b := by
  induction h with
  | refl => exact Nat.le_refl _
  | step h ih => exact Nat.le_trans ih (bigB_step _)
theorem pfold_len (ms : List Nat) (cost : List Int) (px : Int) (left : List Int) : (pfold ms cost px left).2.1.length ≤ left.length := by
  have key : ∀ (l : List Int) (s : KS), (l.foldl (pstep ms cost) s).2.1.length ≤ s.2.1.length + l.length := by
    intro l
    induction l with
    | nil => intro s; simp
    | cons x l ih =>
      intro s
      have := ih (pstep ms cost s x)
      rw [List.foldl_cons]
      have h2 : (pstep ms cost s x).2.1.length ≤ s.2.1.length + 1 := by
        rw [pstep]; split <;> simp
      simp only [List.length_cons]; omega
  have := key left (0, [], px)
  simpa [pfold] using this
theorem bits_miss {ms : List Nat} {cost : List Int} (hm : MsOK ms cost) (hc : cost.length ≤ 64) {b : Nat} {r : Int} (hr : r ∈ ints (leftN ms b)) : (bitsN (mAt ms r)).length ≤ miss cost.length b := by
  rw [bitsN_small hc (mAt_lt hm r), subsetS, miss, ← List.countP_eq_length_filter]
  refine List.countP_mono_left fun j _ h => ?_
  rw [and_zero_bit.1 (leftN_and hr) j h]; rfl
theorem csz_showC {ms : List Nat} {cost : List Int} {bound : Int} (hm : MsOK ms cost) (hl : ms.length ≤ 12) (hc : cost.length ≤ 64) (hopt : ∀ b, b < 2 ^ cost.length → leftN ms b = [] → bound ≤ priceS cost (ints (bitsN b))) : ∀ f b, b < 2 ^ cost.length → csz (showC ms cost bound f b) ≤ bigB (miss cost.length b)
  | 0, b, _ => by
    have := bigB_ge (miss cost.length b)
    simp only [showC, csz, cszs, List.length_nil]; omega
  | f + 1, b, hb => by
    rw [showC]
    have hge := bigB_ge (miss cost.length b)
    split
    · have h1 := pfold_len ms cost (priceS cost (ints (bitsN b))) (ints (leftN ms b))
      have h2 := leftN_length ms b
      have h3 : (ints (leftN ms b)).length = (leftN ms b).length := by simp
      simp only [csz, cszs]; omega
    · rename_i hs
      have hne : ints (leftN ms b) ≠ [] := by
        intro h
        apply hs
        rw [h]
        exact hopt b hb (by simpa using h)
      have hr := minRow_mem (ms := ms) hne
      generalize minRow ms (ints (leftN ms b)) = r at *
      have hk := bits_miss hm hc hr
      have hb2 : ∀ t ∈ bitsN (mAt ms r), t < cost.length ∧ b.testBit t = false := fun t ht => by
        have := bitsN_in (mAt_lt hm r) hc (t : Int) (List.mem_map.2 ⟨t, ht, rfl⟩)
        exact ⟨by omega, and_zero_bit.1 (leftN_and hr) t (mem_bitsN.1 ht).2⟩
      simp only [csz, List.length_nil]
      cases hmi : miss cost.length b with
      | zero =>
        have : bitsN (mAt ms r) = [] := List.eq_nil_of_length_eq_zero (by omega)
        rw [this]
        simp [cszs, bigB]
      | succ m =>
        have h4 : cszs ((bitsN (mAt ms r)).map fun t => showC ms cost bound f (b ||| 2 ^ t)) ≤ ((bitsN (mAt ms r)).map fun t => showC ms cost bound f (b ||| 2 ^ t)).length * (1 + bigB m) := by
          refine cszs_le fun c hc' => ?_
          obtain ⟨t, ht, rfl⟩ := List.mem_map.1 hc'
          obtain ⟨h5, h6⟩ := hb2 t ht
          have h7 := csz_showC hm hl hc hopt f (b ||| 2 ^ t) (bit_or_lt hb h5)
          have h8 := miss_lt h5 h6
          have h9 := bigB_mono (a := miss cost.length (b ||| 2 ^ t)) (b := m) (by omega)
          omega
        rw [List.length_map] at h4
        have h10 := Nat.mul_le_mul_right (1 + bigB m) (show (bitsN (mAt ms r)).length ≤ m + 1 by omega)
        rw [bigB]
        omega
theorem certC_size {ms : List Nat} {cost : List Int} (hm : MsOK ms cost) (hl : ms.length ≤ 12) (hc : cost.length ≤ 7) : csz (certC ms cost) < 1000000 ∧ dep (certC ms cost) ≤ 8 := by
  have h1 := csz_showC hm hl (by omega) (fun b hb h => leastN_le ms cost hb h) (cost.length + 1) 0 (Nat.two_pow_pos _)
  have h2 := bigB_mono (Nat.le_trans (miss_le cost.length 0) hc)
  have h3 : bigB 7 = 191799 := by decide
  have h4 := dep_showC ms cost (priceS cost (ints (bitsN (leastN ms cost)))) (cost.length + 1) 0
  rw [certC]
  omega
def leastL (rows : List (List Int)) (cost want : List Int) : Bool := decide (ints (bitsN (leastN (rows.map maskS) cost)) = want) && decide (checkN rows cost (ints (bitsN (leastN (rows.map maskS) cost))) (certC (rows.map maskS) cost) = 0) && decide (checkS rows cost (ints (bitsN (leastN (rows.map maskS) cost))) (certC (rows.map maskS) cost) 0 1 22 = 0)
theorem lives1 : leastL [[0, 1], [1, 2], []] [1, 1, 1] [1] = true := by decide
end Go.Proofs.YtgkhcjdpdgfdbaaDoor
namespace Go.Proofs.YtgkhcjdpdgfdbaaDoor
open Go Go.RowKit

attribute [local irreducible] EvOps EvC
attribute [local go_sem] List.getElem?_toArray getS List.flatten_cons List.flatten_nil
set_option linter.unusedSimpArgs false
set_option linter.unusedVariables false
set_option maxRecDepth 100000
set_option maxHeartbeats 4000000
theorem lawLeast_ev (rows : List (List Int)) (cost want : List Int) (hr : rows.length < 13) (hrr : ∀ r ∈ rows, r.length < 1000000) (h1 : possS rows cost = true) (hc7 : cost.length ≤ 7) (hw : want.length < 1000000) (sto : Sto) (lo : Nat) (hlo : lo ≤ sto.length) : CallEv Tryd.prog tab collB 14 [.v (LLI rows), .v (LI cost), .v (LI want)] sto lo (.v (.bool (leastL rows cost want))) sto := by
  have hm := maskOK h1
  obtain ⟨hsz, hdp⟩ := certC_size hm (by simp; omega) hc7
  have hbl : (ints (bitsN (leastN (rows.map maskS) cost))).length ≤ 64 := by simpa using subsetS_length _ 64
  have hof := fun sto lo hlo => (lawOf_ev rows (by omega) sto lo hlo).up0 (B := collB)
  have hle := fun sto lo hlo => Least_ev rows cost hr hrr h1 (by omega) sto lo hlo
  have hsi := fun sto lo hlo => (sameInts_ev (ints (bitsN (leastN (rows.map maskS) cost))) want (by omega) (by omega) sto lo hlo).up0 (B := collB)
  have hck := fun sto lo hlo => (check_ev rows cost (ints (bitsN (leastN (rows.map maskS) cost))) (certC (rows.map maskS) cost) (by omega) hrr (by omega) (by omega) hsz sto lo hlo).up0 (B := collB)
  have hrc := fun sto lo hlo => (refCheck_ev rows cost (ints (bitsN (leastN (rows.map maskS) cost))) (certC (rows.map maskS) cost) (by omega) hrr (by omega) (by omega) hsz sto lo hlo).up0 (B := collB)
  have hpl := fun sto lo hlo => (plain_ev _ (certC (rows.map maskS) cost) 0 sto lo (Nat.le_refl _) hsz (by omega) hlo).up0 (B := collB)
  rw [leastL]
  generalize ints (bitsN (leastN (rows.map maskS) cost)) = best at *
  generalize certC (rows.map maskS) cost = kc at *
  generalize decide (best = want) = sm at *
  generalize checkN rows cost best kc = c1 at *
  generalize checkS rows cost best kc 0 1 22 = c2 at *
  obtain ⟨kr, kp, kk⟩ := kc
  refine CallEv.intro ⟨_, _, [], Tryd.func14, rfl, by decide, ?_⟩; simp only [go_sem, Tryd.ntmps14]
  repeat' (first | (refine go ⟨?_⟩) | (first | ((refine call ?_); (refine ⟨_, hof _ _ (by first | omega | (simp; done) | (simp; omega)), ?_⟩); (try simp only [go_sem])) | ((refine call ?_); (refine ⟨_, hle _ _ (by first | omega | (simp; done) | (simp; omega)), ?_⟩); (try simp only [go_sem])) | ((refine call ?_); (refine ⟨_, hsi _ _ (by first | omega | (simp; done) | (simp; omega)), ?_⟩); (try simp only [go_sem])) | ((refine call ?_); (refine ⟨_, hck _ _ (by first | omega | (simp; done) | (simp; omega)), ?_⟩); (try simp only [go_sem])) | ((refine call ?_); (refine ⟨_, hrc _ _ (by first | omega | (simp; done) | (simp; omega)), ?_⟩); (try simp only [go_sem])) | ((refine call ?_); (refine ⟨_, hpl _ _ (by first | omega | (simp; done) | (simp; omega)), ?_⟩); (try simp only [go_sem]))) | ((first | (refine bsp ?_ ?_) | (refine csp ?_ ?_)); all_goals (intro hb; (fail_if_success (cases hb; done)); (try simp only [decide_eq_true_eq, decide_eq_false_iff_not, beq_iff_eq, bne_iff_ne, ne_eq, beq_eq_false_iff_ne, bne_eq_false_iff_eq, Bool.not_eq_true', Bool.not_eq_false', Bool.and_eq_true, Bool.or_eq_true, Decidable.not_not] at hb); (try simp only [go_sem]))))
  all_goals (refine ⟨by first | exact .inr rfl | exact .inl rfl, .inl ⟨[], _, (by dsimp only [Tryd.f14]; exact sv), ?_, by simp⟩⟩)
  all_goals simp_all
  all_goals (by_cases h : c2 = 0 <;> simp_all)
theorem lawGreedy_ev (rows : List (List Int)) (cost want : List Int) (hr : rows.length < 1000000) (hrr : ∀ r ∈ rows, r.length < 1000000) (h1 : possS rows cost = true) (hw : want.length < 1000000) (sto : Sto) (lo : Nat) (hlo : lo ≤ sto.length) : CallEv Tryd.prog tab B0 43 [.v (LLI rows), .v (LI cost), .v (LI want)] sto lo (.v (.bool (decide (ints (bitsN (greedyN (rows.map maskS) cost)) = want)))) sto := by
  obtain ⟨-, hc, -⟩ := possS_ok h1
  have hc16 := hc.1
  have hbl : (ints (bitsN (greedyN (rows.map maskS) cost))).length ≤ 64 := by simpa using subsetS_length _ 64
  have hof := fun sto lo hlo => lawOf_ev rows (by omega) sto lo hlo
  have hgr := fun sto lo hlo => greedy_ev rows cost (by omega) hrr (by omega) sto lo hlo
  have hsi := fun sto lo hlo => sameInts_ev (ints (bitsN (greedyN (rows.map maskS) cost))) want (by omega) (by omega) sto lo hlo
  rw [h1] at hgr
  simp only [if_true] at hgr
  generalize ints (bitsN (greedyN (rows.map maskS) cost)) = best at *
  generalize decide (best = want) = sm at *
  refine CallEv.intro ⟨_, _, [], Tryd.func43, rfl, by decide, ?_⟩; simp only [go_sem, Tryd.ntmps43]
  repeat' (first | (refine go ⟨?_⟩) | (first | ((refine call ?_); (refine ⟨_, hof _ _ (by first | omega | (simp; done) | (simp; omega)), ?_⟩); (try simp only [go_sem])) | ((refine call ?_); (refine ⟨_, hgr _ _ (by first | omega | (simp; done) | (simp; omega)), ?_⟩); (try simp only [go_sem])) | ((refine call ?_); (refine ⟨_, hsi _ _ (by first | omega | (simp; done) | (simp; omega)), ?_⟩); (try simp only [go_sem]))) | ((first | (refine bsp ?_ ?_) | (refine csp ?_ ?_)); all_goals (intro hb; (fail_if_success (cases hb; done)); (try simp only [decide_eq_true_eq, decide_eq_false_iff_not, beq_iff_eq, bne_iff_ne, ne_eq, beq_eq_false_iff_ne, bne_eq_false_iff_eq, Bool.not_eq_true', Bool.not_eq_false', Bool.and_eq_true, Bool.or_eq_true, Decidable.not_not] at hb); (try simp only [go_sem]))))
  all_goals (refine ⟨by first | exact .inr rfl | exact .inl rfl, .inl ⟨[], _, (by dsimp only [Tryd.f43]; exact sv), ?_, by simp⟩⟩)
  all_goals simp_all
theorem lives2 : leastL [[0, 1], [1, 2], []] [1, 3, 1] [0, 2] = true := by decide
theorem lives3 : leastL [[0, 1], [1, 2], []] [1, 2, 1] [1] = true := by decide
theorem lives4 : ints (bitsN (greedyN ([[0, 1], [1, 2], []].map maskS) [1, 1, 1])) = [1] := by decide
theorem lives5 : ints (bitsN (greedyN ([[0, 1], [1, 2], []].map maskS) [1, 3, 1])) = [0, 2] := by decide
theorem lives6 : ints (bitsN (greedyN ([[0, 1], [1, 2], []].map maskS) [1, 2, 1])) = [1] := by decide
theorem lives7 : checkN [[0, 1], [1, 2], []] [1, 1, 1] [0, 2] (.mk 0 [] []) = 22 := by decide
theorem lives_ev (sto : Sto) (lo : Nat) (hlo : lo ≤ sto.length) : CallEv Tryd.prog tab collB 16 [] sto lo (.v (.bool true)) sto := by
  have hrr : ∀ r ∈ ([[0, 1], [1, 2], []] : List (List Int)), r.length < 1000000 := by decide
  have a1 := fun sto lo hlo => lawLeast_ev [[0, 1], [1, 2], []] [1, 1, 1] [1] (by decide) hrr (by decide) (by decide) (by decide) sto lo hlo
  have a2 := fun sto lo hlo => lawLeast_ev [[0, 1], [1, 2], []] [1, 3, 1] [0, 2] (by decide) hrr (by decide) (by decide) (by decide) sto lo hlo
  have a3 := fun sto lo hlo => lawLeast_ev [[0, 1], [1, 2], []] [1, 2, 1] [1] (by decide) hrr (by decide) (by decide) (by decide) sto lo hlo
  have b1 := fun sto lo hlo => (lawGreedy_ev [[0, 1], [1, 2], []] [1, 1, 1] [1] (by decide) hrr (by decide) (by decide) sto lo hlo).up0 (B := collB)
  have b2 := fun sto lo hlo => (lawGreedy_ev [[0, 1], [1, 2], []] [1, 3, 1] [0, 2] (by decide) hrr (by decide) (by decide) sto lo hlo).up0 (B := collB)
  have b3 := fun sto lo hlo => (lawGreedy_ev [[0, 1], [1, 2], []] [1, 2, 1] [1] (by decide) hrr (by decide) (by decide) sto lo hlo).up0 (B := collB)
  have c1 := fun sto lo hlo => (lawOf_ev [[0, 1], [1, 2], []] (by decide) sto lo hlo).up0 (B := collB)
  have c2 := fun sto lo hlo => (check_ev [[0, 1], [1, 2], []] [1, 1, 1] [0, 2] (.mk 0 [] []) (by decide) hrr (by decide) (by decide) (by decide) sto lo hlo).up0 (B := collB)
  rw [lives1] at a1
  rw [lives2] at a2
  rw [lives3] at a3
  rw [lives4] at b1
  rw [lives5] at b2
  rw [lives6] at b3
  rw [lives7] at c2
  rw [decide_eq_true rfl] at b1 b2 b3
  refine CallEv.intro ⟨_, _, [], Tryd.func16, rfl, by decide, ?_⟩; simp only [go_sem, Tryd.ntmps16]
  repeat' (first | (refine go ⟨?_⟩) | (first | ((refine call ?_); (refine ⟨_, a1 _ _ (by first | omega | (simp; done) | (simp; omega)), ?_⟩); (try simp only [go_sem])) | ((refine call ?_); (refine ⟨_, a2 _ _ (by first | omega | (simp; done) | (simp; omega)), ?_⟩); (try simp only [go_sem])) | ((refine call ?_); (refine ⟨_, a3 _ _ (by first | omega | (simp; done) | (simp; omega)), ?_⟩); (try simp only [go_sem])) | ((refine call ?_); (refine ⟨_, b1 _ _ (by first | omega | (simp; done) | (simp; omega)), ?_⟩); (try simp only [go_sem])) | ((refine call ?_); (refine ⟨_, b2 _ _ (by first | omega | (simp; done) | (simp; omega)), ?_⟩); (try simp only [go_sem])) | ((refine call ?_); (refine ⟨_, b3 _ _ (by first | omega | (simp; done) | (simp; omega)), ?_⟩); (try simp only [go_sem])) | ((refine call ?_); (refine ⟨_, c1 _ _ (by first | omega | (simp; done) | (simp; omega)), ?_⟩); (try simp only [go_sem])) | ((refine call ?_); (refine ⟨_, c2 _ _ (by first | omega | (simp; done) | (simp; omega)), ?_⟩); (try simp only [go_sem]))) | ((first | (refine bsp ?_ ?_) | (refine csp ?_ ?_)); all_goals (intro hb; (fail_if_success (cases hb; done)); (try simp only [decide_eq_true_eq, decide_eq_false_iff_not, beq_iff_eq, bne_iff_ne, ne_eq, beq_eq_false_iff_ne, bne_eq_false_iff_eq, Bool.not_eq_true', Bool.not_eq_false', Bool.and_eq_true, Bool.or_eq_true, Decidable.not_not] at hb); (try simp only [go_sem]))))
  refine ⟨by first | exact .inr rfl | exact .inl rfl, .inl ⟨[], _, (by dsimp only [Tryd.f16]; exact sv), ?_, by simp⟩⟩
  rfl
end Go.Proofs.YtgkhcjdpdgfdbaaDoor
namespace Go.Proofs.YtgkhcjdpdgfdbaaDoor
theorem possS_mk {rows : List (List Int)} {cost : List Int} (h1 : rows.length ≤ 512) (h2 : CostOK cost) (h3 : ∀ r ∈ rows, In cost.length r) : possS rows cost = true := by
  simp only [possS, Bool.and_eq_true, decide_eq_true_eq, List.all_eq_true]
  exact ⟨⟨⟨h1, h2.1⟩, h2.2⟩, h3⟩
theorem rowG_in (l : List Int) (tests : Nat) (a many : Nat) : In tests (rowG l tests a many) := by
  unfold rowG
  split
  · rename_i h
    intro t ht
    obtain ⟨k, _, rfl⟩ := List.mem_map.1 ht
    exact atS_bound h
  · intro t ht; cases ht
theorem rowsG_mem (l : List Int) (tests : Int) : ∀ (n a : Nat) (r : List Int), r ∈ rowsG l tests n a → ∃ a many, many ≤ 4 ∧ r = rowG l tests a many
  | 0, _, r, h => by cases h
  | n + 1, a, r, h => by
    rw [rowsG] at h
    rcases List.mem_cons.1 h with rfl | h
    · have := atS_bound (l := l) (i := (a : Int)) (most := 5) (by omega)
      exact ⟨_, _, by omega, rfl⟩
    · exact rowsG_mem l tests n _ r h
theorem rowsG_length (l : List Int) (tests : Int) : ∀ (n a : Nat), (rowsG l tests n a).length = n
  | 0, _ => rfl
  | n + 1, a => by rw [rowsG, List.length_cons, rowsG_length]
structure Drawn (rows : List (List Int)) (cost : List Int) : Prop where
  len : rows.length ≤ 9
  row : ∀ r ∈ rows, r.length ≤ 4
  costs : CostOK cost
  many : cost.length ≤ 7
  inn : ∀ r ∈ rows, In cost.length r
theorem drawn (l m : List Int) : Drawn (rowsS l (costsS m).length) (costsS m) := by
  refine ⟨?_, ?_, costsS_ok m, costsS_length m, ?_⟩
  · have := atS_bound (l := l) (i := 0) (most := 10) (by omega)
    rw [rowsS, rowsG_length]; omega
  · intro r hr
    obtain ⟨a, k, hk, rfl⟩ := rowsG_mem _ _ _ _ _ hr
    exact Nat.le_trans (rowG_length _ _ _ _) hk
  · intro r hr
    obtain ⟨a, k, hk, rfl⟩ := rowsG_mem _ _ _ _ _ hr
    exact rowG_in _ _ _ _
theorem Drawn.poss {rows : List (List Int)} {cost : List Int} (h : Drawn rows cost) : possS rows cost = true := possS_mk (by have := h.len; omega) h.costs h.inn
/-- The same must be killed. -/
structure Alike (rows L : List (List Int)) : Prop where
  wide : ∀ R ∈ L, R ≠ [] → ∃ Q ∈ rows, Q ≠ [] ∧ ∀ t ∈ Q, t ∈ R
  all : ∀ Q ∈ rows, Q ≠ [] → Q ∈ L
theorem lacks_congr2 {ms ms' : List Nat} {n : Nat} (h : ∀ r ∈ ms', r ≠ 0 → ∃ q ∈ ms, q ≠ 0 ∧ ∀ j, q.testBit j = true → r.testBit j = true) (h2 : ∀ q ∈ ms, q ≠ 0 → q ∈ ms') : lacks ms' n = lacks ms n := by
  unfold lacks
  rw [Bool.eq_iff_iff, List.any_eq_true, List.any_eq_true]
  simp only [Bool.and_eq_true, decide_eq_true_eq]
  constructor
  · rintro ⟨r, hr, h0, h1⟩
    obtain ⟨q, hq, hq0, hqr⟩ := h r hr h0
    exact ⟨q, hq, hq0, and_zero_bit.2 fun j hj => and_zero_bit.1 h1 j (hqr j hj)⟩
  · rintro ⟨q, hq, h0, h1⟩
    exact ⟨q, h2 q hq h0, h0, h1⟩
theorem lfold_congr {ms ms' : List Nat} {cost : List Int} (h : ∀ n, lacks ms' n = lacks ms n) : ∀ k, lfold ms' cost k = lfold ms cost k
  | 0 => rfl
  | k + 1 => by rw [lfold_succ, lfold_succ, lfold_congr h k, lstep, lstep, h]
theorem alike_least {rows L : List (List Int)} {cost : List Int} (h : Alike rows L) (h1 : ∀ r ∈ rows, In cost.length r) (h2 : ∀ r ∈ L, In cost.length r) : leastN (L.map maskS) cost = leastN (rows.map maskS) cost := by
  rw [leastN, leastN, lfold_congr fun n => ?_]
  refine lacks_congr2 ?_ ?_
  · intro r hr h0
    obtain ⟨R, hR, rfl⟩ := List.mem_map.1 hr
    have hne : R ≠ [] := fun h => h0 ((mask_zero fun t ht => (h2 R hR t ht).1).2 h)
    obtain ⟨Q, hQ, hQ0, hQR⟩ := h.wide R hR hne
    refine ⟨maskS Q, List.mem_map.2 ⟨Q, hQ, rfl⟩, fun h => hQ0 ((mask_zero fun t ht => (h1 Q hQ t ht).1).1 h), fun j hj => ?_⟩
    rw [mask_bit fun t ht => (h1 Q hQ t ht).1, decide_eq_true_eq] at hj
    rw [mask_bit fun t ht => (h2 R hR t ht).1, decide_eq_true_eq]
    exact hQR _ hj
  · intro q hq h0
    obtain ⟨Q, hQ, rfl⟩ := List.mem_map.1 hq
    exact List.mem_map.2 ⟨Q, h.all Q hQ fun h => h0 ((mask_zero fun t ht => (h1 Q hQ t ht).1).2 h), rfl⟩
theorem alike_turn (rows : List (List Int)) (k : Nat) : Alike rows (rows.drop k ++ rows.take k) := by
  have hm : ∀ R, R ∈ rows.drop k ++ rows.take k ↔ R ∈ rows := fun R => by
    rw [List.mem_append, or_comm, ← List.mem_append, List.take_append_drop]
  exact ⟨fun R hR h => ⟨R, (hm R).1 hR, h, fun t ht => ht⟩, fun Q hQ _ => (hm Q).2 hQ⟩
theorem alike_some (rows : List (List Int)) : Alike rows (rows.filter fun r => decide (r.length > 0)) :=
  ⟨fun R hR h => ⟨R, (List.mem_filter.1 hR).1, h, fun t ht => ht⟩, fun Q hQ h => List.mem_filter.2 ⟨hQ, by simpa using List.length_pos_iff.2 h⟩⟩
theorem alike_two {rows : List (List Int)} {row : List Int} (h : row ∈ rows) : Alike rows (rows ++ [row]) := by
  have hm : ∀ R, R ∈ rows ++ [row] ↔ R ∈ rows := fun R => by
    rw [List.mem_append, List.mem_singleton]
    exact ⟨fun h2 => h2.elim id fun h2 => h2 ▸ h, .inl⟩
  exact ⟨fun R hR h => ⟨R, (hm R).1 hR, h, fun t ht => ht⟩, fun Q hQ _ => (hm Q).2 hQ⟩
theorem alike_wide {rows : List (List Int)} {row x : List Int} (h : row ∈ rows) (h0 : row ≠ []) : Alike rows ((row ++ x) :: rows) := by
  refine ⟨fun R hR h2 => ?_, fun Q hQ _ => List.mem_cons_of_mem _ hQ⟩
  rcases List.mem_cons.1 hR with rfl | hR
  · exact ⟨row, h, h0, fun t ht => List.mem_append_left _ ht⟩
  · exact ⟨R, hR, h2, fun t ht => ht⟩
end Go.Proofs.YtgkhcjdpdgfdbaaDoor
namespace Go.Proofs.YtgkhcjdpdgfdbaaDoor
theorem incS_range (p : Nat → Bool) (n : Nat) : ∀ (k s : Nat) (a : Int), a < s → s + k ≤ n → incS n a (ints ((List.range' s k).filter p)) = true
  | 0, s, a, _, _ => by simp [incS]
  | k + 1, s, a, h1, h2 => by
    rw [List.range'_succ, List.filter_cons]
    split
    · rw [ints, List.map_cons, incS, decide_eq_true h1, decide_eq_true (by omega), Bool.true_and, Bool.true_and]
      exact incS_range p n k (s + 1) s (by omega) (by omega)
    · exact incS_range p n k (s + 1) a (by omega) (by omega)
theorem incS_bits {b n : Nat} (hn : n ≤ 64) (hb : b < 2 ^ n) : incS n (-1) (ints (bitsN b)) = true := by
  rw [bitsN_small hn hb, subsetS, List.range_eq_range']
  exact incS_range _ n n 0 (-1) (by omega) (by omega)
theorem left_eq {rows : List (List Int)} {n b : Nat} (h : ∀ r ∈ rows, In n r) (hn : n ≤ 64) : leftS rows (ints (bitsN b)) = leftN (rows.map maskS) b := by
  unfold leftS leftN
  rw [List.length_map]
  refine List.filter_congr fun i hi => ?_
  have hi := List.mem_range.1 hi
  have h1 : (rows.map maskS).getD i 0 = maskS rows[i] := by simp [List.getD, hi]
  have h2 : rows.getD i [] = rows[i] := by simp [List.getD, hi]
  have hr := h _ (List.getElem_mem hi)
  rw [leftB, h1, h2]
  congr 1
  · rw [decide_eq_decide]
    rw [ne_eq, mask_zero fun t ht => (hr t ht).1, List.length_pos_iff]
  · have := mask_meets (b := b) hr hn
    rw [Bool.eq_iff_iff, decide_eq_true_eq, this]
    simp
theorem suite_of {rows : List (List Int)} {cost : List Int} {b : Nat} (h : ∀ r ∈ rows, In cost.length r) (hn : cost.length ≤ 64) (hb : b < 2 ^ cost.length) (h0 : leftN (rows.map maskS) b = []) : suiteS rows cost (ints (bitsN b)) = true := by
  rw [suiteS, incS_bits hn hb, left_eq h hn, h0]; rfl
theorem least_suite {rows : List (List Int)} {cost : List Int} (h : possS rows cost = true) : suiteS rows cost (ints (bitsN (leastN (rows.map maskS) cost))) = true := by
  obtain ⟨-, h2, h3⟩ := possS_ok h
  exact suite_of h3 (by have := h2.1; omega) (leastN_lt _ _) (leastN_left (maskOK h))
theorem price_more {cost : List Int} (x : List Int) : ∀ {ts : List Int}, In cost.length ts → priceS (cost ++ x) ts = priceS cost ts
  | [], _ => rfl
  | t :: ts, h => by
    rw [priceS_cons, priceS_cons, price_more x fun u hu => h u (by simp [hu])]
    congr 1
    have ht := h t (by simp)
    rw [cAt, cAt, List.getD_eq_getElem?_getD, List.getD_eq_getElem?_getD, List.getElem?_append_left (by omega)]
theorem price_times (f : Int) (cost : List Int) : ∀ ts : List Int, priceS (cost.map (f * ·)) ts = f * priceS cost ts
  | [] => by simp [priceS]
  | t :: ts => by
    rw [priceS_cons, priceS_cons, price_times f cost ts, Int.mul_add]
    congr 1
    rw [cAt, cAt, List.getD_eq_getElem?_getD, List.getD_eq_getElem?_getD, List.getElem?_map]
    cases cost[t.toNat]? <;> simp
theorem before_times {f : Int} (hf : 0 < f) (a b : Nat) (x y : Int) : beforeN a b (f * x) (f * y) = beforeN a b x y := by
  have h1 : f * x ≠ f * y ↔ x ≠ y := by
    rw [ne_eq, ne_eq, Int.mul_eq_mul_left_iff (by omega)]
  have h2 : (f * x < f * y) ↔ x < y := ⟨fun h => Int.lt_of_mul_lt_mul_left h (by omega), fun h => Int.mul_lt_mul_of_pos_left h hf⟩
  unfold beforeN
  by_cases h : x ≠ y
  · rw [if_pos h, if_pos (h1.2 h)]
    exact decide_eq_decide.2 h2
  · rw [if_neg h, if_neg fun h' => h (h1.1 h')]
theorem lfold_times {f : Int} (hf : 0 < f) (ms : List Nat) (cost : List Int) : ∀ k, lfold ms (cost.map (f * ·)) k = ((lfold ms cost k).1, f * (lfold ms cost k).2.1, (lfold ms cost k).2.2)
  | 0 => by simp [lfold]
  | k + 1 => by
    rw [lfold_succ, lfold_succ, lfold_times hf ms cost k, lstep, lstep, price_times, before_times hf]
    split
    · rfl
    · split <;> rfl
theorem least_times {f : Int} (hf : 0 < f) (ms : List Nat) (cost : List Int) : leastN ms (cost.map (f * ·)) = leastN ms cost := by
  rw [leastN, leastN, lfold_times hf, List.length_map]
/-- One more row: not cheaper. -/
theorem least_longer {rows : List (List Int)} {further cost : List Int} (h2 : possS (rows ++ [further]) cost = true) : priceS cost (ints (bitsN (leastN (rows.map maskS) cost))) ≤ priceS cost (ints (bitsN (leastN ((rows ++ [further]).map maskS) cost))) := by
  refine leastN_le _ _ (leastN_lt _ _) ?_
  have h3 := leastN_left (maskOK h2)
  rw [← lacks_left] at h3 ⊢
  generalize leastN ((rows ++ [further]).map maskS) cost = b at *
  unfold lacks at h3 ⊢
  rw [List.any_eq_false] at h3 ⊢
  intro r hr
  exact h3 r (by rw [List.map_append]; exact List.mem_append_left _ hr)
/-- One more test: not more expensive. -/
theorem least_dear {rows killed : List (List Int)} {cost : List Int} {x : Int} (h1 : possS rows cost = true) (h2 : possS killed (cost ++ [x]) = true)
    (hk : ∀ R ∈ killed, R ≠ [] → ∃ Q ∈ rows, Q ≠ [] ∧ ∀ t ∈ Q, t ∈ R) :
    priceS (cost ++ [x]) (ints (bitsN (leastN (killed.map maskS) (cost ++ [x])))) ≤ priceS cost (ints (bitsN (leastN (rows.map maskS) cost))) := by
  have hlt := leastN_lt (rows.map maskS) cost
  have h3 := leastN_left (maskOK h1)
  obtain ⟨-, hc, hin⟩ := possS_ok h1
  obtain ⟨-, _, hin2⟩ := possS_ok h2
  rw [← price_more [x] (bitsN_in hlt (by have := hc.1; omega))]
  generalize leastN (rows.map maskS) cost = b at *
  refine leastN_le _ _ (Nat.lt_of_lt_of_le hlt (Nat.pow_le_pow_right (by omega) (by simp))) ?_
  rw [← lacks_left] at h3 ⊢
  unfold lacks at h3 ⊢
  rw [List.any_eq_false] at h3 ⊢
  intro r hr h4
  obtain ⟨R, hR, rfl⟩ := List.mem_map.1 hr
  simp only [Bool.and_eq_true, decide_eq_true_eq] at h4
  obtain ⟨Q, hQ, hQ0, hQR⟩ := hk R hR fun h => h4.1 ((mask_zero fun t ht => (hin2 R hR t ht).1).2 h)
  refine h3 _ (List.mem_map.2 ⟨Q, hQ, rfl⟩) ?_
  simp only [Bool.and_eq_true, decide_eq_true_eq]
  refine ⟨fun h => hQ0 ((mask_zero fun t ht => (hin Q hQ t ht).1).1 h), and_zero_bit.2 fun j hj => and_zero_bit.1 h4.2 j ?_⟩
  rw [mask_bit fun t ht => (hin Q hQ t ht).1, decide_eq_true_eq] at hj
  rw [mask_bit fun t ht => (hin2 R hR t ht).1, decide_eq_true_eq]
  exact hQR _ hj
end Go.Proofs.YtgkhcjdpdgfdbaaDoor
namespace Go.Proofs.YtgkhcjdpdgfdbaaDoor
open Go Go.RowKit

attribute [local irreducible] EvOps EvC
attribute [local go_sem] List.getElem?_toArray getS List.flatten_cons List.flatten_nil List.contains_nil
set_option linter.unusedSimpArgs false
set_option linter.unusedVariables false
set_option maxRecDepth 100000
set_option maxHeartbeats 40000000
theorem quo_bound {f : Int} (h1 : 1 ≤ f) (h2 : f ≤ 5) : 0 ≤ Int.tdiv 1048576 f ∧ Int.tdiv 1048576 f ≤ 1048576 := by
  obtain rfl | rfl | rfl | rfl | rfl : f = 1 ∨ f = 2 ∨ f = 3 ∨ f = 4 ∨ f = 5 := by omega
  all_goals decide
theorem mul_bound {f c : Int} (h1 : 1 ≤ f) (h2 : f ≤ 5) (hc : 0 ≤ c) (h : ¬ c > Int.tdiv 1048576 f) : 0 ≤ f * c ∧ f * c ≤ 1048576 := by
  obtain rfl | rfl | rfl | rfl | rfl : f = 1 ∨ f = 2 ∨ f = 3 ∨ f = 4 ∨ f = 5 := by omega
  all_goals (simp only [show Int.tdiv 1048576 1 = 1048576 from rfl, show Int.tdiv 1048576 2 = 524288 from rfl, show Int.tdiv 1048576 3 = 349525 from rfl, show Int.tdiv 1048576 4 = 262144 from rfl, show Int.tdiv 1048576 5 = 209715 from rfl] at h; omega)
/-- A row with a further test here and there. -/
def KR (rows : List (List Int)) (n : Nat) (R : List Int) : Prop := R.length ≤ 14 ∧ In (n + 1) R ∧ (R ≠ [] → ∃ Q ∈ rows, Q ≠ [] ∧ ∀ t ∈ Q, t ∈ R)
theorem suiteMore_ev (l m row : List Int) (price which by' : Int) (hl : l.length < 9223372036854775808) (hlx : ∀ x ∈ l, Big x) (hm : m.length < 9223372036854775808) (hmx : ∀ x ∈ m, Big x) (hro : row.length < 9223372036854775808) (hrox : ∀ x ∈ row, Big x) (hprice : Big price) (hwhich : Big which) (hby : Big by') (sto : Sto) (lo : Nat) (hlo : lo ≤ sto.length) : CallEv Tryd.prog tab collB 8 [.v (LI l), .v (LI m), .v (LI row), .v (VI price), .v (VI which), .v (VI by')] sto lo (.v (.bool true)) sto := by
  have hd := drawn l m
  have hcs := fun sto lo hlo => (refCosts_ev m hm hmx sto lo hlo).up0 (B := collB)
  have hrs := fun sto lo hlo => (refRows_ev l (costsS m).length hl hlx (by omega) (by have := hd.many; omega) sto lo hlo).up0 (B := collB)
  generalize costsS m = cost at *
  generalize rowsS l cost.length = rows at *
  obtain ⟨d1, d2, d3, d4, d5⟩ := id hd
  have hp := hd.poss
  have hof := fun sto lo hlo => (lawOf_ev rows (by omega) sto lo hlo).up0 (B := collB)
  have hle := fun sto lo hlo => Least_ev rows cost (by omega) (fun r hr => by have := d2 r hr; omega) hp (by omega) sto lo hlo
  have hbl : (ints (bitsN (leastN (rows.map maskS) cost))).length ≤ 64 := by simpa using subsetS_length _ 64
  have hbi : In cost.length (ints (bitsN (leastN (rows.map maskS) cost))) := bitsN_in (leastN_lt _ _) (by omega)
  have hsu := fun sto lo hlo => (refSuite_ev rows cost (ints (bitsN (leastN (rows.map maskS) cost))) (by omega) (fun r hr => by have := d2 r hr; omega) (by omega) (by omega) sto lo hlo).up0 (B := collB)
  rw [least_suite hp] at hsu
  have hpr := fun sto lo hlo => (refPrice_ev (ints (bitsN (leastN (rows.map maskS) cost))) cost d3 hbi (by omega) sto lo hlo).up0 (B := collB)
  generalize hbest : ints (bitsN (leastN (rows.map maskS) cost)) = best at *
  generalize certC (rows.map maskS) cost = kc at *
  generalize hsum : priceS cost best = sum at *
  obtain ⟨kr, kp, kk⟩ := kc
  have hX := Lib.hid (And.intro hd (And.intro hbest (And.intro hsum (And.intro d2 (And.intro d5 hrox)))))
  clear hd hbest hsum d2 d5 hrox hbi hl hlx hm hmx hp
  refine CallEv.intro ⟨_, _, [], Tryd.func8, rfl, by decide, ?_⟩; simp only [go_sem, Tryd.ntmps8]
  repeat' (first | (refine go ⟨?_⟩) | (first | ((refine call ?_); (refine ⟨_, hcs _ _ (by first | omega | (simp; done) | (simp; omega)), ?_⟩); (try simp only [go_sem])) | ((refine call ?_); (refine ⟨_, hrs _ _ (by first | omega | (simp; done) | (simp; omega)), ?_⟩); (try simp only [go_sem])) | ((refine call ?_); (refine ⟨_, hof _ _ (by first | omega | (simp; done) | (simp; omega)), ?_⟩); (try simp only [go_sem])) | ((refine call ?_); (refine ⟨_, hle _ _ (by first | omega | (simp; done) | (simp; omega)), ?_⟩); (try simp only [go_sem])) | ((refine call ?_); (refine ⟨_, hsu _ _ (by first | omega | (simp; done) | (simp; omega)), ?_⟩); (try simp only [go_sem])) | ((refine call ?_); (refine ⟨_, hpr _ _ (by first | omega | (simp; done) | (simp; omega)), ?_⟩); (try simp only [go_sem]))) | ((first | (refine bsp ?_ ?_) | (refine csp ?_ ?_)); all_goals (intro hb; (fail_if_success (cases hb; done)); (try simp only [decide_eq_true_eq, decide_eq_false_iff_not, beq_iff_eq, bne_iff_ne, ne_eq, beq_eq_false_iff_ne, bne_eq_false_iff_eq, Bool.not_eq_true', Bool.not_eq_false', Bool.and_eq_true, Bool.or_eq_true, Decidable.not_not] at hb); (try simp only [go_sem]))))
  refine cut_c (P := fun s => ∃ js, (s.env.length = 239 ∧ s.sto = sto ++ js ∧ s.env[2]? = some (.v (LI row)) ∧ s.env[3]? = some (.v (VI price)) ∧ s.env[4]? = some (.v (VI which)) ∧ s.env[5]? = some (.v (VI by')) ∧ s.env[13]? = some (.v (LI cost)) ∧ s.env[14]? = some (.v (LLI rows)) ∧ s.env[15]? = some (.v (LI best)) ∧ s.env[18]? = some (.v (VI sum)) ∧ s.env[19]? = some (.nilS) ∧ s.env[20]? = some (.v (VI 0)))) ⟨_, rfl, rfl, ?_, ?_, ?_, ?_, ?_, ?_, ?_, ?_, ?_, ?_⟩ ?_
  all_goals first | rfl | skip
  rintro s ⟨js, hL, hT, k2, k3, k4, k5, k13, k14, k15, k18, k19, k20⟩
  obtain ⟨env, st0⟩ := s; obtain ⟨J, hJ⟩ := listJ hL; rw [show (List.range 239).map J = J 0 :: J 1 :: J 2 :: J 3 :: J 4 :: J 5 :: J 6 :: J 7 :: J 8 :: J 9 :: J 10 :: J 11 :: J 12 :: J 13 :: J 14 :: J 15 :: J 16 :: J 17 :: J 18 :: J 19 :: J 20 :: J 21 :: J 22 :: J 23 :: J 24 :: J 25 :: J 26 :: J 27 :: J 28 :: J 29 :: J 30 :: J 31 :: J 32 :: J 33 :: J 34 :: J 35 :: J 36 :: J 37 :: J 38 :: J 39 :: J 40 :: J 41 :: J 42 :: J 43 :: J 44 :: J 45 :: J 46 :: J 47 :: J 48 :: J 49 :: J 50 :: J 51 :: J 52 :: J 53 :: J 54 :: J 55 :: J 56 :: J 57 :: J 58 :: J 59 :: J 60 :: J 61 :: J 62 :: J 63 :: J 64 :: J 65 :: J 66 :: J 67 :: J 68 :: J 69 :: J 70 :: J 71 :: J 72 :: J 73 :: J 74 :: J 75 :: J 76 :: J 77 :: J 78 :: J 79 :: J 80 :: J 81 :: J 82 :: J 83 :: J 84 :: J 85 :: J 86 :: J 87 :: J 88 :: J 89 :: J 90 :: J 91 :: J 92 :: J 93 :: J 94 :: J 95 :: J 96 :: J 97 :: J 98 :: J 99 :: J 100 :: J 101 :: J 102 :: J 103 :: J 104 :: J 105 :: J 106 :: J 107 :: J 108 :: J 109 :: J 110 :: J 111 :: J 112 :: J 113 :: J 114 :: J 115 :: J 116 :: J 117 :: J 118 :: J 119 :: J 120 :: J 121 :: J 122 :: J 123 :: J 124 :: J 125 :: J 126 :: J 127 :: J 128 :: J 129 :: J 130 :: J 131 :: J 132 :: J 133 :: J 134 :: J 135 :: J 136 :: J 137 :: J 138 :: J 139 :: J 140 :: J 141 :: J 142 :: J 143 :: J 144 :: J 145 :: J 146 :: J 147 :: J 148 :: J 149 :: J 150 :: J 151 :: J 152 :: J 153 :: J 154 :: J 155 :: J 156 :: J 157 :: J 158 :: J 159 :: J 160 :: J 161 :: J 162 :: J 163 :: J 164 :: J 165 :: J 166 :: J 167 :: J 168 :: J 169 :: J 170 :: J 171 :: J 172 :: J 173 :: J 174 :: J 175 :: J 176 :: J 177 :: J 178 :: J 179 :: J 180 :: J 181 :: J 182 :: J 183 :: J 184 :: J 185 :: J 186 :: J 187 :: J 188 :: J 189 :: J 190 :: J 191 :: J 192 :: J 193 :: J 194 :: J 195 :: J 196 :: J 197 :: J 198 :: J 199 :: J 200 :: J 201 :: J 202 :: J 203 :: J 204 :: J 205 :: J 206 :: J 207 :: J 208 :: J 209 :: J 210 :: J 211 :: J 212 :: J 213 :: J 214 :: J 215 :: J 216 :: J 217 :: J 218 :: J 219 :: J 220 :: J 221 :: J 222 :: J 223 :: J 224 :: J 225 :: J 226 :: J 227 :: J 228 :: J 229 :: J 230 :: J 231 :: J 232 :: J 233 :: J 234 :: J 235 :: J 236 :: J 237 :: J 238 :: [] from by kernel_rfl] at hJ; replace k2 := Option.some.inj ((congrArg (·[2]?) hJ).symm.trans k2); replace k3 := Option.some.inj ((congrArg (·[3]?) hJ).symm.trans k3); replace k4 := Option.some.inj ((congrArg (·[4]?) hJ).symm.trans k4); replace k5 := Option.some.inj ((congrArg (·[5]?) hJ).symm.trans k5); replace k13 := Option.some.inj ((congrArg (·[13]?) hJ).symm.trans k13); replace k14 := Option.some.inj ((congrArg (·[14]?) hJ).symm.trans k14); replace k15 := Option.some.inj ((congrArg (·[15]?) hJ).symm.trans k15); replace k18 := Option.some.inj ((congrArg (·[18]?) hJ).symm.trans k18); replace k19 := Option.some.inj ((congrArg (·[19]?) hJ).symm.trans k19); replace k20 := Option.some.inj ((congrArg (·[20]?) hJ).symm.trans k20); rw [k2, k3, k4, k5, k13, k14, k15, k18, k19, k20] at hJ; dsimp only at hJ hT; subst hJ; replace hT := hT.symm; subst hT; clear hL k2 k3 k4 k5 k13 k14 k15 k18 k19 k20
  obtain ⟨hd, hbest, hsum, d2, d5, hrox⟩ := id hX
  clear hX hcs hrs hof hle hsu hpr
  refine c_cut (.exit 0) (fun s => ∃ (further : List Int) (n' : Nat) (es : Option (TypeId × Nat)) (cs : List V), (further.length ≤ 5 ∧ In cost.length further ∧ n' = further.length ∧ cs = further.map VI) ∧ (s.env.length = 239 ∧ s.sto = sto ++ (js ++ [.arr es false n' cs]) ∧ s.env[3]? = some (.v (VI price)) ∧ s.env[4]? = some (.v (VI which)) ∧ s.env[5]? = some (.v (VI by')) ∧ s.env[13]? = some (.v (LI cost)) ∧ s.env[14]? = some (.v (LLI rows)) ∧ s.env[15]? = some (.v (LI best)) ∧ s.env[18]? = some (.v (VI sum)) ∧ s.env[19]? = some (.arr (sto.length + js.length) n'))) ?_ ?_
  · refine c_loop (fun m s => ∃ (i n' id : Nat) (cs : List V) (es : Option (TypeId × Nat)), (i ≤ 5 ∧ i ≤ row.length ∧ i ≤ 5 * cost.length ∧ m = 5 - i ∧ id = sto.length + js.length ∧ i = n' ∧ cs = ((row.take i).map (aroundS · cost.length)).map VI ∧ (es = none ∨ es = some (3, 1))) ∧ (s.env.length = 239 ∧ s.sto = sto ++ (js ++ [.arr es false n' cs]) ∧ s.env[2]? = some (.v (LI row)) ∧ s.env[3]? = some (.v (VI price)) ∧ s.env[4]? = some (.v (VI which)) ∧ s.env[5]? = some (.v (VI by')) ∧ s.env[13]? = some (.v (LI cost)) ∧ s.env[14]? = some (.v (LLI rows)) ∧ s.env[15]? = some (.v (LI best)) ∧ s.env[18]? = some (.v (VI sum)) ∧ s.env[19]? = some (.arr id n') ∧ s.env[20]? = some (.v (VI i)))) (.adopt _ 19 false rfl (by simp; omega)) ⟨0, 0, sto.length + js.length, [], none, ⟨by omega, by omega, by omega, rfl, rfl, rfl, rfl, .inl rfl⟩, rfl, ?_, ?_, ?_, ?_, ?_, ?_, ?_, ?_, ?_, ?_, ?_⟩ ?_
    all_goals first | rfl | (simp; done) | skip
    rintro m s ⟨i, n', id, cs, es, ⟨h1, h2, h3, rfl, rfl, rfl, rfl, h4⟩, hL, hT, k2, k3, k4, k5, k13, k14, k15, k18, k19, k20⟩
    obtain ⟨env, st0⟩ := s; obtain ⟨J, hJ⟩ := listJ hL; rw [show (List.range 239).map J = J 0 :: J 1 :: J 2 :: J 3 :: J 4 :: J 5 :: J 6 :: J 7 :: J 8 :: J 9 :: J 10 :: J 11 :: J 12 :: J 13 :: J 14 :: J 15 :: J 16 :: J 17 :: J 18 :: J 19 :: J 20 :: J 21 :: J 22 :: J 23 :: J 24 :: J 25 :: J 26 :: J 27 :: J 28 :: J 29 :: J 30 :: J 31 :: J 32 :: J 33 :: J 34 :: J 35 :: J 36 :: J 37 :: J 38 :: J 39 :: J 40 :: J 41 :: J 42 :: J 43 :: J 44 :: J 45 :: J 46 :: J 47 :: J 48 :: J 49 :: J 50 :: J 51 :: J 52 :: J 53 :: J 54 :: J 55 :: J 56 :: J 57 :: J 58 :: J 59 :: J 60 :: J 61 :: J 62 :: J 63 :: J 64 :: J 65 :: J 66 :: J 67 :: J 68 :: J 69 :: J 70 :: J 71 :: J 72 :: J 73 :: J 74 :: J 75 :: J 76 :: J 77 :: J 78 :: J 79 :: J 80 :: J 81 :: J 82 :: J 83 :: J 84 :: J 85 :: J 86 :: J 87 :: J 88 :: J 89 :: J 90 :: J 91 :: J 92 :: J 93 :: J 94 :: J 95 :: J 96 :: J 97 :: J 98 :: J 99 :: J 100 :: J 101 :: J 102 :: J 103 :: J 104 :: J 105 :: J 106 :: J 107 :: J 108 :: J 109 :: J 110 :: J 111 :: J 112 :: J 113 :: J 114 :: J 115 :: J 116 :: J 117 :: J 118 :: J 119 :: J 120 :: J 121 :: J 122 :: J 123 :: J 124 :: J 125 :: J 126 :: J 127 :: J 128 :: J 129 :: J 130 :: J 131 :: J 132 :: J 133 :: J 134 :: J 135 :: J 136 :: J 137 :: J 138 :: J 139 :: J 140 :: J 141 :: J 142 :: J 143 :: J 144 :: J 145 :: J 146 :: J 147 :: J 148 :: J 149 :: J 150 :: J 151 :: J 152 :: J 153 :: J 154 :: J 155 :: J 156 :: J 157 :: J 158 :: J 159 :: J 160 :: J 161 :: J 162 :: J 163 :: J 164 :: J 165 :: J 166 :: J 167 :: J 168 :: J 169 :: J 170 :: J 171 :: J 172 :: J 173 :: J 174 :: J 175 :: J 176 :: J 177 :: J 178 :: J 179 :: J 180 :: J 181 :: J 182 :: J 183 :: J 184 :: J 185 :: J 186 :: J 187 :: J 188 :: J 189 :: J 190 :: J 191 :: J 192 :: J 193 :: J 194 :: J 195 :: J 196 :: J 197 :: J 198 :: J 199 :: J 200 :: J 201 :: J 202 :: J 203 :: J 204 :: J 205 :: J 206 :: J 207 :: J 208 :: J 209 :: J 210 :: J 211 :: J 212 :: J 213 :: J 214 :: J 215 :: J 216 :: J 217 :: J 218 :: J 219 :: J 220 :: J 221 :: J 222 :: J 223 :: J 224 :: J 225 :: J 226 :: J 227 :: J 228 :: J 229 :: J 230 :: J 231 :: J 232 :: J 233 :: J 234 :: J 235 :: J 236 :: J 237 :: J 238 :: [] from by kernel_rfl] at hJ; replace k2 := Option.some.inj ((congrArg (·[2]?) hJ).symm.trans k2); replace k3 := Option.some.inj ((congrArg (·[3]?) hJ).symm.trans k3); replace k4 := Option.some.inj ((congrArg (·[4]?) hJ).symm.trans k4); replace k5 := Option.some.inj ((congrArg (·[5]?) hJ).symm.trans k5); replace k13 := Option.some.inj ((congrArg (·[13]?) hJ).symm.trans k13); replace k14 := Option.some.inj ((congrArg (·[14]?) hJ).symm.trans k14); replace k15 := Option.some.inj ((congrArg (·[15]?) hJ).symm.trans k15); replace k18 := Option.some.inj ((congrArg (·[18]?) hJ).symm.trans k18); replace k19 := Option.some.inj ((congrArg (·[19]?) hJ).symm.trans k19); replace k20 := Option.some.inj ((congrArg (·[20]?) hJ).symm.trans k20); rw [k2, k3, k4, k5, k13, k14, k15, k18, k19, k20] at hJ; dsimp only at hJ hT; subst hJ; replace hT := hT.symm; subst hT; clear hL k2 k3 k4 k5 k13 k14 k15 k18 k19 k20
    by_cases hi : i < row.length ∧ i < 5 ∧ 0 < cost.length
    · obtain ⟨hi1, hi2, hi3⟩ := hi
      have har := fun sto lo hlo => (around_ev row[i] cost.length (hrox _ (List.getElem_mem hi1)) (by omega) (by omega) sto lo hlo).up0 (B := collB)
      have hnx : ((row.take (i + 1)).map (aroundS · cost.length)).map VI = ((row.take i).map (aroundS · cost.length)).map VI ++ [VI (aroundS row[i] cost.length)] := by
        rw [List.take_succ_eq_append_getElem hi1]; simp only [List.map_append, List.map_cons, List.map_nil, List.append_assoc]
      have hnxh := Lib.hid hnx
      clear hnx
      generalize aroundS row[i] cost.length = y at *
      repeat' (first | (refine go ⟨?_⟩) | (((refine call ?_); (refine ⟨_, har _ _ (by first | omega | (simp; done) | (simp; omega)), ?_⟩); (try simp only [go_sem]))) | ((first | (refine bsp ?_ ?_) | (refine csp ?_ ?_)); all_goals (intro hb; (fail_if_success (cases hb; done)); (try simp only [decide_eq_true_eq, decide_eq_false_iff_not, beq_iff_eq, bne_iff_ne, ne_eq, beq_eq_false_iff_ne, bne_eq_false_iff_eq, Bool.not_eq_true', Bool.not_eq_false', Bool.and_eq_true, Bool.or_eq_true, Decidable.not_not] at hb); (try simp only [go_sem]))))
      refine ⟨_, _, ?_, .refl _, i + 1, i + 1, _, _, _, ⟨by omega, by omega, by omega, rfl, rfl, rfl, Eq.symm hnxh, .inr rfl⟩, rfl, rfl, ?_, ?_, ?_, ?_, ?_, ?_, ?_, ?_, ?_, ?_⟩
      · omega
      all_goals rfl
    · obtain ⟨x, hx⟩ : ∃ x, x = (row.take i).map (aroundS · cost.length) := ⟨_, rfl⟩
      have hxl : x.length = i := by rw [hx]; simp; omega
      have hxi : In cost.length x := fun t ht => by
        have h0 := List.length_pos_of_mem ht
        rw [hx] at ht
        obtain ⟨y, _, rfl⟩ := List.mem_map.1 ht
        exact aroundS_bound (by omega)
      rw [← hx]
      clear hx d2 d5 hrox
      repeat' (first | (refine go ⟨?_⟩) | (fail) | ((first | (refine bsp ?_ ?_) | (refine csp ?_ ?_)); all_goals (intro hb; (fail_if_success (cases hb; done)); (try simp only [decide_eq_true_eq, decide_eq_false_iff_not, beq_iff_eq, bne_iff_ne, ne_eq, beq_eq_false_iff_ne, bne_eq_false_iff_eq, Bool.not_eq_true', Bool.not_eq_false', Bool.and_eq_true, Bool.or_eq_true, Decidable.not_not] at hb); (try simp only [go_sem]))))
      all_goals refine ⟨rfl, x, _, _, _, ⟨by omega, hxi, hxl.symm, rfl⟩, rfl, rfl, ?_, ?_, ?_, ?_, ?_, ?_, ?_, ?_⟩
      all_goals first | rfl | skip
  rintro s ⟨further, n', es, cs, ⟨f1, f2, rfl, rfl⟩, hL, hT, k3, k4, k5, k13, k14, k15, k18, k19⟩
  obtain ⟨env, st0⟩ := s; obtain ⟨J, hJ⟩ := listJ hL; rw [show (List.range 239).map J = J 0 :: J 1 :: J 2 :: J 3 :: J 4 :: J 5 :: J 6 :: J 7 :: J 8 :: J 9 :: J 10 :: J 11 :: J 12 :: J 13 :: J 14 :: J 15 :: J 16 :: J 17 :: J 18 :: J 19 :: J 20 :: J 21 :: J 22 :: J 23 :: J 24 :: J 25 :: J 26 :: J 27 :: J 28 :: J 29 :: J 30 :: J 31 :: J 32 :: J 33 :: J 34 :: J 35 :: J 36 :: J 37 :: J 38 :: J 39 :: J 40 :: J 41 :: J 42 :: J 43 :: J 44 :: J 45 :: J 46 :: J 47 :: J 48 :: J 49 :: J 50 :: J 51 :: J 52 :: J 53 :: J 54 :: J 55 :: J 56 :: J 57 :: J 58 :: J 59 :: J 60 :: J 61 :: J 62 :: J 63 :: J 64 :: J 65 :: J 66 :: J 67 :: J 68 :: J 69 :: J 70 :: J 71 :: J 72 :: J 73 :: J 74 :: J 75 :: J 76 :: J 77 :: J 78 :: J 79 :: J 80 :: J 81 :: J 82 :: J 83 :: J 84 :: J 85 :: J 86 :: J 87 :: J 88 :: J 89 :: J 90 :: J 91 :: J 92 :: J 93 :: J 94 :: J 95 :: J 96 :: J 97 :: J 98 :: J 99 :: J 100 :: J 101 :: J 102 :: J 103 :: J 104 :: J 105 :: J 106 :: J 107 :: J 108 :: J 109 :: J 110 :: J 111 :: J 112 :: J 113 :: J 114 :: J 115 :: J 116 :: J 117 :: J 118 :: J 119 :: J 120 :: J 121 :: J 122 :: J 123 :: J 124 :: J 125 :: J 126 :: J 127 :: J 128 :: J 129 :: J 130 :: J 131 :: J 132 :: J 133 :: J 134 :: J 135 :: J 136 :: J 137 :: J 138 :: J 139 :: J 140 :: J 141 :: J 142 :: J 143 :: J 144 :: J 145 :: J 146 :: J 147 :: J 148 :: J 149 :: J 150 :: J 151 :: J 152 :: J 153 :: J 154 :: J 155 :: J 156 :: J 157 :: J 158 :: J 159 :: J 160 :: J 161 :: J 162 :: J 163 :: J 164 :: J 165 :: J 166 :: J 167 :: J 168 :: J 169 :: J 170 :: J 171 :: J 172 :: J 173 :: J 174 :: J 175 :: J 176 :: J 177 :: J 178 :: J 179 :: J 180 :: J 181 :: J 182 :: J 183 :: J 184 :: J 185 :: J 186 :: J 187 :: J 188 :: J 189 :: J 190 :: J 191 :: J 192 :: J 193 :: J 194 :: J 195 :: J 196 :: J 197 :: J 198 :: J 199 :: J 200 :: J 201 :: J 202 :: J 203 :: J 204 :: J 205 :: J 206 :: J 207 :: J 208 :: J 209 :: J 210 :: J 211 :: J 212 :: J 213 :: J 214 :: J 215 :: J 216 :: J 217 :: J 218 :: J 219 :: J 220 :: J 221 :: J 222 :: J 223 :: J 224 :: J 225 :: J 226 :: J 227 :: J 228 :: J 229 :: J 230 :: J 231 :: J 232 :: J 233 :: J 234 :: J 235 :: J 236 :: J 237 :: J 238 :: [] from by kernel_rfl] at hJ; replace k3 := Option.some.inj ((congrArg (·[3]?) hJ).symm.trans k3); replace k4 := Option.some.inj ((congrArg (·[4]?) hJ).symm.trans k4); replace k5 := Option.some.inj ((congrArg (·[5]?) hJ).symm.trans k5); replace k13 := Option.some.inj ((congrArg (·[13]?) hJ).symm.trans k13); replace k14 := Option.some.inj ((congrArg (·[14]?) hJ).symm.trans k14); replace k15 := Option.some.inj ((congrArg (·[15]?) hJ).symm.trans k15); replace k18 := Option.some.inj ((congrArg (·[18]?) hJ).symm.trans k18); replace k19 := Option.some.inj ((congrArg (·[19]?) hJ).symm.trans k19); rw [k3, k4, k5, k13, k14, k15, k18, k19] at hJ; dsimp only at hJ hT; subst hJ; replace hT := hT.symm; subst hT; clear hL k3 k4 k5 k13 k14 k15 k18 k19
  have hpl : possS (rows ++ [further]) cost = true := possS_mk (by simp; omega) d3 fun r hr => by
    rcases List.mem_append.1 hr with h | h
    · exact d5 r h
    · rw [List.mem_singleton.1 h]; exact f2
  have hl5 : ∀ r ∈ rows ++ [further], r.length < 1000000 := fun r hr => by
    rcases List.mem_append.1 hr with h | h
    · have := d2 r h; omega
    · rw [List.mem_singleton.1 h]; omega
  have hlen : (rows ++ [further]).length = rows.length + 1 := by simp
  have hofl := fun sto lo hlo => (lawOf_ev (rows ++ [further]) (by omega) sto lo hlo).up0 (B := collB)
  have hlel := fun sto lo hlo => Least_ev (rows ++ [further]) cost (by omega) hl5 hpl (by omega) sto lo hlo
  have hbll : (ints (bitsN (leastN ((rows ++ [further]).map maskS) cost))).length ≤ 64 := by simpa using subsetS_length _ 64
  have hbil : In cost.length (ints (bitsN (leastN ((rows ++ [further]).map maskS) cost))) := bitsN_in (leastN_lt _ _) (by omega)
  have hsul := fun sto lo hlo => (refSuite_ev (rows ++ [further]) cost (ints (bitsN (leastN ((rows ++ [further]).map maskS) cost))) (by omega) hl5 (by omega) (by omega) sto lo hlo).up0 (B := collB)
  rw [least_suite hpl] at hsul
  have hprl := fun sto lo hlo => (refPrice_ev (ints (bitsN (leastN ((rows ++ [further]).map maskS) cost))) cost d3 hbil (by omega) sto lo hlo).up0 (B := collB)
  have hge := least_longer hpl
  rw [hbest, hsum] at hge
  have hlong : V.sl (rows.length + 1) (rows.map LI ++ [V.sl further.length (further.map VI)]) = LLI (rows ++ [further]) := by
    rw [← hlen]; simp only [LLI, SL, List.map_append, List.map_cons, List.map_nil]
  generalize rows ++ [further] = longer at *
  generalize ints (bitsN (leastN (longer.map maskS) cost)) = best2 at *
  generalize certC (longer.map maskS) cost = kc at *
  generalize priceS cost best2 = sum2 at *
  obtain ⟨kr, kp, kk⟩ := kc
  have hX := Lib.hid (And.intro d2 (And.intro d5 (And.intro hbest (And.intro hsum hd))))
  clear d2 d5 hl5 hbest hsum hd hrox hpl hbil f2 hro
  have har := fun sto lo hlo => (around_ev price 100 hprice (by omega) (by omega) sto lo hlo).up0 (B := collB)
  have har2 := fun sto lo hlo => (around_ev which 1024 hwhich (by omega) (by omega) sto lo hlo).up0 (B := collB)
  have hb1 := aroundS_bound (n := price) (most := 100) (by omega)
  have hb2 := aroundS_bound (n := which) (most := 1024) (by omega)
  generalize aroundS price 100 = price2 at *
  generalize aroundS which 1024 = which2 at *
  obtain ⟨which2, rfl⟩ := Int.eq_ofNat_of_zero_le hb2.1
  have hss := fun sto lo hlo => (refSubset_ev which2 10 (by omega) (by omega) sto lo hlo).up0 (B := collB)
  have hsl := subsetS_length which2 10
  generalize subsetS which2 10 = bits at *
  repeat' (first | (refine goL ⟨?_⟩) | (first | ((with_reducible apply ops_eff); decide; rfl; simp (disch := (first | omega | assumption | ((repeat' with_reducible apply And.intro) <;> first | omega | assumption | rfl | (apply Or.inl; rfl) | (apply Or.inr; first | rfl | trivial | fail) | fail) | fail)) only [go_sem, if_pos, if_neg, wrapI, wrapU, decide_eq_true, decide_eq_false, beqT, beqF, bneT, bneF]; (refine (ite_same (fun h0 => ?_)).trans rfl); (obtain rfl := List.eq_nil_of_length_eq_zero h0; simp); simp only [go_sem]) | ((with_reducible apply ops_call); rfl; (simp (disch := (first | omega | assumption | ((repeat' with_reducible apply And.intro) <;> first | omega | assumption | rfl | (apply Or.inl; rfl) | (apply Or.inr; first | rfl | trivial | fail) | fail) | fail)) only [go_sem, if_pos, if_neg, wrapI, wrapU, decide_eq_true, decide_eq_false, beqT, beqF, bneT, bneF] <;> rfl); (rw [hlong]; exact hofl _ _ (by first | omega | (simp; done) | (simp; omega))); (try simp only [go_sem])) | ((refine call ?_); (refine ⟨_, hlel _ _ (by first | omega | (simp; done) | (simp; omega)), ?_⟩); (try simp only [go_sem])) | ((with_reducible apply ops_call); rfl; (simp (disch := (first | omega | assumption | ((repeat' with_reducible apply And.intro) <;> first | omega | assumption | rfl | (apply Or.inl; rfl) | (apply Or.inr; first | rfl | trivial | fail) | fail) | fail)) only [go_sem, if_pos, if_neg, wrapI, wrapU, decide_eq_true, decide_eq_false, beqT, beqF, bneT, bneF] <;> rfl); (rw [hlong]; exact hsul _ _ (by first | omega | (simp; done) | (simp; omega))); (try simp only [go_sem])) | ((refine call ?_); (refine ⟨_, hprl _ _ (by first | omega | (simp; done) | (simp; omega)), ?_⟩); (try simp only [go_sem])) | ((refine call ?_); (refine ⟨_, har _ _ (by first | omega | (simp; done) | (simp; omega)), ?_⟩); (try simp only [go_sem])) | ((refine call ?_); (refine ⟨_, har2 _ _ (by first | omega | (simp; done) | (simp; omega)), ?_⟩); (try simp only [go_sem])) | ((refine call ?_); (refine ⟨_, hss _ _ (by first | omega | (simp; done) | (simp; omega)), ?_⟩); (try simp only [go_sem]))) | ((first | (refine bsp ?_ ?_) | (refine csp ?_ ?_)); all_goals (intro hb; (fail_if_success (cases hb; done)); (try simp only [decide_eq_true_eq, decide_eq_false_iff_not, beq_iff_eq, bne_iff_ne, ne_eq, beq_eq_false_iff_ne, bne_eq_false_iff_eq, Bool.not_eq_true', Bool.not_eq_false', Bool.and_eq_true, Bool.or_eq_true, Decidable.not_not] at hb); (try simp only [go_sem]))))
  clear hofl hlel hsul hprl hge hlong har har2 hss hbll hlen f1
  refine cut_c (P := fun s => ∃ (d : D) (js : List Ent), (s.env.length = 239 ∧ s.sto = sto ++ js ∧ s.env[5]? = some (.v (VI by')) ∧ s.env[13]? = some (.v (LI cost)) ∧ s.env[14]? = some (.v (LLI rows)) ∧ s.env[15]? = some (.v (LI best)) ∧ s.env[18]? = some (.v (VI sum)) ∧ s.env[25]? = some (.v (VI cost.length)) ∧ s.env[26]? = some (d) ∧ s.env[27]? = some (.nilS) ∧ s.env[28]? = some (.v (LI (ints bits))) ∧ s.env[29]? = some (.v (VI 0))) ∧ Rds s d (LI (cost ++ [price2]))) ⟨?_, _, ⟨rfl, rfl, ?_, ?_, ?_, ?_, ?_, ?_, ?_, ?_, ?_, ?_⟩, ?_⟩ ?_
  all_goals first | rfl | skip
  · apply Rds.mk
    simp (disch := (first | omega | assumption | ((repeat' with_reducible apply And.intro) <;> first | omega | assumption | rfl | (apply Or.inl; rfl) | (apply Or.inr; first | rfl | trivial | fail) | fail) | fail)) only [go_sem, if_pos, if_neg, wrapI, wrapU, decide_eq_true, decide_eq_false, beqT, beqF, bneT, bneF]
    simp [LI, SL]
  rintro s ⟨d, js, ⟨hL, hT, k5, k13, k14, k15, k18, k25, k26, k27, k28, k29⟩, hv⟩
  obtain ⟨env, st0⟩ := s; obtain ⟨J, hJ⟩ := listJ hL; rw [show (List.range 239).map J = J 0 :: J 1 :: J 2 :: J 3 :: J 4 :: J 5 :: J 6 :: J 7 :: J 8 :: J 9 :: J 10 :: J 11 :: J 12 :: J 13 :: J 14 :: J 15 :: J 16 :: J 17 :: J 18 :: J 19 :: J 20 :: J 21 :: J 22 :: J 23 :: J 24 :: J 25 :: J 26 :: J 27 :: J 28 :: J 29 :: J 30 :: J 31 :: J 32 :: J 33 :: J 34 :: J 35 :: J 36 :: J 37 :: J 38 :: J 39 :: J 40 :: J 41 :: J 42 :: J 43 :: J 44 :: J 45 :: J 46 :: J 47 :: J 48 :: J 49 :: J 50 :: J 51 :: J 52 :: J 53 :: J 54 :: J 55 :: J 56 :: J 57 :: J 58 :: J 59 :: J 60 :: J 61 :: J 62 :: J 63 :: J 64 :: J 65 :: J 66 :: J 67 :: J 68 :: J 69 :: J 70 :: J 71 :: J 72 :: J 73 :: J 74 :: J 75 :: J 76 :: J 77 :: J 78 :: J 79 :: J 80 :: J 81 :: J 82 :: J 83 :: J 84 :: J 85 :: J 86 :: J 87 :: J 88 :: J 89 :: J 90 :: J 91 :: J 92 :: J 93 :: J 94 :: J 95 :: J 96 :: J 97 :: J 98 :: J 99 :: J 100 :: J 101 :: J 102 :: J 103 :: J 104 :: J 105 :: J 106 :: J 107 :: J 108 :: J 109 :: J 110 :: J 111 :: J 112 :: J 113 :: J 114 :: J 115 :: J 116 :: J 117 :: J 118 :: J 119 :: J 120 :: J 121 :: J 122 :: J 123 :: J 124 :: J 125 :: J 126 :: J 127 :: J 128 :: J 129 :: J 130 :: J 131 :: J 132 :: J 133 :: J 134 :: J 135 :: J 136 :: J 137 :: J 138 :: J 139 :: J 140 :: J 141 :: J 142 :: J 143 :: J 144 :: J 145 :: J 146 :: J 147 :: J 148 :: J 149 :: J 150 :: J 151 :: J 152 :: J 153 :: J 154 :: J 155 :: J 156 :: J 157 :: J 158 :: J 159 :: J 160 :: J 161 :: J 162 :: J 163 :: J 164 :: J 165 :: J 166 :: J 167 :: J 168 :: J 169 :: J 170 :: J 171 :: J 172 :: J 173 :: J 174 :: J 175 :: J 176 :: J 177 :: J 178 :: J 179 :: J 180 :: J 181 :: J 182 :: J 183 :: J 184 :: J 185 :: J 186 :: J 187 :: J 188 :: J 189 :: J 190 :: J 191 :: J 192 :: J 193 :: J 194 :: J 195 :: J 196 :: J 197 :: J 198 :: J 199 :: J 200 :: J 201 :: J 202 :: J 203 :: J 204 :: J 205 :: J 206 :: J 207 :: J 208 :: J 209 :: J 210 :: J 211 :: J 212 :: J 213 :: J 214 :: J 215 :: J 216 :: J 217 :: J 218 :: J 219 :: J 220 :: J 221 :: J 222 :: J 223 :: J 224 :: J 225 :: J 226 :: J 227 :: J 228 :: J 229 :: J 230 :: J 231 :: J 232 :: J 233 :: J 234 :: J 235 :: J 236 :: J 237 :: J 238 :: [] from by kernel_rfl] at hJ; replace k5 := Option.some.inj ((congrArg (·[5]?) hJ).symm.trans k5); replace k13 := Option.some.inj ((congrArg (·[13]?) hJ).symm.trans k13); replace k14 := Option.some.inj ((congrArg (·[14]?) hJ).symm.trans k14); replace k15 := Option.some.inj ((congrArg (·[15]?) hJ).symm.trans k15); replace k18 := Option.some.inj ((congrArg (·[18]?) hJ).symm.trans k18); replace k25 := Option.some.inj ((congrArg (·[25]?) hJ).symm.trans k25); replace k26 := Option.some.inj ((congrArg (·[26]?) hJ).symm.trans k26); replace k27 := Option.some.inj ((congrArg (·[27]?) hJ).symm.trans k27); replace k28 := Option.some.inj ((congrArg (·[28]?) hJ).symm.trans k28); replace k29 := Option.some.inj ((congrArg (·[29]?) hJ).symm.trans k29); rw [k5, k13, k14, k15, k18, k25, k26, k27, k28, k29] at hJ; dsimp only at hJ hT; subst hJ; replace hT := hT.symm; subst hT; clear hL k5 k13 k14 k15 k18 k25 k26 k27 k28 k29
  replace hv := hv.get
  obtain ⟨hb1, hb3⟩ := hb1
  have hX2 : _ ∧ _ := hX
  obtain ⟨d2, d5, hbest, hsum, hd⟩ := hX2
  have hp := hd.poss
  have hcx : CostOK (cost ++ [price2]) := ⟨by have := d3.1; simp; omega, fun c hc => by
    rcases List.mem_append.1 hc with h | h
    · exact d3.2 c h
    · rw [List.mem_singleton.1 h]; omega⟩
  have hcxl : (cost ++ [price2]).length = cost.length + 1 := by simp
  have hkr : ∀ r ∈ rows, r ≠ [] → ∃ Q ∈ rows, Q ≠ [] ∧ ∀ t ∈ Q, t ∈ r := fun r hr h => ⟨r, hr, h, fun t ht => ht⟩
  have hY0 := (And.intro hcx (And.intro hcxl (And.intro d2 (And.intro d5 (And.intro hbest (And.intro hsum hd))))))
  have hcx1 : cost.length < 9 := by omega
  clear hX hcx hd hp hbest hsum hkr d3 hcxl
  generalize hdear : cost ++ [price2] = dear at *
  have hY := Lib.hid (And.intro hdear hY0)
  clear hY0
  refine c_loop (fun m s => ∃ (i n' : Nat) (ks : List (List Int)) (cs : List V) (es : Option (TypeId × Nat)) (js2 : List Ent), (i ≤ rows.length ∧ m = rows.length - i ∧ n' = i ∧ cs = ks.map LI ∧ Hid (ks.length = i ∧ ∀ R ∈ ks, KR rows cost.length R) ∧ (es = none ∨ es = some (22, 1))) ∧ (s.env.length = 239 ∧ s.sto = sto ++ (js ++ .arr es false n' cs :: js2) ∧ s.env[5]? = some (.v (VI by')) ∧ s.env[13]? = some (.v (LI cost)) ∧ s.env[14]? = some (.v (LLI rows)) ∧ s.env[15]? = some (.v (LI best)) ∧ s.env[18]? = some (.v (VI sum)) ∧ s.env[25]? = some (.v (VI cost.length)) ∧ s.env[26]? = some (.v (LI dear)) ∧ s.env[27]? = some (.arr (sto.length + js.length) n') ∧ s.env[28]? = some (.v (LI (ints bits))) ∧ s.env[29]? = some (.v (VI i)))) (.trans (.view _ 26 d _ rfl hv) (.adopt _ 27 false rfl (by simp; omega))) ⟨0, 0, [], [], none, [], ⟨by omega, rfl, rfl, rfl, Lib.hid ⟨rfl, fun R h => nomatch h⟩, .inl rfl⟩, rfl, ?_, ?_, ?_, ?_, ?_, ?_, ?_, ?_, ?_, ?_, ?_⟩ ?_
  all_goals first | rfl | (simp; done) | skip
  rintro m s ⟨i, n', ks, cs, es, js2, ⟨h1, rfl, rfl, rfl, hks, h4⟩, hL, hT, k5, k13, k14, k15, k18, k25, k26, k27, k28, k29⟩
  obtain ⟨env, st0⟩ := s; obtain ⟨J, hJ⟩ := listJ hL; rw [show (List.range 239).map J = J 0 :: J 1 :: J 2 :: J 3 :: J 4 :: J 5 :: J 6 :: J 7 :: J 8 :: J 9 :: J 10 :: J 11 :: J 12 :: J 13 :: J 14 :: J 15 :: J 16 :: J 17 :: J 18 :: J 19 :: J 20 :: J 21 :: J 22 :: J 23 :: J 24 :: J 25 :: J 26 :: J 27 :: J 28 :: J 29 :: J 30 :: J 31 :: J 32 :: J 33 :: J 34 :: J 35 :: J 36 :: J 37 :: J 38 :: J 39 :: J 40 :: J 41 :: J 42 :: J 43 :: J 44 :: J 45 :: J 46 :: J 47 :: J 48 :: J 49 :: J 50 :: J 51 :: J 52 :: J 53 :: J 54 :: J 55 :: J 56 :: J 57 :: J 58 :: J 59 :: J 60 :: J 61 :: J 62 :: J 63 :: J 64 :: J 65 :: J 66 :: J 67 :: J 68 :: J 69 :: J 70 :: J 71 :: J 72 :: J 73 :: J 74 :: J 75 :: J 76 :: J 77 :: J 78 :: J 79 :: J 80 :: J 81 :: J 82 :: J 83 :: J 84 :: J 85 :: J 86 :: J 87 :: J 88 :: J 89 :: J 90 :: J 91 :: J 92 :: J 93 :: J 94 :: J 95 :: J 96 :: J 97 :: J 98 :: J 99 :: J 100 :: J 101 :: J 102 :: J 103 :: J 104 :: J 105 :: J 106 :: J 107 :: J 108 :: J 109 :: J 110 :: J 111 :: J 112 :: J 113 :: J 114 :: J 115 :: J 116 :: J 117 :: J 118 :: J 119 :: J 120 :: J 121 :: J 122 :: J 123 :: J 124 :: J 125 :: J 126 :: J 127 :: J 128 :: J 129 :: J 130 :: J 131 :: J 132 :: J 133 :: J 134 :: J 135 :: J 136 :: J 137 :: J 138 :: J 139 :: J 140 :: J 141 :: J 142 :: J 143 :: J 144 :: J 145 :: J 146 :: J 147 :: J 148 :: J 149 :: J 150 :: J 151 :: J 152 :: J 153 :: J 154 :: J 155 :: J 156 :: J 157 :: J 158 :: J 159 :: J 160 :: J 161 :: J 162 :: J 163 :: J 164 :: J 165 :: J 166 :: J 167 :: J 168 :: J 169 :: J 170 :: J 171 :: J 172 :: J 173 :: J 174 :: J 175 :: J 176 :: J 177 :: J 178 :: J 179 :: J 180 :: J 181 :: J 182 :: J 183 :: J 184 :: J 185 :: J 186 :: J 187 :: J 188 :: J 189 :: J 190 :: J 191 :: J 192 :: J 193 :: J 194 :: J 195 :: J 196 :: J 197 :: J 198 :: J 199 :: J 200 :: J 201 :: J 202 :: J 203 :: J 204 :: J 205 :: J 206 :: J 207 :: J 208 :: J 209 :: J 210 :: J 211 :: J 212 :: J 213 :: J 214 :: J 215 :: J 216 :: J 217 :: J 218 :: J 219 :: J 220 :: J 221 :: J 222 :: J 223 :: J 224 :: J 225 :: J 226 :: J 227 :: J 228 :: J 229 :: J 230 :: J 231 :: J 232 :: J 233 :: J 234 :: J 235 :: J 236 :: J 237 :: J 238 :: [] from by kernel_rfl] at hJ; replace k5 := Option.some.inj ((congrArg (·[5]?) hJ).symm.trans k5); replace k13 := Option.some.inj ((congrArg (·[13]?) hJ).symm.trans k13); replace k14 := Option.some.inj ((congrArg (·[14]?) hJ).symm.trans k14); replace k15 := Option.some.inj ((congrArg (·[15]?) hJ).symm.trans k15); replace k18 := Option.some.inj ((congrArg (·[18]?) hJ).symm.trans k18); replace k25 := Option.some.inj ((congrArg (·[25]?) hJ).symm.trans k25); replace k26 := Option.some.inj ((congrArg (·[26]?) hJ).symm.trans k26); replace k27 := Option.some.inj ((congrArg (·[27]?) hJ).symm.trans k27); replace k28 := Option.some.inj ((congrArg (·[28]?) hJ).symm.trans k28); replace k29 := Option.some.inj ((congrArg (·[29]?) hJ).symm.trans k29); rw [k5, k13, k14, k15, k18, k25, k26, k27, k28, k29] at hJ; dsimp only at hJ hT; subst hJ; replace hT := hT.symm; subst hT; clear hL k5 k13 k14 k15 k18 k25 k26 k27 k28 k29
  clear hv hdear
  by_cases hi : n' < rows.length
  · have hq4 := d2 rows[n'] (List.getElem_mem hi)
    have hq5 := d5 rows[n'] (List.getElem_mem hi)
    have hqm := List.getElem_mem hi
    generalize hq : rows[n'] = q at *
    have hqh := Lib.hid (And.intro hq5 hqm)
    clear hq5 hqm d2 d5
    by_cases hq0 : q.length = 0
    · obtain rfl := List.eq_nil_of_length_eq_zero hq0
      repeat' (first | (refine go ⟨?_⟩) | (fail) | ((first | (refine bsp ?_ ?_) | (refine csp ?_ ?_)); all_goals (intro hb; (fail_if_success (cases hb; done)); (try simp only [decide_eq_true_eq, decide_eq_false_iff_not, beq_iff_eq, bne_iff_ne, ne_eq, beq_eq_false_iff_ne, bne_eq_false_iff_eq, Bool.not_eq_true', Bool.not_eq_false', Bool.and_eq_true, Bool.or_eq_true, Decidable.not_not] at hb); (try simp only [go_sem]))))
      rw [hq]
      repeat' (first | (refine go ⟨?_⟩) | (fail) | ((first | (refine bsp ?_ ?_) | (refine csp ?_ ?_)); all_goals (intro hb; (fail_if_success (cases hb; done)); (try simp only [decide_eq_true_eq, decide_eq_false_iff_not, beq_iff_eq, bne_iff_ne, ne_eq, beq_eq_false_iff_ne, bne_eq_false_iff_eq, Bool.not_eq_true', Bool.not_eq_false', Bool.and_eq_true, Bool.or_eq_true, Decidable.not_not] at hb); (try simp only [go_sem]))))
      refine c_loop (fun m s => ∃ (k : Nat), (k ≤ bits.length ∧ m = bits.length - k) ∧ (s.env.length = 239 ∧ s.sto = sto ++ (js ++ .arr es false n' (ks.map LI) :: js2) ∧ s.env[5]? = some (.v (VI by')) ∧ s.env[13]? = some (.v (LI cost)) ∧ s.env[14]? = some (.v (LLI rows)) ∧ s.env[15]? = some (.v (LI best)) ∧ s.env[18]? = some (.v (VI sum)) ∧ s.env[25]? = some (.v (VI cost.length)) ∧ s.env[26]? = some (.v (LI dear)) ∧ s.env[27]? = some (.arr (sto.length + js.length) n') ∧ s.env[28]? = some (.v (LI (ints bits))) ∧ s.env[29]? = some (.v (VI n')) ∧ s.env[30]? = some (.nilS) ∧ s.env[31]? = some (.v (VI k)))) (.refl _) ⟨0, ⟨by omega, rfl⟩, rfl, rfl, ?_, ?_, ?_, ?_, ?_, ?_, ?_, ?_, ?_, ?_, ?_, ?_⟩ ?_
      all_goals first | rfl | skip
      rintro m s ⟨k, ⟨c1, rfl⟩, hL, hT, k5, k13, k14, k15, k18, k25, k26, k27, k28, k29, k30, k31⟩
      obtain ⟨env, st0⟩ := s; obtain ⟨J, hJ⟩ := listJ hL; rw [show (List.range 239).map J = J 0 :: J 1 :: J 2 :: J 3 :: J 4 :: J 5 :: J 6 :: J 7 :: J 8 :: J 9 :: J 10 :: J 11 :: J 12 :: J 13 :: J 14 :: J 15 :: J 16 :: J 17 :: J 18 :: J 19 :: J 20 :: J 21 :: J 22 :: J 23 :: J 24 :: J 25 :: J 26 :: J 27 :: J 28 :: J 29 :: J 30 :: J 31 :: J 32 :: J 33 :: J 34 :: J 35 :: J 36 :: J 37 :: J 38 :: J 39 :: J 40 :: J 41 :: J 42 :: J 43 :: J 44 :: J 45 :: J 46 :: J 47 :: J 48 :: J 49 :: J 50 :: J 51 :: J 52 :: J 53 :: J 54 :: J 55 :: J 56 :: J 57 :: J 58 :: J 59 :: J 60 :: J 61 :: J 62 :: J 63 :: J 64 :: J 65 :: J 66 :: J 67 :: J 68 :: J 69 :: J 70 :: J 71 :: J 72 :: J 73 :: J 74 :: J 75 :: J 76 :: J 77 :: J 78 :: J 79 :: J 80 :: J 81 :: J 82 :: J 83 :: J 84 :: J 85 :: J 86 :: J 87 :: J 88 :: J 89 :: J 90 :: J 91 :: J 92 :: J 93 :: J 94 :: J 95 :: J 96 :: J 97 :: J 98 :: J 99 :: J 100 :: J 101 :: J 102 :: J 103 :: J 104 :: J 105 :: J 106 :: J 107 :: J 108 :: J 109 :: J 110 :: J 111 :: J 112 :: J 113 :: J 114 :: J 115 :: J 116 :: J 117 :: J 118 :: J 119 :: J 120 :: J 121 :: J 122 :: J 123 :: J 124 :: J 125 :: J 126 :: J 127 :: J 128 :: J 129 :: J 130 :: J 131 :: J 132 :: J 133 :: J 134 :: J 135 :: J 136 :: J 137 :: J 138 :: J 139 :: J 140 :: J 141 :: J 142 :: J 143 :: J 144 :: J 145 :: J 146 :: J 147 :: J 148 :: J 149 :: J 150 :: J 151 :: J 152 :: J 153 :: J 154 :: J 155 :: J 156 :: J 157 :: J 158 :: J 159 :: J 160 :: J 161 :: J 162 :: J 163 :: J 164 :: J 165 :: J 166 :: J 167 :: J 168 :: J 169 :: J 170 :: J 171 :: J 172 :: J 173 :: J 174 :: J 175 :: J 176 :: J 177 :: J 178 :: J 179 :: J 180 :: J 181 :: J 182 :: J 183 :: J 184 :: J 185 :: J 186 :: J 187 :: J 188 :: J 189 :: J 190 :: J 191 :: J 192 :: J 193 :: J 194 :: J 195 :: J 196 :: J 197 :: J 198 :: J 199 :: J 200 :: J 201 :: J 202 :: J 203 :: J 204 :: J 205 :: J 206 :: J 207 :: J 208 :: J 209 :: J 210 :: J 211 :: J 212 :: J 213 :: J 214 :: J 215 :: J 216 :: J 217 :: J 218 :: J 219 :: J 220 :: J 221 :: J 222 :: J 223 :: J 224 :: J 225 :: J 226 :: J 227 :: J 228 :: J 229 :: J 230 :: J 231 :: J 232 :: J 233 :: J 234 :: J 235 :: J 236 :: J 237 :: J 238 :: [] from by kernel_rfl] at hJ; replace k5 := Option.some.inj ((congrArg (·[5]?) hJ).symm.trans k5); replace k13 := Option.some.inj ((congrArg (·[13]?) hJ).symm.trans k13); replace k14 := Option.some.inj ((congrArg (·[14]?) hJ).symm.trans k14); replace k15 := Option.some.inj ((congrArg (·[15]?) hJ).symm.trans k15); replace k18 := Option.some.inj ((congrArg (·[18]?) hJ).symm.trans k18); replace k25 := Option.some.inj ((congrArg (·[25]?) hJ).symm.trans k25); replace k26 := Option.some.inj ((congrArg (·[26]?) hJ).symm.trans k26); replace k27 := Option.some.inj ((congrArg (·[27]?) hJ).symm.trans k27); replace k28 := Option.some.inj ((congrArg (·[28]?) hJ).symm.trans k28); replace k29 := Option.some.inj ((congrArg (·[29]?) hJ).symm.trans k29); replace k30 := Option.some.inj ((congrArg (·[30]?) hJ).symm.trans k30); replace k31 := Option.some.inj ((congrArg (·[31]?) hJ).symm.trans k31); rw [k5, k13, k14, k15, k18, k25, k26, k27, k28, k29, k30, k31] at hJ; dsimp only at hJ hT; subst hJ; replace hT := hT.symm; subst hT; clear hL k5 k13 k14 k15 k18 k25 k26 k27 k28 k29 k30 k31
      by_cases hk : k < bits.length
      · repeat' (first | (refine go ⟨?_⟩) | (fail) | ((first | (refine bsp ?_ ?_) | (refine csp ?_ ?_)); all_goals (intro hb; (fail_if_success (cases hb; done)); (try simp only [decide_eq_true_eq, decide_eq_false_iff_not, beq_iff_eq, bne_iff_ne, ne_eq, beq_eq_false_iff_ne, bne_eq_false_iff_eq, Bool.not_eq_true', Bool.not_eq_false', Bool.and_eq_true, Bool.or_eq_true, Decidable.not_not] at hb); (try simp only [go_sem]))))
        all_goals refine ⟨_, _, ?_, .refl _, k + 1, ⟨by omega, rfl⟩, rfl, rfl, ?_, ?_, ?_, ?_, ?_, ?_, ?_, ?_, ?_, ?_, ?_, ?_⟩
        all_goals first | rfl | omega
      · repeat' (first | (refine go ⟨?_⟩) | (fail) | ((first | (refine bsp ?_ ?_) | (refine csp ?_ ?_)); all_goals (intro hb; (fail_if_success (cases hb; done)); (try simp only [decide_eq_true_eq, decide_eq_false_iff_not, beq_iff_eq, bne_iff_ne, ne_eq, beq_eq_false_iff_ne, bne_eq_false_iff_eq, Bool.not_eq_true', Bool.not_eq_false', Bool.and_eq_true, Bool.or_eq_true, Decidable.not_not] at hb); (try simp only [go_sem]))))
        have hks' : _ ∧ _ := hks
        refine ⟨_, _, ?_, .refl _, n' + 1, _, ks ++ [[]], _, _, _, ⟨by omega, rfl, rfl, ?_, Lib.hid ⟨by simp [hks'.1], fun R hR => ?_⟩, .inr rfl⟩, rfl, rfl, ?_, ?_, ?_, ?_, ?_, ?_, ?_, ?_, ?_, ?_⟩
        · omega
        · simp [LI, SL]
        · rcases List.mem_append.1 hR with h | h
          · exact hks'.2 R h
          · rw [List.mem_singleton.1 h]; exact ⟨by simp, fun t ht => by (cases ht), fun h => absurd rfl h⟩
        all_goals rfl
    · repeat' (first | (refine go ⟨?_⟩) | (fail) | ((first | (refine bsp ?_ ?_) | (refine csp ?_ ?_)); all_goals (intro hb; (fail_if_success (cases hb; done)); (try simp only [decide_eq_true_eq, decide_eq_false_iff_not, beq_iff_eq, bne_iff_ne, ne_eq, beq_eq_false_iff_ne, bne_eq_false_iff_eq, Bool.not_eq_true', Bool.not_eq_false', Bool.and_eq_true, Bool.or_eq_true, Decidable.not_not] at hb); (try simp only [go_sem]))))
      rw [hq]
      repeat' (first | (refine go ⟨?_⟩) | (fail) | ((first | (refine bsp ?_ ?_) | (refine csp ?_ ?_)); all_goals (intro hb; (fail_if_success (cases hb; done)); (try simp only [decide_eq_true_eq, decide_eq_false_iff_not, beq_iff_eq, bne_iff_ne, ne_eq, beq_eq_false_iff_ne, bne_eq_false_iff_eq, Bool.not_eq_true', Bool.not_eq_false', Bool.and_eq_true, Bool.or_eq_true, Decidable.not_not] at hb); (try simp only [go_sem]))))
      refine c_loop (fun m s => ∃ (k n2 rid : Nat) (r : List Int) (cs2 : List V), (k ≤ bits.length ∧ m = bits.length - k ∧ n2 = r.length ∧ cs2 = r.map VI ∧ rid = sto.length + (js.length + (js2.length + 1)) ∧ 0 < r.length ∧ r.length ≤ 4 + k ∧ Hid (In (cost.length + 1) r ∧ ∀ t ∈ q, t ∈ r)) ∧ (s.env.length = 239 ∧ s.sto = sto ++ (js ++ .arr es false n' (ks.map LI) :: (js2 ++ [.arr (some (3, 1)) false n2 cs2])) ∧ s.env[5]? = some (.v (VI by')) ∧ s.env[13]? = some (.v (LI cost)) ∧ s.env[14]? = some (.v (LLI rows)) ∧ s.env[15]? = some (.v (LI best)) ∧ s.env[18]? = some (.v (VI sum)) ∧ s.env[25]? = some (.v (VI cost.length)) ∧ s.env[26]? = some (.v (LI dear)) ∧ s.env[27]? = some (.arr (sto.length + js.length) n') ∧ s.env[28]? = some (.v (LI (ints bits))) ∧ s.env[29]? = some (.v (VI n')) ∧ s.env[30]? = some (.arr rid n2) ∧ s.env[31]? = some (.v (VI k)))) (.refl _) ⟨0, q.length, _, q, _, ⟨by omega, rfl, rfl, rfl, rfl, by omega, by omega, Lib.hid ⟨fun t ht => ?_, fun t ht => ht⟩⟩, rfl, rfl, ?_, ?_, ?_, ?_, ?_, ?_, ?_, ?_, ?_, ?_, ?_, ?_⟩ ?_
      case refine_1 => have := (show _ ∧ _ from hqh).1 t ht; omega
      all_goals first | rfl | skip
      rintro m s ⟨k, n2, rid, r, cs2, ⟨c1, rfl, rfl, rfl, rfl, c2, c3, hr⟩, hL, hT, k5, k13, k14, k15, k18, k25, k26, k27, k28, k29, k30, k31⟩
      obtain ⟨env, st0⟩ := s; obtain ⟨J, hJ⟩ := listJ hL; rw [show (List.range 239).map J = J 0 :: J 1 :: J 2 :: J 3 :: J 4 :: J 5 :: J 6 :: J 7 :: J 8 :: J 9 :: J 10 :: J 11 :: J 12 :: J 13 :: J 14 :: J 15 :: J 16 :: J 17 :: J 18 :: J 19 :: J 20 :: J 21 :: J 22 :: J 23 :: J 24 :: J 25 :: J 26 :: J 27 :: J 28 :: J 29 :: J 30 :: J 31 :: J 32 :: J 33 :: J 34 :: J 35 :: J 36 :: J 37 :: J 38 :: J 39 :: J 40 :: J 41 :: J 42 :: J 43 :: J 44 :: J 45 :: J 46 :: J 47 :: J 48 :: J 49 :: J 50 :: J 51 :: J 52 :: J 53 :: J 54 :: J 55 :: J 56 :: J 57 :: J 58 :: J 59 :: J 60 :: J 61 :: J 62 :: J 63 :: J 64 :: J 65 :: J 66 :: J 67 :: J 68 :: J 69 :: J 70 :: J 71 :: J 72 :: J 73 :: J 74 :: J 75 :: J 76 :: J 77 :: J 78 :: J 79 :: J 80 :: J 81 :: J 82 :: J 83 :: J 84 :: J 85 :: J 86 :: J 87 :: J 88 :: J 89 :: J 90 :: J 91 :: J 92 :: J 93 :: J 94 :: J 95 :: J 96 :: J 97 :: J 98 :: J 99 :: J 100 :: J 101 :: J 102 :: J 103 :: J 104 :: J 105 :: J 106 :: J 107 :: J 108 :: J 109 :: J 110 :: J 111 :: J 112 :: J 113 :: J 114 :: J 115 :: J 116 :: J 117 :: J 118 :: J 119 :: J 120 :: J 121 :: J 122 :: J 123 :: J 124 :: J 125 :: J 126 :: J 127 :: J 128 :: J 129 :: J 130 :: J 131 :: J 132 :: J 133 :: J 134 :: J 135 :: J 136 :: J 137 :: J 138 :: J 139 :: J 140 :: J 141 :: J 142 :: J 143 :: J 144 :: J 145 :: J 146 :: J 147 :: J 148 :: J 149 :: J 150 :: J 151 :: J 152 :: J 153 :: J 154 :: J 155 :: J 156 :: J 157 :: J 158 :: J 159 :: J 160 :: J 161 :: J 162 :: J 163 :: J 164 :: J 165 :: J 166 :: J 167 :: J 168 :: J 169 :: J 170 :: J 171 :: J 172 :: J 173 :: J 174 :: J 175 :: J 176 :: J 177 :: J 178 :: J 179 :: J 180 :: J 181 :: J 182 :: J 183 :: J 184 :: J 185 :: J 186 :: J 187 :: J 188 :: J 189 :: J 190 :: J 191 :: J 192 :: J 193 :: J 194 :: J 195 :: J 196 :: J 197 :: J 198 :: J 199 :: J 200 :: J 201 :: J 202 :: J 203 :: J 204 :: J 205 :: J 206 :: J 207 :: J 208 :: J 209 :: J 210 :: J 211 :: J 212 :: J 213 :: J 214 :: J 215 :: J 216 :: J 217 :: J 218 :: J 219 :: J 220 :: J 221 :: J 222 :: J 223 :: J 224 :: J 225 :: J 226 :: J 227 :: J 228 :: J 229 :: J 230 :: J 231 :: J 232 :: J 233 :: J 234 :: J 235 :: J 236 :: J 237 :: J 238 :: [] from by kernel_rfl] at hJ; replace k5 := Option.some.inj ((congrArg (·[5]?) hJ).symm.trans k5); replace k13 := Option.some.inj ((congrArg (·[13]?) hJ).symm.trans k13); replace k14 := Option.some.inj ((congrArg (·[14]?) hJ).symm.trans k14); replace k15 := Option.some.inj ((congrArg (·[15]?) hJ).symm.trans k15); replace k18 := Option.some.inj ((congrArg (·[18]?) hJ).symm.trans k18); replace k25 := Option.some.inj ((congrArg (·[25]?) hJ).symm.trans k25); replace k26 := Option.some.inj ((congrArg (·[26]?) hJ).symm.trans k26); replace k27 := Option.some.inj ((congrArg (·[27]?) hJ).symm.trans k27); replace k28 := Option.some.inj ((congrArg (·[28]?) hJ).symm.trans k28); replace k29 := Option.some.inj ((congrArg (·[29]?) hJ).symm.trans k29); replace k30 := Option.some.inj ((congrArg (·[30]?) hJ).symm.trans k30); replace k31 := Option.some.inj ((congrArg (·[31]?) hJ).symm.trans k31); rw [k5, k13, k14, k15, k18, k25, k26, k27, k28, k29, k30, k31] at hJ; dsimp only at hJ hT; subst hJ; replace hT := hT.symm; subst hT; clear hL k5 k13 k14 k15 k18 k25 k26 k27 k28 k29 k30 k31
      by_cases hk : k < bits.length
      · repeat' (first | (refine go ⟨?_⟩) | (fail) | ((first | (refine bsp ?_ ?_) | (refine csp ?_ ?_)); all_goals (intro hb; (fail_if_success (cases hb; done)); (try simp only [decide_eq_true_eq, decide_eq_false_iff_not, beq_iff_eq, bne_iff_ne, ne_eq, beq_eq_false_iff_ne, bne_eq_false_iff_eq, Bool.not_eq_true', Bool.not_eq_false', Bool.and_eq_true, Bool.or_eq_true, Decidable.not_not] at hb); (try simp only [go_sem]))))
        · have hr' : _ ∧ _ := hr
          refine ⟨_, _, ?_, .refl _, k + 1, r.length + 1, _, r ++ [(cost.length : Int)], _, ⟨by omega, rfl, by simp, by simp, rfl, by simp, by simp; omega, Lib.hid ⟨fun t ht => ?_, fun t ht => List.mem_append_left _ (hr'.2 t ht)⟩⟩, rfl, rfl, ?_, ?_, ?_, ?_, ?_, ?_, ?_, ?_, ?_, ?_, ?_, ?_⟩
          · omega
          · rcases List.mem_append.1 ht with h | h
            · exact hr'.1 t h
            · rw [List.mem_singleton.1 h]; omega
          all_goals rfl
        · refine ⟨_, _, ?_, .refl _, k + 1, r.length, _, r, _, ⟨by omega, rfl, rfl, rfl, rfl, c2, by omega, hr⟩, rfl, rfl, ?_, ?_, ?_, ?_, ?_, ?_, ?_, ?_, ?_, ?_, ?_, ?_⟩
          · omega
          all_goals rfl
      · repeat' (first | (refine go ⟨?_⟩) | (fail) | ((first | (refine bsp ?_ ?_) | (refine csp ?_ ?_)); all_goals (intro hb; (fail_if_success (cases hb; done)); (try simp only [decide_eq_true_eq, decide_eq_false_iff_not, beq_iff_eq, bne_iff_ne, ne_eq, beq_eq_false_iff_ne, bne_eq_false_iff_eq, Bool.not_eq_true', Bool.not_eq_false', Bool.and_eq_true, Bool.or_eq_true, Decidable.not_not] at hb); (try simp only [go_sem]))))
        have hks' : _ ∧ _ := hks
        have hr' : _ ∧ _ := hr
        refine ⟨_, _, ?_, .refl _, n' + 1, _, ks ++ [r], _, _, _, ⟨by omega, rfl, rfl, ?_, Lib.hid ⟨by simp [hks'.1], fun R hR => ?_⟩, .inr rfl⟩, rfl, rfl, ?_, ?_, ?_, ?_, ?_, ?_, ?_, ?_, ?_, ?_⟩
        · omega
        · simp [LI, SL]
        · rcases List.mem_append.1 hR with h | h
          · exact hks'.2 R h
          · rw [List.mem_singleton.1 h]; exact ⟨by omega, hr'.1, fun _ => ⟨q, (show _ ∧ _ from hqh).2, fun h => hq0 (by rw [h]; rfl), hr'.2⟩⟩
        all_goals rfl
  · obtain ⟨rfl, z2⟩ := (show _ ∧ _ from hks)
    obtain ⟨hdear, hcx, hcxl, d2, d5, hbest, hsum, hd⟩ := (show _ ∧ _ from hY)
    have hp := hd.poss
    have hpk : possS ks dear = true := possS_mk (by omega) hcx fun r hr => by rw [hcxl]; exact (z2 r hr).2.1
    have hk14 : ∀ r ∈ ks, r.length < 1000000 := fun r hr => by have := (z2 r hr).1; omega
    have hofk := fun sto lo hlo => (lawOf_ev ks (by omega) sto lo hlo).up0 (B := collB)
    have hlek := fun sto lo hlo => Least_ev ks dear (by omega) hk14 hpk (by omega) sto lo hlo
    have hblk : (ints (bitsN (leastN (ks.map maskS) dear))).length ≤ 64 := by simpa using subsetS_length _ 64
    have hbik : In dear.length (ints (bitsN (leastN (ks.map maskS) dear))) := bitsN_in (leastN_lt _ _) (by omega)
    have hsuk := fun sto lo hlo => (refSuite_ev ks dear (ints (bitsN (leastN (ks.map maskS) dear))) (by omega) hk14 (by omega) (by omega) sto lo hlo).up0 (B := collB)
    rw [least_suite hpk] at hsuk
    have hprk := fun sto lo hlo => (refPrice_ev (ints (bitsN (leastN (ks.map maskS) dear))) dear hcx hbik (by omega) sto lo hlo).up0 (B := collB)
    have hge := least_dear (x := price2) hp (by rw [hdear]; exact hpk) fun R hR => (z2 R hR).2.2
    rw [hdear, hbest, hsum] at hge
    generalize ints (bitsN (leastN (ks.map maskS) dear)) = best3 at *
    generalize certC (ks.map maskS) dear = kc at *
    generalize priceS dear best3 = sum3 at *
    obtain ⟨kr3, kp3, kk3⟩ := kc
    have ha5 := fun sto lo hlo => (around_ev by' 5 hby (by omega) (by omega) sto lo hlo).up0 (B := collB)
    have hb5 := aroundS_bound (n := by') (most := 5) (by omega)
    generalize aroundS by' 5 = f5 at *
    obtain ⟨hf1, hf2⟩ := hb5
    have hZ := Lib.hid (And.intro hd (And.intro hbest d5))
    clear hY hks h4 hpk hk14 hblk hbik hbest hsum hd hp d2 d5 z2 hcx hcxl hdear h1
    repeat' (first | (refine go ⟨?_⟩) | (first | ((refine call ?_); (refine ⟨_, hofk _ _ (by first | omega | (simp; done) | (simp; omega)), ?_⟩); (try simp only [go_sem])) | ((refine call ?_); (refine ⟨_, hlek _ _ (by first | omega | (simp; done) | (simp; omega)), ?_⟩); (try simp only [go_sem])) | ((refine call ?_); (refine ⟨_, hsuk _ _ (by first | omega | (simp; done) | (simp; omega)), ?_⟩); (try simp only [go_sem])) | ((refine call ?_); (refine ⟨_, hprk _ _ (by first | omega | (simp; done) | (simp; omega)), ?_⟩); (try simp only [go_sem])) | ((refine call ?_); (refine ⟨_, ha5 _ _ (by first | omega | (simp; done) | (simp; omega)), ?_⟩); (try simp only [go_sem]))) | ((first | (refine bsp ?_ ?_) | (refine csp ?_ ?_)); all_goals (intro hb; (fail_if_success (cases hb; done)); (try simp only [decide_eq_true_eq, decide_eq_false_iff_not, beq_iff_eq, bne_iff_ne, ne_eq, beq_eq_false_iff_ne, bne_eq_false_iff_eq, Bool.not_eq_true', Bool.not_eq_false', Bool.and_eq_true, Bool.or_eq_true, Decidable.not_not] at hb); (try simp only [go_sem]))))
    clear hofk hlek hsuk hprk ha5
    refine cut_c (P := fun s => ∃ js, (s.env.length = 239 ∧ s.sto = sto ++ js ∧ s.env[13]? = some (.v (LI cost)) ∧ s.env[14]? = some (.v (LLI rows)) ∧ s.env[15]? = some (.v (LI best)) ∧ s.env[35]? = some (.nilS) ∧ s.env[36]? = some (.v (VI (1 + f5))) ∧ s.env[37]? = some (.v (VI 0)))) ⟨_, rfl, rfl, ?_, ?_, ?_, ?_, ?_, ?_⟩ ?_
    all_goals first | rfl | skip
    rintro s ⟨js, hL, hT, k13, k14, k15, k35, k36, k37⟩
    obtain ⟨env, st0⟩ := s; obtain ⟨J, hJ⟩ := listJ hL; rw [show (List.range 239).map J = J 0 :: J 1 :: J 2 :: J 3 :: J 4 :: J 5 :: J 6 :: J 7 :: J 8 :: J 9 :: J 10 :: J 11 :: J 12 :: J 13 :: J 14 :: J 15 :: J 16 :: J 17 :: J 18 :: J 19 :: J 20 :: J 21 :: J 22 :: J 23 :: J 24 :: J 25 :: J 26 :: J 27 :: J 28 :: J 29 :: J 30 :: J 31 :: J 32 :: J 33 :: J 34 :: J 35 :: J 36 :: J 37 :: J 38 :: J 39 :: J 40 :: J 41 :: J 42 :: J 43 :: J 44 :: J 45 :: J 46 :: J 47 :: J 48 :: J 49 :: J 50 :: J 51 :: J 52 :: J 53 :: J 54 :: J 55 :: J 56 :: J 57 :: J 58 :: J 59 :: J 60 :: J 61 :: J 62 :: J 63 :: J 64 :: J 65 :: J 66 :: J 67 :: J 68 :: J 69 :: J 70 :: J 71 :: J 72 :: J 73 :: J 74 :: J 75 :: J 76 :: J 77 :: J 78 :: J 79 :: J 80 :: J 81 :: J 82 :: J 83 :: J 84 :: J 85 :: J 86 :: J 87 :: J 88 :: J 89 :: J 90 :: J 91 :: J 92 :: J 93 :: J 94 :: J 95 :: J 96 :: J 97 :: J 98 :: J 99 :: J 100 :: J 101 :: J 102 :: J 103 :: J 104 :: J 105 :: J 106 :: J 107 :: J 108 :: J 109 :: J 110 :: J 111 :: J 112 :: J 113 :: J 114 :: J 115 :: J 116 :: J 117 :: J 118 :: J 119 :: J 120 :: J 121 :: J 122 :: J 123 :: J 124 :: J 125 :: J 126 :: J 127 :: J 128 :: J 129 :: J 130 :: J 131 :: J 132 :: J 133 :: J 134 :: J 135 :: J 136 :: J 137 :: J 138 :: J 139 :: J 140 :: J 141 :: J 142 :: J 143 :: J 144 :: J 145 :: J 146 :: J 147 :: J 148 :: J 149 :: J 150 :: J 151 :: J 152 :: J 153 :: J 154 :: J 155 :: J 156 :: J 157 :: J 158 :: J 159 :: J 160 :: J 161 :: J 162 :: J 163 :: J 164 :: J 165 :: J 166 :: J 167 :: J 168 :: J 169 :: J 170 :: J 171 :: J 172 :: J 173 :: J 174 :: J 175 :: J 176 :: J 177 :: J 178 :: J 179 :: J 180 :: J 181 :: J 182 :: J 183 :: J 184 :: J 185 :: J 186 :: J 187 :: J 188 :: J 189 :: J 190 :: J 191 :: J 192 :: J 193 :: J 194 :: J 195 :: J 196 :: J 197 :: J 198 :: J 199 :: J 200 :: J 201 :: J 202 :: J 203 :: J 204 :: J 205 :: J 206 :: J 207 :: J 208 :: J 209 :: J 210 :: J 211 :: J 212 :: J 213 :: J 214 :: J 215 :: J 216 :: J 217 :: J 218 :: J 219 :: J 220 :: J 221 :: J 222 :: J 223 :: J 224 :: J 225 :: J 226 :: J 227 :: J 228 :: J 229 :: J 230 :: J 231 :: J 232 :: J 233 :: J 234 :: J 235 :: J 236 :: J 237 :: J 238 :: [] from by kernel_rfl] at hJ; replace k13 := Option.some.inj ((congrArg (·[13]?) hJ).symm.trans k13); replace k14 := Option.some.inj ((congrArg (·[14]?) hJ).symm.trans k14); replace k15 := Option.some.inj ((congrArg (·[15]?) hJ).symm.trans k15); replace k35 := Option.some.inj ((congrArg (·[35]?) hJ).symm.trans k35); replace k36 := Option.some.inj ((congrArg (·[36]?) hJ).symm.trans k36); replace k37 := Option.some.inj ((congrArg (·[37]?) hJ).symm.trans k37); rw [k13, k14, k15, k35, k36, k37] at hJ; dsimp only at hJ hT; subst hJ; replace hT := hT.symm; subst hT; clear hL k13 k14 k15 k35 k36 k37
    refine c_loop (fun m s => ∃ (i n' : Nat) (cs : List V) (es : Option (TypeId × Nat)), (i ≤ cost.length ∧ m = cost.length - i ∧ n' = i ∧ cs = ((cost.take i).map ((1 + f5) * ·)).map VI ∧ Hid (∀ c ∈ cost.take i, (1 + f5) * c ≤ 1048576) ∧ (es = none ∨ es = some (3, 1))) ∧ (s.env.length = 239 ∧ s.sto = sto ++ (js ++ [.arr es false n' cs]) ∧ s.env[13]? = some (.v (LI cost)) ∧ s.env[14]? = some (.v (LLI rows)) ∧ s.env[15]? = some (.v (LI best)) ∧ s.env[35]? = some (.arr (sto.length + js.length) n') ∧ s.env[36]? = some (.v (VI (1 + f5))) ∧ s.env[37]? = some (.v (VI i)))) (.adopt _ 35 false rfl (by simp; omega)) ⟨0, 0, [], none, ⟨by omega, rfl, rfl, rfl, Lib.hid fun c h => by (cases h), .inl rfl⟩, rfl, ?_, ?_, ?_, ?_, ?_, ?_, ?_⟩ ?_
    all_goals first | rfl | (simp; done) | skip
    rintro m s ⟨i, n', cs, es, ⟨h1, rfl, rfl, rfl, hti, h4⟩, hL, hT, k13, k14, k15, k35, k36, k37⟩
    obtain ⟨env, st0⟩ := s; obtain ⟨J, hJ⟩ := listJ hL; rw [show (List.range 239).map J = J 0 :: J 1 :: J 2 :: J 3 :: J 4 :: J 5 :: J 6 :: J 7 :: J 8 :: J 9 :: J 10 :: J 11 :: J 12 :: J 13 :: J 14 :: J 15 :: J 16 :: J 17 :: J 18 :: J 19 :: J 20 :: J 21 :: J 22 :: J 23 :: J 24 :: J 25 :: J 26 :: J 27 :: J 28 :: J 29 :: J 30 :: J 31 :: J 32 :: J 33 :: J 34 :: J 35 :: J 36 :: J 37 :: J 38 :: J 39 :: J 40 :: J 41 :: J 42 :: J 43 :: J 44 :: J 45 :: J 46 :: J 47 :: J 48 :: J 49 :: J 50 :: J 51 :: J 52 :: J 53 :: J 54 :: J 55 :: J 56 :: J 57 :: J 58 :: J 59 :: J 60 :: J 61 :: J 62 :: J 63 :: J 64 :: J 65 :: J 66 :: J 67 :: J 68 :: J 69 :: J 70 :: J 71 :: J 72 :: J 73 :: J 74 :: J 75 :: J 76 :: J 77 :: J 78 :: J 79 :: J 80 :: J 81 :: J 82 :: J 83 :: J 84 :: J 85 :: J 86 :: J 87 :: J 88 :: J 89 :: J 90 :: J 91 :: J 92 :: J 93 :: J 94 :: J 95 :: J 96 :: J 97 :: J 98 :: J 99 :: J 100 :: J 101 :: J 102 :: J 103 :: J 104 :: J 105 :: J 106 :: J 107 :: J 108 :: J 109 :: J 110 :: J 111 :: J 112 :: J 113 :: J 114 :: J 115 :: J 116 :: J 117 :: J 118 :: J 119 :: J 120 :: J 121 :: J 122 :: J 123 :: J 124 :: J 125 :: J 126 :: J 127 :: J 128 :: J 129 :: J 130 :: J 131 :: J 132 :: J 133 :: J 134 :: J 135 :: J 136 :: J 137 :: J 138 :: J 139 :: J 140 :: J 141 :: J 142 :: J 143 :: J 144 :: J 145 :: J 146 :: J 147 :: J 148 :: J 149 :: J 150 :: J 151 :: J 152 :: J 153 :: J 154 :: J 155 :: J 156 :: J 157 :: J 158 :: J 159 :: J 160 :: J 161 :: J 162 :: J 163 :: J 164 :: J 165 :: J 166 :: J 167 :: J 168 :: J 169 :: J 170 :: J 171 :: J 172 :: J 173 :: J 174 :: J 175 :: J 176 :: J 177 :: J 178 :: J 179 :: J 180 :: J 181 :: J 182 :: J 183 :: J 184 :: J 185 :: J 186 :: J 187 :: J 188 :: J 189 :: J 190 :: J 191 :: J 192 :: J 193 :: J 194 :: J 195 :: J 196 :: J 197 :: J 198 :: J 199 :: J 200 :: J 201 :: J 202 :: J 203 :: J 204 :: J 205 :: J 206 :: J 207 :: J 208 :: J 209 :: J 210 :: J 211 :: J 212 :: J 213 :: J 214 :: J 215 :: J 216 :: J 217 :: J 218 :: J 219 :: J 220 :: J 221 :: J 222 :: J 223 :: J 224 :: J 225 :: J 226 :: J 227 :: J 228 :: J 229 :: J 230 :: J 231 :: J 232 :: J 233 :: J 234 :: J 235 :: J 236 :: J 237 :: J 238 :: [] from by kernel_rfl] at hJ; replace k13 := Option.some.inj ((congrArg (·[13]?) hJ).symm.trans k13); replace k14 := Option.some.inj ((congrArg (·[14]?) hJ).symm.trans k14); replace k15 := Option.some.inj ((congrArg (·[15]?) hJ).symm.trans k15); replace k35 := Option.some.inj ((congrArg (·[35]?) hJ).symm.trans k35); replace k36 := Option.some.inj ((congrArg (·[36]?) hJ).symm.trans k36); replace k37 := Option.some.inj ((congrArg (·[37]?) hJ).symm.trans k37); rw [k13, k14, k15, k35, k36, k37] at hJ; dsimp only at hJ hT; subst hJ; replace hT := hT.symm; subst hT; clear hL k13 k14 k15 k35 k36 k37
    obtain ⟨hd, hbest, d5⟩ := (show _ ∧ _ from hZ)
    have d3 := hd.costs
    have hqb := quo_bound (f := 1 + f5) (by omega) (by omega)
    by_cases hi : n' < cost.length
    · have hc0 := d3.2 cost[n'] (List.getElem_mem hi)
      have hmb := mul_bound (f := 1 + f5) (c := cost[n']) (by omega) (by omega) hc0.1
      by_cases hc : cost[n'] > Int.tdiv 1048576 (1 + f5)
      · clear hmb
        repeat' (first | (refine go ⟨?_⟩) | (((refine call ?_); (refine ⟨_, lives_ev _ _ (by first | omega | (simp; done) | (simp; omega)), ?_⟩); (try simp only [go_sem]))) | ((first | (refine bsp ?_ ?_) | (refine csp ?_ ?_)); all_goals (intro hb; (fail_if_success (cases hb; done)); (try simp only [decide_eq_true_eq, decide_eq_false_iff_not, beq_iff_eq, bne_iff_ne, ne_eq, beq_eq_false_iff_ne, bne_eq_false_iff_eq, Bool.not_eq_true', Bool.not_eq_false', Bool.and_eq_true, Bool.or_eq_true, Decidable.not_not] at hb); (try simp only [go_sem]))))
        refine ⟨by first | exact .inr rfl | exact .inl rfl, .inl ⟨[], _, (by dsimp only [Tryd.f8]; exact sv), ?_, by simp⟩⟩
        rfl
      · obtain ⟨hm1, hm2⟩ := hmb hc
        have hnx : (cost.take (n' + 1)).map ((1 + f5) * ·) = (cost.take n').map ((1 + f5) * ·) ++ [(1 + f5) * cost[n']] := by
          rw [List.take_succ_eq_append_getElem hi]; simp only [List.map_append, List.map_cons, List.map_nil]
        have hnx2 : ∀ c ∈ cost.take (n' + 1), (1 + f5) * c ≤ 1048576 := fun c hc2 => by
          rw [List.take_succ_eq_append_getElem hi] at hc2
          rcases List.mem_append.1 hc2 with h | h
          · exact (show ∀ c ∈ cost.take n', (1 + f5) * c ≤ 1048576 from hti) c h
          · rw [List.mem_singleton.1 h]; exact hm2
        have hnxh := Lib.hid hnx
        clear hnx hd d3 d5 hbest
        repeat' (first | (refine go ⟨?_⟩) | (fail) | ((first | (refine bsp ?_ ?_) | (refine csp ?_ ?_)); all_goals (intro hb; (fail_if_success (cases hb; done)); (try simp only [decide_eq_true_eq, decide_eq_false_iff_not, beq_iff_eq, bne_iff_ne, ne_eq, beq_eq_false_iff_ne, bne_eq_false_iff_eq, Bool.not_eq_true', Bool.not_eq_false', Bool.and_eq_true, Bool.or_eq_true, Decidable.not_not] at hb); (try simp only [go_sem]))))
        refine ⟨_, _, ?_, .refl _, n' + 1, _, _, _, ⟨by omega, rfl, rfl, ?_, Lib.hid hnx2, .inr rfl⟩, rfl, rfl, ?_, ?_, ?_, ?_, ?_, ?_⟩
        · omega
        · rw [show _ = _ from hnxh]; simp
        all_goals rfl
    · have hcl : n' = cost.length := by omega
      subst hcl
      rw [List.take_of_length_le (Nat.le_refl _)] at hti ⊢
      have hct : CostOK (cost.map ((1 + f5) * ·)) := ⟨by simpa using d3.1, fun c hc => by
        obtain ⟨y, hy, rfl⟩ := List.mem_map.1 hc
        exact ⟨Int.mul_nonneg (by omega) (d3.2 y hy).1, (show ∀ c ∈ cost, (1 + f5) * c ≤ 1048576 from hti) y hy⟩⟩
      have htl : (cost.map ((1 + f5) * ·)).length = cost.length := by simp
      have hpt : possS rows (cost.map ((1 + f5) * ·)) = true := possS_mk (by omega) hct (by rw [htl]; exact d5)
      have hlet := fun sto lo hlo => Least_ev rows (cost.map ((1 + f5) * ·)) (by omega) (fun r hr => by have := hd.row r hr; omega) hpt (by omega) sto lo hlo
      rw [least_times (by omega), hbest] at hlet
      have hof := fun sto lo hlo => (lawOf_ev rows (by omega) sto lo hlo).up0 (B := collB)
      have hsi := fun sto lo hlo => (sameInts_ev best best (by omega) (by omega) sto lo hlo).up0 (B := collB)
      rw [decide_eq_true rfl] at hsi
      have htv : V.sl cost.length ((cost.map ((1 + f5) * ·)).map VI) = LI (cost.map ((1 + f5) * ·)) := by rw [LI, SL, htl]
      generalize certC (rows.map maskS) (cost.map ((1 + f5) * ·)) = kc at *
      obtain ⟨kr4, kp4, kk4⟩ := kc
      generalize cost.map ((1 + f5) * ·) = times at *
      clear hti hct hpt d3 d5 hd hbest h4
      repeat' (first | (refine go ⟨?_⟩) | (first | ((refine call ?_); (refine ⟨_, hof _ _ (by first | omega | (simp; done) | (simp; omega)), ?_⟩); (try simp only [go_sem])) | ((with_reducible apply ops_call); rfl; (simp (disch := (first | omega | assumption | ((repeat' with_reducible apply And.intro) <;> first | omega | assumption | rfl | (apply Or.inl; rfl) | (apply Or.inr; first | rfl | trivial | fail) | fail) | fail)) only [go_sem, if_pos, if_neg, wrapI, wrapU, decide_eq_true, decide_eq_false, beqT, beqF, bneT, bneF] <;> rfl); (rw [htv]; exact hlet _ _ (by first | omega | (simp; done) | (simp; omega))); (try simp only [go_sem])) | ((refine call ?_); (refine ⟨_, hsi _ _ (by first | omega | (simp; done) | (simp; omega)), ?_⟩); (try simp only [go_sem])) | ((refine call ?_); (refine ⟨_, lives_ev _ _ (by first | omega | (simp; done) | (simp; omega)), ?_⟩); (try simp only [go_sem]))) | ((first | (refine bsp ?_ ?_) | (refine csp ?_ ?_)); all_goals (intro hb; (fail_if_success (cases hb; done)); (try simp only [decide_eq_true_eq, decide_eq_false_iff_not, beq_iff_eq, bne_iff_ne, ne_eq, beq_eq_false_iff_ne, bne_eq_false_iff_eq, Bool.not_eq_true', Bool.not_eq_false', Bool.and_eq_true, Bool.or_eq_true, Decidable.not_not] at hb); (try simp only [go_sem]))))
      refine ⟨by first | exact .inr rfl | exact .inl rfl, .inl ⟨[], _, (by dsimp only [Tryd.f8]; exact sv), ?_, by simp⟩⟩
      rfl
end Go.Proofs.YtgkhcjdpdgfdbaaDoor
