/-
  Suite: a certificate that is accepted is right; how large certificates are. Plain laws. No condition of its own. Suite: the package's Check answers as the reference's; the certificates that are made are accepted. Plain laws. No condition of its own.
-/
import Derived.Test.YtgkhcjdpdgfdbaaDoorB4
namespace Go.Proofs.YtgkhcjdpdgfdbaaDoor
open Go
theorem price_bits (cost : List Int) (b : Nat) : priceS cost (ints (bitsN b)) = sm (fun j => if b.testBit j then cAt cost (j : Int) else 0) (List.range 64) := by
  rw [price_sm]; unfold bitsN subsetS; rw [sm_filter]
theorem price_and_le {cost : List Int} (hc : CostOK cost) (b x : Nat) : priceS cost (ints (bitsN (b &&& x))) ≤ priceS cost (ints (bitsN b)) := by
  rw [price_bits, price_bits]
  refine sm_le fun j _ => ?_
  have hj := (cAt_bound hc (j : Int)).1
  rw [Nat.testBit_and]
  cases b.testBit j <;> cases x.testBit j <;> simp <;> omega
theorem price_disj (cost : List Int) {x y : Nat} (h : x &&& y = 0) : priceS cost (ints (bitsN (x ||| y))) = priceS cost (ints (bitsN x)) + priceS cost (ints (bitsN y)) := by
  rw [price_bits, price_bits, price_bits, ← sm_add]
  congr 1
  funext j
  have := and_zero_bit.1 h j
  rw [Nat.testBit_or]
  cases hx : x.testBit j <;> cases hy : y.testBit j <;> simp_all
theorem cheap_fold (cost : List Int) : ∀ (ts : List Int) (n : Int), ts.foldl (fun n t => min n (cAt cost t)) n ≤ n ∧ ∀ t ∈ ts, ts.foldl (fun n t => min n (cAt cost t)) n ≤ cAt cost t
  | [], n => ⟨Int.le_refl _, fun t h => by cases h⟩
  | a :: ts, n => by
    obtain ⟨h1, h2⟩ := cheap_fold cost ts (min n (cAt cost a))
    rw [List.foldl_cons]
    refine ⟨by omega, fun t ht => ?_⟩
    rcases List.mem_cons.1 ht with rfl | ht
    · omega
    · exact h2 t ht
theorem cheap_le {cost ts : List Int} {t : Int} (h : t ∈ ts) : cheapS cost ts ≤ cAt cost t := (cheap_fold cost ts 1048576).2 t h
theorem hits {ms : List Nat} {o : Nat} (ho : leftN ms o = []) {b i : Nat} (hi : i ∈ leftN ms b) : mAt ms (i : Int) &&& o ≠ 0 := by
  intro h
  have hr := List.mem_range.1 (List.mem_filter.1 hi).1
  have hz : i ∈ leftN ms o := by
    refine List.mem_filter.2 ⟨List.mem_range.2 hr, ?_⟩
    have := (List.mem_filter.1 hi).2
    rw [Bool.and_eq_true] at this
    rw [getD_mAt, h]
    rw [getD_mAt] at this
    simp only [this.1, decide_true, Bool.and_self]
  rw [ho] at hz
  cases hz
theorem hit_bit {m o : Nat} (h : m &&& o ≠ 0) : ∃ j, m.testBit j = true ∧ o.testBit j = true := by
  false_or_by_contra
  rename_i hno
  exact h (and_zero_bit.2 fun j h1 => by
    cases h2 : o.testBit j with
    | false => rfl
    | true => exact absurd ⟨j, h1, h2⟩ hno)
theorem bit_lt {o n j : Nat} (hob : o < 2 ^ n) (h : o.testBit j = true) : j < n := by
  false_or_by_contra
  have := Nat.testBit_lt_two_pow (i := j) (x := o) (Nat.lt_of_lt_of_le hob (Nat.pow_le_pow_right (by omega) (by omega)))
  rw [h] at this
  cases this
theorem pack_bound {ms : List Nat} {cost : List Int} (hc : CostOK cost) {o b : Nat} (hob : o < 2 ^ cost.length) {left : List Int} (hl : ∀ i ∈ left, mAt ms i &&& b = 0 ∧ mAt ms i &&& o ≠ 0) :
    ∀ (p : List Int) (used : Nat) (last sum s : Int), packN ms cost left used last sum p = some s → sum ≤ priceS cost (ints (bitsN (o &&& (b ||| used)))) → s ≤ priceS cost (ints (bitsN o))
  | [], used, last, sum, s, h, h2 => by
    rw [packN] at h
    have := price_and_le hc o (b ||| used)
    cases h
    omega
  | i :: ps, used, last, sum, s, h, h2 => by
    rw [packN] at h
    split at h
    · cases h
    · rename_i hcnd
      have hi : i ∈ left := by
        false_or_by_contra
        rename_i hno
        exact hcnd (.inr (.inl hno))
      have hu : mAt ms i &&& used = 0 := by
        false_or_by_contra
        rename_i hno
        exact hcnd (.inr (.inr hno))
      obtain ⟨h3, h4⟩ := hl i hi
      refine pack_bound hc hob hl ps _ _ _ s h ?_
      generalize mAt ms i = m at *
      have e : o &&& (b ||| (used ||| m)) = (o &&& (b ||| used)) ||| (o &&& m) := by
        apply Nat.eq_of_testBit_eq
        intro j
        simp only [Nat.testBit_and, Nat.testBit_or]
        cases o.testBit j <;> cases b.testBit j <;> cases used.testBit j <;> cases m.testBit j <;> rfl
      have d : (o &&& (b ||| used)) &&& (o &&& m) = 0 := by
        rw [and_zero_bit]
        intro j hj
        simp only [Nat.testBit_and, Nat.testBit_or, Bool.and_eq_true, Bool.or_eq_true] at hj
        rw [Nat.testBit_and]
        cases hm : m.testBit j with
        | false => simp
        | true =>
          have a1 := and_zero_bit.1 h3 j hm
          have a2 := and_zero_bit.1 hu j hm
          rw [a1, a2] at hj
          rcases hj.2 with h | h <;> cases h
      rw [e, price_disj cost d]
      obtain ⟨j, hj1, hj2⟩ := hit_bit h4
      have hjn := bit_lt hob hj2
      have hc16 := hc.1
      have h5 : cheapS cost (ints (bitsN m)) ≤ cAt cost (j : Int) := cheap_le (List.mem_map.2 ⟨j, mem_bitsN.2 ⟨by omega, hj1⟩, rfl⟩)
      have h6 : cAt cost (j : Int) ≤ priceS cost (ints (bitsN (o &&& m))) := by
        rw [price_sm]
        exact sm_ge (fun u _ => (cAt_bound hc (u : Int)).1) (mem_bitsN.2 ⟨by omega, by rw [Nat.testBit_and, hj1, hj2]; rfl⟩)
      omega
theorem showsLN_get {ms : List Nat} {cost : List Int} {bound : Int} : ∀ {k : List Crt} {l : List Nat} {b : Nat}, showsLN ms cost bound k l b = true → ∀ (i : Nat) (h1 : i < k.length) (h2 : i < l.length), showsN ms cost bound k[i] (b ||| 2 ^ l[i]) = true
  | c :: k, t :: l, b, h, i, h1, h2 => by
    rw [showsLN, Bool.and_eq_true] at h
    cases i with
    | zero => exact h.1
    | succ i => exact showsLN_get h.2 i (by simpa using h1) (by simpa using h2)
  | [], _, _, _, i, h1, _ => by cases h1
  | _ :: _, [], _, _, i, _, h2 => by cases h2
theorem shows_sound {ms : List Nat} {cost : List Int} (hc : CostOK cost) {bound : Int} {o : Nat} (ho : leftN ms o = []) (hob : o < 2 ^ cost.length) : ∀ (N : Nat) (c : Crt) (b : Nat), csz c ≤ N → showsN ms cost bound c b = true → b &&& o = b → bound ≤ priceS cost (ints (bitsN o))
  | 0, c, b, h, _, _ => by cases c; simp only [csz] at h; omega
  | N + 1, .mk r p k, b, hN, h, hb => by
    simp only [csz] at hN
    rw [showsN] at h
    split at h
    · cases hp : packN ms cost (ints (leftN ms b)) 0 (-1) (priceS cost (ints (bitsN b))) p with
      | none => rw [hp] at h; cases h
      | some s =>
        rw [hp] at h
        have h := of_decide_eq_true h
        have := pack_bound hc (b := b) hob (fun i hi => ⟨leftN_and hi, by
          obtain ⟨j, hj, rfl⟩ := List.mem_map.1 hi
          exact hits ho hj⟩) p 0 (-1) _ s hp (by rw [Nat.or_zero, Nat.and_comm, hb]; exact Int.le_refl _)
        omega
    · simp only [Bool.and_eq_true, decide_eq_true_eq] at h
      obtain ⟨⟨⟨_, h1⟩, h2⟩, h3⟩ := h
      obtain ⟨i, hi, rfl⟩ := List.mem_map.1 h1
      obtain ⟨j, hj1, hj2⟩ := hit_bit (hits ho hi)
      have hjn := bit_lt hob hj2
      have hc16 := hc.1
      obtain ⟨x, hx, hxe⟩ := List.mem_iff_getElem.1 (mem_bitsN.2 ⟨(by omega : j < 64), hj1⟩)
      have h4 := showsLN_get h3 x (by omega) hx
      have h5 := csz_get (l := k) (i := x) (by omega)
      refine shows_sound hc ho hob N _ _ (by omega) h4 ?_
      rw [hxe]
      apply Nat.eq_of_testBit_eq
      intro u
      have hbu : b.testBit u = true → o.testBit u = true := fun h => by
        have := congrArg (·.testBit u) hb
        simp only [Nat.testBit_and, h, Bool.true_and] at this
        exact this
      rw [Nat.testBit_and, Nat.testBit_or, Nat.testBit_two_pow]
      by_cases e : j = u
      · subst e; simp [hj2]
      · cases hbb : b.testBit u with
        | false => simp [e]
        | true => simp [hbu hbb]
theorem inc_gt : ∀ {n : Nat} {a : Int} {ts : List Int}, incS n a ts = true → ∀ x ∈ ts, a < x ∧ x < n
  | n, a, t :: ts, h, x, hx => by
    rw [incS, Bool.and_eq_true, Bool.and_eq_true] at h
    have h1 := of_decide_eq_true h.1.1
    have h2 := of_decide_eq_true h.1.2
    rcases List.mem_cons.1 hx with rfl | hx
    · exact ⟨h1, h2⟩
    · have := inc_gt h.2 x hx; omega
theorem inc_range {n : Nat} : ∀ (k s : Nat) (ts : List Int), incS n ((s : Int) - 1) ts = true → n ≤ s + k → ints ((List.range' s k).filter fun t : Nat => decide ((t : Int) ∈ ts)) = ts
  | 0, s, ts, h, hk => by
    cases ts with
    | nil => rfl
    | cons t ts => have := inc_gt h t (by simp); omega
  | k + 1, s, ts, h, hk => by
    rw [List.range'_succ, List.filter_cons]
    cases ts with
    | nil => simp
    | cons t ts =>
      have hg := inc_gt h
      rw [incS, Bool.and_eq_true, Bool.and_eq_true] at h
      by_cases e : t = s
      · subst e
        rw [if_pos (by simp)]
        have hg2 := inc_gt h.2
        rw [List.filter_congr (q := fun t' : Nat => decide ((t' : Int) ∈ ts)) fun j hj => by
          have := List.mem_range'_1.1 hj
          rw [decide_eq_decide, List.mem_cons]
          exact ⟨fun h => h.resolve_left (by omega), .inr⟩]
        rw [show ints (s :: (List.range' (s + 1) k).filter fun t' : Nat => decide ((t' : Int) ∈ ts)) = (s : Int) :: ints ((List.range' (s + 1) k).filter fun t' : Nat => decide ((t' : Int) ∈ ts)) from rfl]
        rw [inc_range (n := n) k (s + 1) ts (by rw [show ((s + 1 : Nat) : Int) - 1 = s from by omega]; exact h.2) (by omega)]
      · have hts : (s : Int) ∉ t :: ts := fun hm => by
          have h2 := inc_gt h.2
          have h3 := of_decide_eq_true h.1.1
          rcases List.mem_cons.1 hm with h4 | h4
          · exact e h4.symm
          · have := h2 _ h4; omega
        rw [if_neg (by simpa using hts)]
        refine inc_range (n := n) k (s + 1) (t :: ts) ?_ (by omega)
        rw [incS, Bool.and_eq_true, Bool.and_eq_true]
        have h3 := of_decide_eq_true h.1.1
        exact ⟨⟨decide_eq_true (by omega), h.1.2⟩, h.2⟩
theorem inc_tests {n : Nat} {ts : List Int} (hn : n ≤ 16) (h : incS n (-1) ts = true) : ints (testsS ts) = ts := by
  have := inc_range 16 0 ts h (by omega)
  rwa [← List.range_eq_range'] at this
theorem inc_bits {n : Nat} {ts : List Int} (hn : n ≤ 16) (h : incS n (-1) ts = true) : ints (bitsN (maskS ts)) = ts := by
  rw [bits_mask (n := n) (fun t ht => by have := inc_gt h t ht; omega) hn, inc_tests hn h]
/-- What Check accepts is a suite, and no suite costs less. -/
theorem check_sound {rows : List (List Int)} {cost ts : List Int} {c : Crt} (h : checkN rows cost ts c = 0) : suiteS rows cost ts = true ∧ priceS cost ts ≤ priceS cost (ints (bitsN (leastN (rows.map maskS) cost))) := by
  unfold checkN at h
  split at h
  · omega
  rename_i hp
  have hp : possS rows cost = true := by simpa using hp
  obtain ⟨-, hc, hin⟩ := possS_ok hp
  have hm := maskOK hp
  split at h
  · omega
  rename_i hi
  have hi : incS cost.length (-1) ts = true := by simpa using hi
  split at h
  · omega
  rename_i hl
  split at h
  · rename_i hs
    rw [inc_bits hc.1 hi] at hs
    refine ⟨?_, ?_⟩
    · rw [suiteS, hi, left_eq2 (fun r hr t ht => (hin r hr t ht).1) (fun t ht => by have := inc_gt hi t ht; omega), Bool.true_and]
      cases hx : leftN (rows.map maskS) (maskS ts) with
      | nil => rfl
      | cons a l => rw [hx] at hl; simp at hl
    · exact shows_sound hc (leastN_left hm) (leastN_lt _ _) (csz c) c 0 (Nat.le_refl _) hs (Nat.zero_and _)
  · omega
theorem cszs_set : ∀ {k : List Crt} {i : Nat} (h : i < k.length) (x : Crt), cszs (k.set i x) + csz k[i] = cszs k + csz x
  | c :: k, 0, _, x => by simp only [List.set_cons_zero, cszs, List.getElem_cons_zero]; omega
  | c :: k, i + 1, h, x => by
    have := cszs_set (k := k) (i := i) (by simpa using h) x
    simp only [List.set_cons_succ, cszs, List.getElem_cons_succ]; omega
theorem cszs_take : ∀ (k : List Crt) (n : Nat), cszs (k.take n) ≤ cszs k
  | [], n => by simp
  | c :: k, 0 => by simp [cszs]
  | c :: k, n + 1 => by have := cszs_take k n; simp only [List.take_succ_cons, cszs]; omega
theorem csz_bent (how by' : Int) : ∀ (N : Nat) (c : Crt) (a : Int), csz (bentF how by' N c a) ≤ csz c + 1
  | 0, c, _ => by rw [bentF]; omega
  | N + 1, .mk r p k, a => by
    rw [bentF]
    split
    · rename_i h
      have hb := aroundS_bound (n := Int.tdiv a 4) (most := (k.length : Int)) (by omega)
      have hi : (aroundS (Int.tdiv a 4) k.length).toNat < k.length := by omega
      generalize (aroundS (Int.tdiv a 4) k.length).toNat = i at *
      rw [show k.getD i (.mk 0 [] []) = k[i] from by simp [List.getD, hi]]
      have h1 := csz_bent how by' N k[i] (Int.tdiv a 4)
      have h2 := cszs_set hi (bentF how by' N k[i] (Int.tdiv a 4))
      simp only [csz]; omega
    · split
      · simp only [csz]; omega
      split
      · simp only [csz, List.length_append, List.length_singleton]; omega
      split
      · simp only [csz, List.length_drop]; omega
      split
      · have := cszs_take k (k.length - 1)
        simp only [csz]; omega
      · simp only [csz, cszs, List.length_nil]; omega
theorem countP_or_le (p q : Nat → Bool) : ∀ l : List Nat, l.countP (fun t => p t || q t) ≤ l.countP p + l.countP q
  | [] => by simp
  | a :: l => by
    have := countP_or_le p q l
    rw [List.countP_cons, List.countP_cons, List.countP_cons]
    cases p a <;> cases q a <;> simp <;> omega
theorem tests_le : ∀ row : List Int, (testsS row).length ≤ row.length
  | [] => by simp [testsS]
  | a :: row => by
    have ih := tests_le row
    unfold testsS at ih ⊢
    rw [← List.countP_eq_length_filter] at ih ⊢
    have h1 := countP_or_le (fun t : Nat => decide ((t : Int) = a)) (fun t : Nat => decide ((t : Int) ∈ row)) (List.range 16)
    have h2 : (List.range 16).countP (fun t : Nat => decide ((t : Int) = a)) ≤ 1 := by
      by_cases h : 0 ≤ a
      · rw [List.countP_congr (q := fun j => j == a.toNat) fun t _ => by simp only [decide_eq_true_eq, beq_iff_eq]; omega]
        rw [show (List.range 16).countP (fun j => j == a.toNat) = (List.range 16).count a.toNat from rfl, (List.nodup_range (n := 16)).count]
        split <;> omega
      · rw [List.countP_congr (q := fun _ => false) fun t _ => by simp only [decide_eq_true_eq, Bool.false_eq_true, iff_false]; omega]
        simp
    have h3 : (List.range 16).countP (fun t : Nat => decide ((t : Int) ∈ a :: row)) = (List.range 16).countP (fun t : Nat => decide ((t : Int) = a) || decide ((t : Int) ∈ row)) := List.countP_congr fun t _ => by simp
    rw [h3, List.length_cons]; omega
def bigR : Nat → Nat
  | 0 => 1
  | f + 1 => 1 + 4 * (1 + bigR f)
theorem cszs_map_le {f : Nat → Crt} {n : Nat} : ∀ l : List Nat, (∀ t ∈ l, csz (f t) ≤ n) → cszs (l.map f) ≤ l.length * (1 + n)
  | [], _ => by simp [cszs]
  | a :: l, h => by
    have h1 := cszs_map_le l fun t ht => h t (by simp [ht])
    have h2 := h a (by simp)
    rw [List.map_cons, cszs, List.length_cons, Nat.add_mul]; omega
theorem csz_showR {rows : List (List Int)} (h4 : ∀ r ∈ rows, r.length ≤ 4) (cost : List Int) (bound : Int) : ∀ (f : Nat) (ts : List Int), csz (showR rows cost bound f ts) ≤ bigR f
  | 0, ts => by simp [showR, csz, cszs, bigR]
  | f + 1, ts => by
    rw [showR, bigR]
    split
    · simp only [csz, cszs, List.length_nil]; omega
    · split
      · simp only [csz, cszs, List.length_nil]; omega
      · rename_i r _ _ _
        have h1 := cszs_map_le (f := fun t : Nat => showR rows cost bound f (ts ++ [(t : Int)])) (n := bigR f) (testsS (rowAt rows (r : Int))) fun t _ => csz_showR h4 cost bound f _
        have h2 : (testsS (rowAt rows (r : Int))).length ≤ 4 := by
          refine Nat.le_trans (tests_le _) ?_
          unfold rowAt
          rw [List.getD_eq_getElem?_getD]
          cases hx : rows[((r : Int)).toNat]? with
          | none => simp
          | some row => exact h4 _ (List.mem_of_getElem? hx)
        have h3 : (testsS (rowAt rows (r : Int))).length * (1 + bigR f) ≤ 4 * (1 + bigR f) := Nat.mul_le_mul_right _ h2
        simp only [csz, List.length_nil]; omega
theorem certC_size2 {ms : List Nat} {cost : List Int} (hm : MsOK ms cost) (hl : ms.length ≤ 12) (hc : cost.length ≤ 7) : csz (certC ms cost) < 300000 ∧ dep (certC ms cost) ≤ 8 := by
  have h1 := csz_showC hm hl (by omega) (fun b hb h => leastN_le ms cost hb h) (cost.length + 1) 0 (Nat.two_pow_pos _)
  have h2 := bigB_mono (Nat.le_trans (miss_le cost.length 0) hc)
  have h3 : bigB 7 = 191799 := by decide
  have h4 := dep_showC ms cost (priceS cost (ints (bitsN (leastN ms cost)))) (cost.length + 1) 0
  rw [certC]
  omega
theorem bigR8 (f : Nat) (h : f ≤ 8) : bigR f < 300000 := by
  obtain rfl | rfl | rfl | rfl | rfl | rfl | rfl | rfl | rfl : f = 0 ∨ f = 1 ∨ f = 2 ∨ f = 3 ∨ f = 4 ∨ f = 5 ∨ f = 6 ∨ f = 7 ∨ f = 8 := by omega
  all_goals decide
end Go.Proofs.YtgkhcjdpdgfdbaaDoor
namespace Go.Proofs.YtgkhcjdpdgfdbaaDoor
open Go
theorem cheap_ge {cost : List Int} {x : Int} : ∀ (ts : List Int) (n : Int), x ≤ n → (∀ t ∈ ts, x ≤ cAt cost t) → x ≤ ts.foldl (fun n t => min n (cAt cost t)) n
  | [], n, h, _ => h
  | a :: ts, n, h, h2 => by
    rw [List.foldl_cons]
    exact cheap_ge ts _ (by have := h2 a (by simp); omega) fun t ht => h2 t (by simp [ht])
theorem cheap_sub {cost a b : List Int} (h : ∀ t ∈ b, t ∈ a) : cheapS cost a ≤ cheapS cost b := cheap_ge b _ (cheap_fold cost a 1048576).1 fun t ht => cheap_le (h t ht)
theorem mask_bits {b : Nat} (hb : b < 2 ^ 64) : maskS (ints (bitsN b)) = b := by
  apply Nat.eq_of_testBit_eq
  intro j
  rw [mask_bit (fun t ht => by obtain ⟨i, _, rfl⟩ := List.mem_map.1 ht; exact Int.natCast_nonneg _)]
  rw [Bool.eq_iff_iff, decide_eq_true_eq]
  constructor
  · intro h
    obtain ⟨i, hi, e⟩ := List.mem_map.1 h
    have e : (i : Int) = j := e
    obtain rfl : i = j := by omega
    exact (mem_bitsN.1 hi).2
  · intro h
    exact List.mem_map.2 ⟨j, mem_bitsN.2 ⟨bit_lt hb h, h⟩, rfl⟩
/-- What is known of tests that were taken one after the other. -/
structure Tk (cost : List Int) (ts : List Int) : Prop where
  inn : In cost.length ts
  price : priceS cost ts = priceS cost (ints (bitsN (maskS ts)))
theorem ints_inj : ∀ {a b : List Nat}, ints a = ints b → a = b
  | [], [], _ => rfl
  | x :: a, y :: b, h => by
    have h : (x : Int) :: ints a = (y : Int) :: ints b := h
    injection h with h1 h2
    rw [ints_inj h2, show x = y from by omega]
  | [], _ :: _, h => by cases h
  | _ :: _, [], h => by cases h
theorem bits_two {t : Nat} (ht : t < 16) : bitsN (2 ^ t) = [t] := by
  have h1 : bitsN (maskS [(t : Int)]) = testsS [(t : Int)] := bits_mask (n := 16) (fun u hu => by rw [List.mem_singleton.1 hu]; omega) (Nat.le_refl _)
  rw [show maskS [(t : Int)] = 2 ^ t from by simp [maskS]] at h1
  have h2 := inc_tests (n := 16) (ts := [(t : Int)]) (Nat.le_refl _) (by simp [incS]; omega)
  rw [h1]
  exact ints_inj h2
theorem Tk.nil (cost : List Int) : Tk cost [] := ⟨fun t h => by (cases h), by rw [show maskS [] = 0 from rfl, bitsN_zero]; rfl⟩
theorem Tk.snoc {cost ts : List Int} (hc : cost.length ≤ 16) (h : Tk cost ts) {t : Nat} (ht : t < cost.length) (hn : (t : Int) ∉ ts) : Tk cost (ts ++ [(t : Int)]) := by
  refine ⟨fun u hu => ?_, ?_⟩
  · rcases List.mem_append.1 hu with hu | hu
    · exact h.inn u hu
    · rw [List.mem_singleton.1 hu]; omega
  · have hd : maskS ts &&& 2 ^ t = 0 := by
      rw [and_zero_bit]
      intro j hj
      rw [mask_bit fun t ht => (h.inn t ht).1, decide_eq_true_eq] at hj
      rw [Nat.testBit_two_pow, decide_eq_false_iff_not]
      rintro rfl
      exact hn hj
    rw [mask_snoc, price_disj cost hd, priceS_append, h.price]
    congr 1
    rw [bits_two (by omega)]
    rfl
theorem rowAt_mask {rows : List (List Int)} {i : Int} : mAt (rows.map maskS) i = maskS (rowAt rows i) := by
  unfold mAt rowAt
  rw [List.getD_eq_getElem?_getD, List.getD_eq_getElem?_getD, List.getElem?_map]
  cases rows[i.toNat]? <;> rfl
theorem cheap_row {cost row : List Int} (h : In cost.length row) (hc : cost.length ≤ 16) : cheapS cost (ints (bitsN (maskS row))) = cheapS cost row := by
  have hm : ∀ t : Int, t ∈ ints (bitsN (maskS row)) ↔ t ∈ row := fun t => by
    constructor
    · intro ht
      obtain ⟨j, hj, rfl⟩ := List.mem_map.1 ht
      have := (mem_bitsN.1 hj).2
      rw [mask_bit fun t ht => (h t ht).1, decide_eq_true_eq] at this
      exact this
    · intro ht
      have := h t ht
      refine List.mem_map.2 ⟨t.toNat, mem_bitsN.2 ⟨by omega, ?_⟩, by show ((t.toNat : Nat) : Int) = t; omega⟩
      rw [mask_bit fun t ht => (h t ht).1, decide_eq_true_eq, show ((t.toNat : Nat) : Int) = t from by omega]
      exact ht
  have h1 := cheap_sub (cost := cost) (a := ints (bitsN (maskS row))) (b := row) fun t ht => (hm t).2 ht
  have h2 := cheap_sub (cost := cost) (a := row) (b := ints (bitsN (maskS row))) fun t ht => (hm t).1 ht
  omega
theorem pack_eq {rows : List (List Int)} {cost : List Int} (hin : ∀ r ∈ rows, In cost.length r) (hc : cost.length ≤ 16) {left : List Int} (hl : ∀ i ∈ left, 0 ≤ i) :
    ∀ (p prev : List Int) (used : Nat) (last sum : Int), (∀ j, used.testBit j = prev.any fun q => (maskS (rowAt rows q)).testBit j) → last = prev.getLast?.getD (-1) →
      packN (rows.map maskS) cost left used last sum p = if packS rows left prev p then some (sum + (p.map fun i => cheapS cost (rowAt rows i)).sum) else none
  | [], prev, used, last, sum, _, _ => by simp [packN, packS]
  | i :: ps, prev, used, last, sum, hu, hla => by
    have hrow : ∀ q : Int, In cost.length (rowAt rows q) := fun q => rowAt_in hin q
    rw [packN, packS, rowAt_mask, cheap_row (hrow i) hc]
    have hm : maskS (rowAt rows i) &&& used = 0 ↔ (prev.any fun q => meetsS (rowAt rows i) (rowAt rows q)) = false := by
      rw [and_zero_bit, List.any_eq_false]
      constructor
      · intro h q hq
        rw [Bool.not_eq_true, ← meets_mask (fun t ht => (hrow i t ht).1) (fun t ht => (hrow q t ht).1), and_zero_bit]
        intro j hj
        have := h j hj
        rw [hu, List.any_eq_false] at this
        simpa using this q hq
      · intro h j hj
        rw [hu, List.any_eq_false]
        intro q hq
        have := h q hq
        rw [Bool.not_eq_true, ← meets_mask (fun t ht => (hrow i t ht).1) (fun t ht => (hrow q t ht).1), and_zero_bit] at this
        simpa using this j hj
    have key : ∀ d : Bool, (i ∈ left → (i ≤ last ↔ d = false)) → (if i ≤ last ∨ ¬i ∈ left ∨ maskS (rowAt rows i) &&& used ≠ 0 then none else packN (rows.map maskS) cost left (used ||| maskS (rowAt rows i)) i (sum + cheapS cost (rowAt rows i)) ps) =
        if (decide (i ∈ left) && d && !(prev.any fun q => meetsS (rowAt rows i) (rowAt rows q)) && packS rows left (prev ++ [i]) ps) = true then some (sum + ((i :: ps).map fun i => cheapS cost (rowAt rows i)).sum) else none := by
      intro d hd
      by_cases hi : i ∈ left
      · by_cases hle : i ≤ last
        · rw [if_pos (.inl hle), (hd hi).1 hle]; simp
        · have h2 : d = true := by
            cases d with
            | true => rfl
            | false => exact absurd ((hd hi).2 rfl) hle
          rw [h2]
          by_cases hz : maskS (rowAt rows i) &&& used = 0
          · rw [if_neg (fun h => by rcases h with h | h | h; exact hle h; exact h hi; exact h hz), hm.1 hz]
            rw [pack_eq hin hc hl ps (prev ++ [i]) (used ||| maskS (rowAt rows i)) i _ (fun j => by rw [Nat.testBit_or, hu, List.any_append]; simp) (by simp)]
            simp only [hi, decide_true, Bool.true_and, Bool.not_false, List.map_cons, List.sum_cons, Int.add_assoc]
          · rw [if_pos (.inr (.inr hz))]
            have : (prev.any fun q => meetsS (rowAt rows i) (rowAt rows q)) = true := by
              cases h : (prev.any fun q => meetsS (rowAt rows i) (rowAt rows q)) with
              | true => rfl
              | false => exact absurd (hm.2 h) hz
            rw [this]; simp
      · rw [if_pos (.inr (.inl hi))]; simp [hi]
    cases hg : prev.getLast? with
    | none => exact key true fun hi => by have := hl i hi; rw [hla, hg]; simp; omega
    | some q => exact key (decide (q < i)) fun hi => by rw [hla, hg]; simp
theorem left_row {rows : List (List Int)} {ts : List Int} {r : Int} (h : r ∈ ints (leftS rows ts)) : ∀ t ∈ rowAt rows r, t ∉ ts := by
  obtain ⟨i, hi, rfl⟩ := List.mem_map.1 h
  have := (List.mem_filter.1 hi).2
  rw [leftB, Bool.and_eq_true, Bool.not_eq_true', meetsS, List.any_eq_false] at this
  intro t ht
  have h2 := this.2 t ht
  simpa using h2
mutual
theorem shows_eq {rows : List (List Int)} {cost : List Int} {bound : Int} (hin : ∀ r ∈ rows, In cost.length r) (hc : cost.length ≤ 16) : ∀ (c : Crt) (ts : List Int), Tk cost ts → showsN (rows.map maskS) cost bound c (maskS ts) = showsS rows cost bound c ts
  | .mk r p k, ts, ht => by
    have hle : leftN (rows.map maskS) (maskS ts) = leftS rows ts := (left_eq2 (fun r hr t ht => (hin r hr t ht).1) fun t h => (ht.inn t h).1).symm
    rw [showsN, showsS, hle, ← ht.price]
    split
    · rw [pack_eq hin hc (fun i hi => (mem_left hi).1) p [] 0 (-1) _ (fun j => by simp) rfl]
      cases packS rows (ints (leftS rows ts)) [] p with
      | true => rfl
      | false => rfl
    · rw [rowAt_mask, bits_mask (rowAt_in hin r) hc]
      by_cases hr : r ∈ ints (leftS rows ts)
      · rw [showsL_eq hin hc k (testsS (rowAt rows r)) ts ht fun t h => by
          have hm := of_decide_eq_true (List.mem_filter.1 h).2
          exact ⟨by have := rowAt_in hin r _ hm; omega, left_row hr _ hm⟩]
      · simp only [hr, decide_false, Bool.and_false, Bool.false_and]
theorem showsL_eq {rows : List (List Int)} {cost : List Int} {bound : Int} (hin : ∀ r ∈ rows, In cost.length r) (hc : cost.length ≤ 16) : ∀ (k : List Crt) (l : List Nat) (ts : List Int), Tk cost ts → (∀ t ∈ l, t < cost.length ∧ (t : Int) ∉ ts) → showsLN (rows.map maskS) cost bound k l (maskS ts) = showsL rows cost bound k (ints l) ts
  | c :: k, t :: l, ts, ht, hl => by
    rw [showsLN, show ints (t :: l) = (t : Int) :: ints l from rfl, showsL, ← mask_snoc, shows_eq hin hc c _ (ht.snoc hc (hl t (by simp)).1 (hl t (by simp)).2), showsL_eq hin hc k l ts ht fun u hu => hl u (by simp [hu])]
  | [], l, ts, _, _ => by
    cases l <;> simp [showsLN, showsL]
  | _ :: _, [], ts, _, _ => by simp [showsLN, showsL]
end
/-- The package answers as the reference. -/
theorem check_eq (rows : List (List Int)) (cost ts : List Int) (c : Crt) : checkN rows cost ts c = checkS rows cost ts c 0 1 22 := by
  unfold checkN checkS
  cases hp : possS rows cost with
  | false => simp
  | true =>
    obtain ⟨-, hc, hin⟩ := possS_ok hp
    simp only [Bool.true_eq_false, if_false, Bool.not_true, Bool.false_eq_true]
    unfold suiteS
    cases hi : incS cost.length (-1) ts with
    | false => simp
    | true =>
      have hnn : ∀ t ∈ ts, 0 ≤ t := fun t ht => by have := inc_gt hi t ht; omega
      rw [left_eq2 (fun r hr t ht => (hin r hr t ht).1) hnn, inc_bits hc.1 hi]
      simp only [Bool.true_eq_false, if_false, Bool.true_and]
      cases hl : leftN (rows.map maskS) (maskS ts) with
      | cons a l => simp
      | nil =>
        simp only [List.length_nil, Nat.lt_irrefl, gt_iff_lt, if_false, List.isEmpty_nil, Bool.not_true, Bool.false_eq_true]
        rw [show (0 : Nat) = maskS [] from rfl, shows_eq hin hc.1 c [] (Tk.nil cost)]
theorem left_sorted (ms : List Nat) (b : Nat) : List.Pairwise (· < ·) (ints (leftN ms b)) := by
  unfold leftN
  refine List.Pairwise.map _ (fun a b h => ?_) (List.Pairwise.filter _ List.pairwise_lt_range)
  show (a : Int) < b
  omega
theorem pfold_pack {ms : List Nat} {cost left : List Int} : ∀ (rest : List Int) (u : Nat) (pk : List Int) (s last : Int), (∀ i ∈ rest, last < i ∧ i ∈ left) → List.Pairwise (· < ·) rest →
    ∃ q, (rest.foldl (pstep ms cost) (u, pk, s)).2.1 = pk ++ q ∧ packN ms cost left u last s q = some (rest.foldl (pstep ms cost) (u, pk, s)).2.2
  | [], u, pk, s, last, _, _ => ⟨[], by simp, rfl⟩
  | i :: rest, u, pk, s, last, h, hs => by
    obtain ⟨h1, h2⟩ := h i (by simp)
    obtain ⟨hs1, hs2⟩ := List.pairwise_cons.1 hs
    rw [List.foldl_cons, pstep]
    split
    · rename_i hz
      obtain ⟨q, e1, e2⟩ := pfold_pack (ms := ms) (cost := cost) (left := left) rest (u ||| mAt ms i) (pk ++ [i]) (s + cheapS cost (ints (bitsN (mAt ms i)))) i (fun x hx => ⟨hs1 x hx, (h x (by simp [hx])).2⟩) hs2
      refine ⟨i :: q, by rw [e1]; simp, ?_⟩
      rw [packN, if_neg (fun hh => by rcases hh with hh | hh | hh; omega; exact hh h2; exact hh hz)]
      exact e2
    · exact pfold_pack rest u pk s last (fun x hx => h x (by simp [hx])) hs2
theorem showsLN_all {ms : List Nat} {cost : List Int} {bound : Int} {f : Nat → Crt} {b : Nat} : ∀ l : List Nat, (∀ t ∈ l, showsN ms cost bound (f t) (b ||| 2 ^ t) = true) → showsLN ms cost bound (l.map f) l b = true
  | [], _ => by simp [showsLN]
  | t :: l, h => by
    rw [List.map_cons, showsLN, h t (by simp), showsLN_all l fun u hu => h u (by simp [hu])]; rfl
theorem showC_ok {ms : List Nat} {cost : List Int} {bound : Int} (hm : MsOK ms cost) (hc : CostOK cost) (hopt : ∀ b, b < 2 ^ cost.length → leftN ms b = [] → bound ≤ priceS cost (ints (bitsN b))) : ∀ f b, miss cost.length b < f → b < 2 ^ cost.length → showsN ms cost bound (showC ms cost bound f b) b = true
  | 0, b, h, _ => by omega
  | f + 1, b, h, hb => by
    rw [showC]
    split
    · rename_i hs
      obtain ⟨q, e1, e2⟩ := pfold_pack (ms := ms) (cost := cost) (left := ints (leftN ms b)) (ints (leftN ms b)) 0 [] (priceS cost (ints (bitsN b))) (-1) (fun i hi => ⟨by have := (mem_leftN hi).1; omega, hi⟩) (left_sorted ms b)
      rw [showsN, if_pos List.length_nil, show (pfold ms cost (priceS cost (ints (bitsN b))) (ints (leftN ms b))).2.1 = q from by rw [pfold, e1]; rfl, e2]
      exact decide_eq_true hs
    · rename_i hs
      have hne : ints (leftN ms b) ≠ [] := by
        intro h0
        have h1 : leftN ms b = [] := by simpa using h0
        have := hopt b hb h1
        rw [h0] at hs
        exact hs this
      have hr := minRow_mem (ms := ms) hne
      generalize minRow ms (ints (leftN ms b)) = r at *
      have hz : mAt ms r ≠ 0 := by
        obtain ⟨i, hi, rfl⟩ := List.mem_map.1 hr
        have := (List.mem_filter.1 hi).2
        rw [Bool.and_eq_true] at this
        exact of_decide_eq_true this.1
      have hc16 := hc.1
      have hlt := mAt_lt hm r
      have hbn : bitsN (mAt ms r) ≠ [] := by
        intro h0
        apply hz
        apply Nat.eq_of_testBit_eq
        intro j
        rw [Nat.zero_testBit]
        cases hj : (mAt ms r).testBit j with
        | false => rfl
        | true =>
          have := bit_lt hlt hj
          have : j ∈ bitsN (mAt ms r) := mem_bitsN.2 ⟨by omega, hj⟩
          rw [h0] at this
          cases this
      rw [showsN, if_neg (by simpa using hbn)]
      simp only [List.length_nil, decide_true, hr, List.length_map, Bool.true_and]
      refine showsLN_all _ fun t ht => ?_
      have hj := (mem_bitsN.1 ht).2
      have htn := bit_lt hlt hj
      have hbt : b.testBit t = false := and_zero_bit.1 (leftN_and hr) t hj
      exact showC_ok hm hc hopt f _ (by have := miss_lt htn hbt; omega) (bit_or_lt hb htn)
theorem cert_ok {rows : List (List Int)} {cost : List Int} (hp : possS rows cost = true) : checkN rows cost (ints (bitsN (leastN (rows.map maskS) cost))) (certC (rows.map maskS) cost) = 0 := by
  obtain ⟨-, hc, hin⟩ := possS_ok hp
  have hm := maskOK hp
  have hlt := leastN_lt (rows.map maskS) cost
  have h64 : leastN (rows.map maskS) cost < 2 ^ 64 := Nat.lt_of_lt_of_le hlt (Nat.pow_le_pow_right (by omega) (by have := hc.1; omega))
  unfold checkN
  rw [if_neg (by rw [hp]; simp), if_neg (by rw [incS_bits (by have := hc.1; omega) hlt]; simp), mask_bits h64, leastN_left hm, if_neg (by simp), if_pos]
  exact showC_ok hm hc (fun b hb h => leastN_le _ _ hb h) _ 0 (by have := miss_le cost.length 0; omega) (Nat.two_pow_pos _)
theorem showR_ok {rows : List (List Int)} {cost : List Int} {bound : Int} (hin : ∀ r ∈ rows, In cost.length r) (hc : CostOK cost) (hm : MsOK (rows.map maskS) cost) (hopt : ∀ b, b < 2 ^ cost.length → leftN (rows.map maskS) b = [] → bound ≤ priceS cost (ints (bitsN b))) : ∀ f ts, Tk cost ts → miss cost.length (maskS ts) < f → showsS rows cost bound (showR rows cost bound f ts) ts = true
  | 0, ts, _, h => by omega
  | f + 1, ts, ht, h => by
    have hle : leftN (rows.map maskS) (maskS ts) = leftS rows ts := (left_eq2 (fun r hr t ht => (hin r hr t ht).1) fun t h => (ht.inn t h).1).symm
    rw [showR]
    split
    · rename_i hl
      have := hopt (maskS ts) (mask_lt ht.inn) (by rw [hle, hl])
      rw [← ht.price] at this
      rw [showsS, if_pos List.length_nil]
      simp [packS]; omega
    · rename_i r rest hl
      split
      · rename_i hb
        rw [showsS, if_pos List.length_nil]
        simp [packS]; omega
      · have hr : (r : Int) ∈ ints (leftS rows ts) := by rw [hl]; simp
        have hri : In cost.length (rowAt rows (r : Int)) := rowAt_in hin _
        have htn : ∀ t ∈ testsS (rowAt rows (r : Int)), t < cost.length ∧ (t : Int) ∉ ts := fun t h => by
          have h1 := of_decide_eq_true (List.mem_filter.1 h).2
          exact ⟨by have := hri _ h1; omega, left_row hr _ h1⟩
        have hne : testsS (rowAt rows (r : Int)) ≠ [] := by
          have h1 : r ∈ leftS rows ts := by rw [hl]; simp
          have h2 := (List.mem_filter.1 h1).2
          rw [leftB, Bool.and_eq_true, decide_eq_true_eq] at h2
          have h3 : rows.getD r [] = rowAt rows (r : Int) := rfl
          rw [h3] at h2
          intro h0
          have h4 := hri _ (List.getElem_mem h2.1)
          have hc16 := hc.1
          have : (rowAt rows (r : Int))[0].toNat ∈ testsS (rowAt rows (r : Int)) := List.mem_filter.2 ⟨List.mem_range.2 (by omega), decide_eq_true (by rw [show (((rowAt rows (r : Int))[0].toNat : Nat) : Int) = (rowAt rows (r : Int))[0] from by omega]; exact List.getElem_mem h2.1)⟩
          rw [h0] at this
          cases this
        rw [showsS, if_neg (by simpa using hne)]
        generalize testsS (rowAt rows (r : Int)) = tl at *
        have hall : ∀ l : List Nat, (∀ t ∈ l, t < cost.length ∧ (t : Int) ∉ ts) → showsL rows cost bound (l.map fun t : Nat => showR rows cost bound f (ts ++ [(t : Int)])) (ints l) ts = true := by
          intro l
          induction l with
          | nil => intro _; simp [showsL]
          | cons t l ih =>
            intro hl
            obtain ⟨h1, h2⟩ := hl t (by simp)
            have hb : (maskS ts).testBit t = false := by
              rw [mask_bit fun t h => (ht.inn t h).1, decide_eq_false_iff_not]; exact h2
            rw [List.map_cons, show ints (t :: l) = (t : Int) :: ints l from rfl, showsL, ih fun u hu => hl u (by simp [hu]), Bool.and_true]
            exact showR_ok hin hc hm hopt f _ (ht.snoc hc.1 h1 h2) (by rw [mask_snoc]; have := miss_lt h1 hb; omega)
        simp only [List.length_nil, decide_true, hr, List.length_map, Bool.true_and]
        exact hall tl htn
end Go.Proofs.YtgkhcjdpdgfdbaaDoor
