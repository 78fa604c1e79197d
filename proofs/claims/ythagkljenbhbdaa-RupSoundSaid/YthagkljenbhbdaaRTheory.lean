/-
  Unit propagation, plain: it finds no conflict exactly if some truth values agree with what one begins with and leave nothing to do at any clause. No program in sight.
-/
import Derived.Test.YthagkljenbhbdaaRConf
import Derived.Test.YthagkljenbhbdaaRSpec2
namespace Go.Proofs.Ythagkljenbhbdaa
open Go Go.RowKit

/-- A literal of N variables. -/
def LitZ (N : Nat) (x : Int) : Prop := x ≠ 0 ∧ -(N : Int) ≤ x ∧ x ≤ N
def LitsZ (N : Nat) (c : List Int) : Prop := ∀ x ∈ c, LitZ N x
def AllZ (N : Nat) (cs : List (List Int)) : Prop := ∀ c ∈ cs, LitsZ N c
theorem LitZ.neg {N : Nat} {x : Int} (h : LitZ N x) : LitZ N (-x) := by unfold LitZ at *; omega
theorem LitsZ.neg {N : Nat} {c : List Int} (h : LitsZ N c) : LitsZ N (neg c) := by
  intro x hx
  simp only [Go.Proofs.Ythagkljenbhbdaa.neg, List.mem_map] at hx
  obtain ⟨y, hy, rfl⟩ := hx
  exact (h y hy).neg
theorem AllZ.append {N : Nat} {cs ds : List (List Int)} (h : AllZ N cs) (k : AllZ N ds) : AllZ N (cs ++ ds) := fun c hc => by
  rcases List.mem_append.1 hc with hc | hc
  · exact h c hc
  · exact k c hc
theorem AllZ.one {N : Nat} {c : List Int} (h : LitsZ N c) : AllZ N [c] := fun d hd => by simp at hd; subst hd; exact h
theorem AllZ.sub {N : Nat} {cs ds : List (List Int)} (h : AllZ N ds) (hs : ∀ c ∈ cs, c ∈ ds) : AllZ N cs := fun c hc => h c (hs c hc)
theorem AllZ.lits {N : Nat} {cs : List (List Int)} (h : AllZ N cs) : LitsAll (N + 1) cs := fun c hc x hx => by
  have := h c hc x hx
  unfold LitZ at this; omega

theorem vof_neg {v : List Int} {x : Int} (hx : x ≠ 0) : vof v (-x) = -vof v x := by
  unfold vof
  by_cases h : x < 0
  · rw [if_neg (by omega), if_pos h]; omega
  · rw [if_pos (by omega), if_neg h, Int.neg_neg]
theorem vof_set {N : Nat} {v : List Int} {x y : Int} (hv : v.length = N + 1) (hx : LitZ N x) (hy : LitZ N y) : vof (vset v x) y = if y = x then 1 else if y = -x then -1 else vof v y := by
  unfold LitZ at hx hy
  unfold vset vof
  by_cases h : x < 0
  · rw [if_pos h]
    by_cases k : y < 0
    · rw [if_pos k, if_pos k]
      by_cases e : y = x
      · subst e
        rw [if_pos rfl, List.getD_eq_getElem?_getD, List.getElem?_set_self (by omega)]; simp
      · rw [if_neg e, if_neg (by omega)]
        rw [List.getD_eq_getElem?_getD, List.getD_eq_getElem?_getD, List.getElem?_set_ne (by omega)]
    · rw [if_neg k, if_neg k, if_neg (by omega)]
      by_cases e : y = -x
      · subst e
        rw [if_pos rfl, List.getD_eq_getElem?_getD, List.getElem?_set_self (by omega)]; simp
      · rw [if_neg e]
        rw [List.getD_eq_getElem?_getD, List.getD_eq_getElem?_getD, List.getElem?_set_ne (by omega)]
  · rw [if_neg h]
    by_cases k : y < 0
    · rw [if_pos k, if_pos k, if_neg (by omega)]
      by_cases e : y = -x
      · subst e
        rw [if_pos rfl, Int.neg_neg, List.getD_eq_getElem?_getD, List.getElem?_set_self (by omega)]; simp
      · rw [if_neg e]
        rw [List.getD_eq_getElem?_getD, List.getD_eq_getElem?_getD, List.getElem?_set_ne (by omega)]
    · rw [if_neg k, if_neg k]
      by_cases e : y = x
      · subst e
        rw [if_pos rfl, List.getD_eq_getElem?_getD, List.getElem?_set_self (by omega)]; simp
      · rw [if_neg e, if_neg (by omega)]
        rw [List.getD_eq_getElem?_getD, List.getD_eq_getElem?_getD, List.getElem?_set_ne (by omega)]
theorem TV.vof {v : List Int} (h : TV v) (x : Int) : vof v x = 0 ∨ vof v x = 1 ∨ vof v x = -1 := by
  have key : ∀ j : Nat, v.getD j 0 = 0 ∨ v.getD j 0 = 1 ∨ v.getD j 0 = -1 := fun j => by
    rw [List.getD_eq_getElem?_getD]
    by_cases hj : j < v.length
    · rw [List.getElem?_eq_getElem hj]
      have := h.get j hj
      simp; omega
    · rw [List.getElem?_eq_none (by omega)]; simp
  unfold Go.Proofs.Ythagkljenbhbdaa.vof
  split
  · have := key (-x).toNat; omega
  · exact key _
/-- What is known in v is so in w. -/
def Le (N : Nat) (v w : List Int) : Prop := ∀ x, LitZ N x → vof v x ≠ 0 → vof w x = vof v x
theorem Le.refl (N : Nat) (v : List Int) : Le N v v := fun _ _ _ => rfl
theorem Le.trans {N : Nat} {u v w : List Int} (h : Le N u v) (k : Le N v w) : Le N u w := fun x hx h0 => by
  have h1 := h x hx h0
  rw [k x hx (by rw [h1]; exact h0), h1]
theorem Le.zeros (N : Nat) (n : Nat) (w : List Int) : Le N (List.replicate n 0) w := fun x _ h0 => by
  refine absurd ?_ h0
  have key : ∀ j : Nat, (List.replicate n (0 : Int)).getD j 0 = 0 := fun j => by
    rw [List.getD_eq_getElem?_getD, List.getElem?_replicate]; split <;> rfl
  unfold vof
  split
  · rw [key]; rfl
  · exact key _
theorem Le.set {N : Nat} {v w : List Int} {x : Int} (hv : v.length = N + 1) (h : Le N v w) (hx : LitZ N x) (hw : vof w x = 1) : Le N (vset v x) w := by
  intro y hy h0
  rw [vof_set hv hx hy] at h0 ⊢
  by_cases e : y = x
  · subst e; rw [if_pos rfl]; exact hw
  · rw [if_neg e] at h0 ⊢
    by_cases k : y = -x
    · subst k; rw [if_pos rfl, vof_neg hx.1, hw]
    · rw [if_neg k] at h0 ⊢
      exact h y hy h0
theorem Le.grow {N : Nat} {v : List Int} {x : Int} (hv : v.length = N + 1) (hx : LitZ N x) (h0 : vof v x = 0 ∨ vof v x = 1) : Le N v (vset v x) := by
  intro y hy hn
  rw [vof_set hv hx hy]
  by_cases e : y = x
  · subst e; rw [if_pos rfl]; omega
  · rw [if_neg e]
    by_cases k : y = -x
    · subst k
      rw [if_pos rfl]
      rw [vof_neg hx.1] at hn ⊢
      omega
    · rw [if_neg k]

theorem scan_some {v : List Int} : ∀ (c : List Int) (u r : Int), (∀ n ∈ c, n ≠ 0) → scan v c u = some r →
    (∀ n ∈ c, ¬ 0 < vof v n) ∧ (∀ n ∈ c, vof v n = 0 → n = r) ∧ (u ≠ 0 → r = u) ∧ (u = 0 → r = 0 ∨ (r ∈ c ∧ vof v r = 0))
  | [], u, r, _, h => by
    simp only [scan, Option.some.injEq] at h
    subst h
    exact ⟨fun _ h => by simp at h, fun _ h => by simp at h, fun _ => rfl, fun h => .inl h⟩
  | m :: c, u, r, hz, h => by
    have hm := hz m (List.mem_cons_self ..)
    have hz' : ∀ n ∈ c, n ≠ 0 := fun n hn => hz n (List.mem_cons_of_mem _ hn)
    simp only [scan] at h
    split at h
    · cases h
    · rename_i hc
      by_cases h0 : vof v m = 0
      · rw [if_pos h0] at h
        obtain ⟨i1, i2, i3, i4⟩ := scan_some c m r hz' h
        have hr : r = m := i3 hm
        refine ⟨fun n hn => ?_, fun n hn hn0 => ?_, fun hu => ?_, fun _ => .inr ⟨by rw [hr]; exact List.mem_cons_self .., by rw [hr]; exact h0⟩⟩
        · rcases List.mem_cons.1 hn with rfl | hn
          · omega
          · exact i1 n hn
        · rcases List.mem_cons.1 hn with rfl | hn
          · exact hr.symm
          · exact i2 n hn hn0
        · rw [hr]
          have h2 : ¬ (vof v m = 0 ∧ u ≠ 0 ∧ u ≠ m) := fun h => hc (.inr h)
          by_cases e : u = m
          · exact e.symm
          · exact absurd ⟨h0, hu, e⟩ h2
      · rw [if_neg h0] at h
        obtain ⟨i1, i2, i3, i4⟩ := scan_some c u r hz' h
        refine ⟨fun n hn => ?_, fun n hn hn0 => ?_, i3, fun hu => ?_⟩
        · rcases List.mem_cons.1 hn with rfl | hn
          · omega
          · exact i1 n hn
        · rcases List.mem_cons.1 hn with rfl | hn
          · exact absurd hn0 h0
          · exact i2 n hn hn0
        · rcases i4 hu with h | ⟨h, k⟩
          · exact .inl h
          · exact .inr ⟨List.mem_cons_of_mem _ h, k⟩
theorem scan_none {v : List Int} : ∀ (c : List Int) (u : Int), scan v c u = none →
    (∃ n ∈ c, 0 < vof v n) ∨ (∃ n ∈ c, vof v n = 0 ∧ u ≠ 0 ∧ n ≠ u) ∨ (∃ n ∈ c, ∃ m ∈ c, vof v n = 0 ∧ vof v m = 0 ∧ n ≠ m)
  | [], u, h => by simp [scan] at h
  | m :: c, u, h => by
    simp only [scan] at h
    split at h
    · rename_i hc
      rcases hc with hc | ⟨h1, h2, h3⟩
      · exact .inl ⟨m, List.mem_cons_self .., hc⟩
      · exact .inr (.inl ⟨m, List.mem_cons_self .., h1, h2, fun e => h3 e.symm⟩)
    · by_cases h0 : vof v m = 0
      · rw [if_pos h0] at h
        rcases scan_none c m h with ⟨n, hn, k⟩ | ⟨n, hn, k, _, k2⟩ | ⟨n, hn, n2, hn2, k⟩
        · exact .inl ⟨n, List.mem_cons_of_mem _ hn, k⟩
        · exact .inr (.inr ⟨n, List.mem_cons_of_mem _ hn, m, List.mem_cons_self .., k, h0, k2⟩)
        · exact .inr (.inr ⟨n, List.mem_cons_of_mem _ hn, n2, List.mem_cons_of_mem _ hn2, k⟩)
      · rw [if_neg h0] at h
        rcases scan_none c u h with ⟨n, hn, k⟩ | ⟨n, hn, k⟩ | ⟨n, hn, n2, hn2, k⟩
        · exact .inl ⟨n, List.mem_cons_of_mem _ hn, k⟩
        · exact .inr (.inl ⟨n, List.mem_cons_of_mem _ hn, k⟩)
        · exact .inr (.inr ⟨n, List.mem_cons_of_mem _ hn, n2, List.mem_cons_of_mem _ hn2, k⟩)
/-- Nothing is to do at a clause: a literal is true, or two different ones are not known. -/
theorem scan_iff {v c : List Int} (hz : ∀ n ∈ c, n ≠ 0) : scan v c 0 = none ↔ (∃ n ∈ c, 0 < vof v n) ∨ (∃ n ∈ c, ∃ m ∈ c, vof v n = 0 ∧ vof v m = 0 ∧ n ≠ m) := by
  constructor
  · intro h
    rcases scan_none c 0 h with h | ⟨n, _, _, h, _⟩ | h
    · exact .inl h
    · exact absurd rfl h
    · exact .inr h
  · intro h
    cases hs : scan v c 0 with
    | none => rfl
    | some r =>
      obtain ⟨i1, i2, _, _⟩ := scan_some c 0 r hz hs
      rcases h with ⟨n, hn, k⟩ | ⟨n, hn, m, hm, k1, k2, k3⟩
      · exact absurd k (i1 n hn)
      · exact absurd ((i2 n hn k1).trans (i2 m hm k2).symm) k3

/-- Truth values that agree with l and leave nothing to do. -/
structure Wit (N : Nat) (cs : List (List Int)) (l v : List Int) : Prop where
  len : v.length = N + 1
  tv : TV v
  lits : ∀ x ∈ l, vof v x = 1
  calm : ∀ c ∈ cs, scan v c 0 = none
theorem assume_wit {N : Nat} {w : List Int} : ∀ (l v : List Int), LitsZ N l → v.length = N + 1 → Le N v w → (∀ x ∈ l, vof w x = 1) → ∃ v', assume l v = some v' ∧ Le N v' w ∧ v'.length = N + 1
  | [], v, _, hl, h, _ => ⟨v, rfl, h, hl⟩
  | x :: l, v, hz, hl, h, hw => by
    have hx := hz x (List.mem_cons_self ..)
    have h1 := hw x (List.mem_cons_self ..)
    have hn : ¬ vof v x < 0 := fun hn => by
      have := h x hx (by omega)
      omega
    rw [assume_step hn]
    exact assume_wit l (vset v x) (fun y hy => hz y (List.mem_cons_of_mem _ hy)) (by rw [vset_len]; exact hl) (h.set hl hx h1) (fun y hy => hw y (List.mem_cons_of_mem _ hy))
theorem pass_wit {N : Nat} {w : List Int} (htw : TV w) : ∀ (cs : List (List Int)) (v : List Int) (ch : Bool), AllZ N cs → v.length = N + 1 → TV v → Le N v w → (∀ c ∈ cs, scan w c 0 = none) →
    ∃ v' ch', pass cs v ch = some (v', ch') ∧ Le N v' w ∧ v'.length = N + 1 ∧ TV v'
  | [], v, ch, _, hl, ht, h, _ => ⟨v, ch, rfl, h, hl, ht⟩
  | c :: cs, v, ch, hz, hl, ht, h, hw => by
    have hzc := hz c (List.mem_cons_self ..)
    have hz' : AllZ N cs := fun d hd => hz d (List.mem_cons_of_mem _ hd)
    have hw' : ∀ d ∈ cs, scan w d 0 = none := fun d hd => hw d (List.mem_cons_of_mem _ hd)
    have hwc := (scan_iff (fun n hn => (hzc n hn).1)).1 (hw c (List.mem_cons_self ..))
    cases hs : scan v c 0 with
    | none => rw [pass_skip hs]; exact pass_wit htw cs v ch hz' hl ht h hw'
    | some u =>
      obtain ⟨i1, i2, _, i4⟩ := scan_some c 0 u (fun n hn => (hzc n hn).1) hs
      have keep : ∀ n ∈ c, n ≠ u → vof w n = -1 := fun n hn hne => by
        have h1 := i1 n hn
        have h2 : vof v n ≠ 0 := fun h0 => hne (i2 n hn h0)
        rw [h n (hzc n hn) h2]
        have := ht.vof n; omega
      have hu : u ≠ 0 ∧ vof w u = 1 := by
        rcases hwc with ⟨n, hn, hp⟩ | ⟨n, hn, m, hm, k1, k2, k3⟩
        · have hnu : n = u := by
            by_cases e : n = u
            · exact e
            · have := keep n hn e; omega
          subst hnu
          refine ⟨(hzc n hn).1, ?_⟩
          have := htw.vof n; omega
        · by_cases e : n = u
          · have := keep m hm (fun e2 => k3 (e.trans e2.symm)); omega
          · have := keep n hn e; omega
      rw [pass_set hs hu.1]
      have huc := ((i4 rfl).resolve_left hu.1).1
      exact pass_wit htw cs (vset v u) true hz' (by rw [vset_len]; exact hl) (ht.set u) (h.set hl (hzc u huc) hu.2) hw'
theorem prop_wit {N : Nat} {w : List Int} (htw : TV w) {cs : List (List Int)} (hz : AllZ N cs) (hw : ∀ c ∈ cs, scan w c 0 = none) : ∀ (k : Nat) (v : List Int), v.length = N + 1 → TV v → Le N v w → prop k cs v = false
  | 0, _, _, _, _ => rfl
  | k + 1, v, hl, ht, h => by
    obtain ⟨v', ch', hp, h', hl', ht'⟩ := pass_wit htw cs v false hz hl ht h hw
    simp only [prop, hp]
    split
    · exact prop_wit htw hz hw k v' hl' ht' h'
    · rfl
theorem assume_good {N : Nat} : ∀ (l v v' : List Int), LitsZ N l → v.length = N + 1 → TV v → assume l v = some v' → Le N v v' ∧ (∀ x ∈ l, vof v' x = 1) ∧ v'.length = N + 1 ∧ TV v'
  | [], v, v', _, hl, ht, h => by
    simp only [assume, Option.some.injEq] at h
    subst h
    exact ⟨Le.refl _ _, fun _ h => by simp at h, hl, ht⟩
  | x :: l, v, v', hz, hl, ht, h => by
    have hx := hz x (List.mem_cons_self ..)
    by_cases hn : vof v x < 0
    · rw [assume_stop hn] at h; cases h
    · rw [assume_step hn] at h
      obtain ⟨i1, i2, i3, i4⟩ := assume_good l (vset v x) v' (fun y hy => hz y (List.mem_cons_of_mem _ hy)) (by rw [vset_len]; exact hl) (ht.set x) h
      have hs : vof (vset v x) x = 1 := by rw [vof_set hl hx hx, if_pos rfl]
      refine ⟨(Le.grow hl hx (by have := ht.vof x; omega)).trans i1, fun y hy => ?_, i3, i4⟩
      rcases List.mem_cons.1 hy with rfl | hy
      · rw [i1 y hx (by omega), hs]
      · exact i2 y hy
theorem pass_good {N : Nat} : ∀ (cs : List (List Int)) (v : List Int) (ch : Bool) (v' : List Int) (ch' : Bool), AllZ N cs → v.length = N + 1 → TV v → pass cs v ch = some (v', ch') →
    Le N v v' ∧ v'.length = N + 1 ∧ TV v' ∧ (ch' = false → v' = v ∧ ch = false ∧ ∀ c ∈ cs, scan v c 0 = none)
  | [], v, ch, v', ch', _, hl, ht, h => by
    simp only [pass, Option.some.injEq, Prod.mk.injEq] at h
    obtain ⟨rfl, rfl⟩ := h
    exact ⟨Le.refl _ _, hl, ht, fun h => ⟨rfl, h, fun _ h => by simp at h⟩⟩
  | c :: cs, v, ch, v', ch', hz, hl, ht, h => by
    have hzc := hz c (List.mem_cons_self ..)
    have hz' : AllZ N cs := fun d hd => hz d (List.mem_cons_of_mem _ hd)
    cases hs : scan v c 0 with
    | none =>
      rw [pass_skip hs] at h
      obtain ⟨i1, i2, i3, i4⟩ := pass_good cs v ch v' ch' hz' hl ht h
      refine ⟨i1, i2, i3, fun hc => ?_⟩
      obtain ⟨j1, j2, j3⟩ := i4 hc
      refine ⟨j1, j2, fun d hd => ?_⟩
      rcases List.mem_cons.1 hd with rfl | hd
      · exact hs
      · exact j3 d hd
    | some u =>
      by_cases hu : u = 0
      · subst hu; rw [pass_stop hs] at h; cases h
      · rw [pass_set hs hu] at h
        obtain ⟨_, _, _, k4⟩ := scan_some c 0 u (fun n hn => (hzc n hn).1) hs
        obtain ⟨huc, hu0⟩ := (k4 rfl).resolve_left hu
        obtain ⟨i1, i2, i3, i4⟩ := pass_good cs (vset v u) true v' ch' hz' (by rw [vset_len]; exact hl) (ht.set u) h
        refine ⟨(Le.grow hl (hzc u huc) (.inl hu0)).trans i1, i2, i3, fun hc => ?_⟩
        have := (i4 hc).2.1
        cases this
theorem prop_good {N : Nat} {cs : List (List Int)} (hz : AllZ N cs) : ∀ (k : Nat) (v : List Int), v.length = N + 1 → TV v → zeros v < k → prop k cs v = false → ∃ v', Le N v v' ∧ v'.length = N + 1 ∧ TV v' ∧ ∀ c ∈ cs, scan v' c 0 = none
  | 0, _, _, _, h, _ => by omega
  | k + 1, v, hl, ht, hk, h => by
    simp only [prop] at h
    split at h
    · cases h
    · rename_i v' ch' hp
      obtain ⟨i1, i2, i3, i4⟩ := pass_good cs v false v' ch' hz hl ht hp
      cases ch' with
      | false =>
        obtain ⟨rfl, _, j⟩ := i4 rfl
        exact ⟨v', Le.refl _ _, i2, i3, j⟩
      | true =>
        have hzr := (pass_zeros cs v false v' true (N := N + 1) hl hz.lits hp).2 rfl rfl
        obtain ⟨w, h1, h2⟩ := prop_good hz k v' i2 i3 (by omega) h
        exact ⟨w, i1.trans h1, h2⟩
theorem zeros_le (v : List Int) : zeros v ≤ v.length := by unfold zeros; exact List.length_filter_le _ _
/-- NO CONFLICT IS FOUND EXACTLY IF THERE ARE SUCH TRUTH VALUES. -/
theorem conflict_iff {N : Nat} {cs : List (List Int)} {l : List Int} (hz : AllZ N cs) (hl : LitsZ N l) : conflict N cs l = false ↔ ∃ v, Wit N cs l v := by
  constructor
  · intro h
    unfold conflict at h
    split at h
    · cases h
    · rename_i v hv
      obtain ⟨i1, i2, i3, i4⟩ := assume_good (N := N) l _ v hl (by simp) (TV.zeros _) hv
      obtain ⟨w, j1, j2, j3, j4⟩ := prop_good hz (N + 2) v i3 i4 (by have := zeros_le v; omega) h
      exact ⟨w, j2, j3, fun x hx => by rw [j1 x (hl x hx) (by rw [i2 x hx]; decide), i2 x hx], j4⟩
  · rintro ⟨w, hw⟩
    obtain ⟨v', h1, h2, h3⟩ := assume_wit l (List.replicate (N + 1) 0) hl (by simp) (Le.zeros _ _ _) hw.lits
    rw [conflict_go h1]
    obtain ⟨_, _, _, ht⟩ := assume_good (N := N) l _ v' hl (by simp) (TV.zeros _) h1
    exact prop_wit hw.tv hz hw.calm _ v' h3 ht h2
theorem Wit.sub {N : Nat} {cs ds : List (List Int)} {l v : List Int} (h : Wit N ds l v) (hs : ∀ c ∈ cs, c ∈ ds) : Wit N cs l v := ⟨h.len, h.tv, h.lits, fun c hc => h.calm c (hs c hc)⟩
/-- More clauses, more conflicts. -/
theorem conflict_mono {N : Nat} {cs ds : List (List Int)} {l : List Int} (hz : AllZ N ds) (hl : LitsZ N l) (hs : ∀ c ∈ cs, c ∈ ds) (h : conflict N cs l = true) : conflict N ds l = true := by
  cases hd : conflict N ds l with
  | true => rfl
  | false =>
    obtain ⟨v, hv⟩ := (conflict_iff hz hl).1 hd
    rw [(conflict_iff (hz.sub hs) hl).2 ⟨v, hv.sub hs⟩] at h
    cases h
theorem conflict_same {N : Nat} {cs ds : List (List Int)} {l : List Int} (hz : AllZ N ds) (hl : LitsZ N l) (h1 : ∀ c ∈ cs, c ∈ ds) (h2 : ∀ c ∈ ds, c ∈ cs) : conflict N cs l = conflict N ds l := by
  cases hd : conflict N ds l with
  | true => exact conflict_mono (hz.sub h1) hl h2 hd
  | false =>
    obtain ⟨v, hv⟩ := (conflict_iff hz hl).1 hd
    exact (conflict_iff (hz.sub h1) hl).2 ⟨v, hv.sub h1⟩
theorem loop_cons {N : Nat} {all pr : List (List Int)} {c : List Int} : provesLoop N all (c :: pr) = (conflict N all (neg c) && provesLoop N (all ++ [c]) pr) := by
  simp only [provesLoop]
  cases conflict N all (neg c) <;> rfl
theorem loop_mono {N : Nat} : ∀ (pr cs ds : List (List Int)), AllZ N ds → AllZ N pr → (∀ c ∈ cs, c ∈ ds) → provesLoop N cs pr = true → provesLoop N ds pr = true
  | [], _, _, _, _, _, _ => rfl
  | c :: pr, cs, ds, hz, hp, hs, h => by
    rw [loop_cons, Bool.and_eq_true] at h ⊢
    have hc := hp c (List.mem_cons_self ..)
    refine ⟨conflict_mono hz hc.neg hs h.1, loop_mono pr _ _ (hz.append (AllZ.one hc)) (fun d hd => hp d (List.mem_cons_of_mem _ hd)) ?_ h.2⟩
    intro d hd
    rcases List.mem_append.1 hd with hd | hd
    · exact List.mem_append_left _ (hs d hd)
    · exact List.mem_append_right _ hd
theorem loop_append {N : Nat} : ∀ (p q all : List (List Int)), provesLoop N all (p ++ q) = (provesLoop N all p && provesLoop N (all ++ p) q)
  | [], q, all => by simp [provesLoop]
  | c :: p, q, all => by
    rw [List.cons_append, loop_cons, loop_cons, loop_append p q (all ++ [c]), List.append_assoc, Bool.and_assoc]; rfl
/-- What a proof shows of total truth values: if they satisfy the clauses, they do so for the proof's. -/
def Sat (τ : List Int) (c : List Int) : Prop := ∃ x ∈ c, vof τ x = 1
theorem sat_of_loop {N : Nat} {τ : List Int} (hl : τ.length = N + 1) (ht : TV τ) (htot : ∀ x, LitZ N x → vof τ x ≠ 0) : ∀ (pr cs : List (List Int)), AllZ N cs → AllZ N pr → provesLoop N cs pr = true → (∀ c ∈ cs, Sat τ c) → ∀ c ∈ pr, Sat τ c
  | [], _, _, _, _, _, c, hc => by simp at hc
  | d :: pr, cs, hz, hp, h, hs, c, hc => by
    rw [loop_cons, Bool.and_eq_true] at h
    have hdz := hp d (List.mem_cons_self ..)
    have hd : Sat τ d := by
      refine Classical.byContradiction fun hn => ?_
      have hf : conflict N cs (neg d) = false := by
        refine (conflict_iff hz hdz.neg).2 ⟨τ, hl, ht, fun x hx => ?_, fun c hc => ?_⟩
        · simp only [neg, List.mem_map] at hx
          obtain ⟨y, hy, rfl⟩ := hx
          rw [vof_neg (hdz y hy).1]
          have h0 := htot y (hdz y hy)
          have h1 : vof τ y ≠ 1 := fun e => hn ⟨y, hy, e⟩
          have := ht.vof y; omega
        · obtain ⟨x, hx, hx1⟩ := hs c hc
          exact (scan_iff (fun n hn => (hz c hc n hn).1)).2 (.inl ⟨x, hx, by omega⟩)
      rw [hf] at h
      cases h.1
    rcases List.mem_cons.1 hc with rfl | hc
    · exact hd
    · refine sat_of_loop hl ht htot pr (cs ++ [d]) (hz.append (AllZ.one hdz)) (fun e he => hp e (List.mem_cons_of_mem _ he)) h.2 (fun e he => ?_) c hc
      rcases List.mem_append.1 he with he | he
      · exact hs e he
      · simp at he; subst he; exact hd
theorem provesS_snoc {N : Nat} {cs pr : List (List Int)} : provesS N cs (pr ++ [[]]) = provesLoop N cs (pr ++ [[]]) := by
  unfold provesS
  simp
theorem provesS_iff {N : Nat} {cs pr : List (List Int)} : provesS N cs pr = true ↔ (∃ p, pr = p ++ [[]]) ∧ provesLoop N cs pr = true := by
  constructor
  · intro h
    have h0 := h
    unfold provesS at h
    split at h
    · cases h
    · rename_i c hc
      split at h
      · cases h
      · rename_i hn
        have : c = [] := List.length_eq_zero_iff.1 (by omega)
        subst this
        obtain ⟨p, hp⟩ := List.getLast?_eq_some_iff.1 hc
        exact ⟨⟨p, hp⟩, h⟩
  · rintro ⟨⟨p, rfl⟩, h⟩
    rw [provesS_snoc]; exact h
theorem provesS_mono {N : Nat} {cs ds pr : List (List Int)} (hz : AllZ N ds) (hp : AllZ N pr) (hs : ∀ c ∈ cs, c ∈ ds) (h : provesS N cs pr = true) : provesS N ds pr = true := by
  rw [provesS_iff] at h ⊢
  exact ⟨h.1, loop_mono pr cs ds hz hp hs h.2⟩
end Go.Proofs.Ythagkljenbhbdaa
