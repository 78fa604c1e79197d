/-
  Terms: the variables of what the reference makes; terms in the place of variables. Plain Lean. No condition of its own. Terms: a slice of nodes in which one is set. Plain Lean. No condition of its own. Trees: how the reference orders them. Plain Lean. No condition of its own. Terms: the variables in increasing order; the examples of the section. Plain Lean. No condition of its own. Terms: values that differ where it does not matter. Plain Lean. No condition of its own. Words: the package's operations and the reference's are the same. Plain Lean. No condition of its own. Package word: Wrap, the fourteen operations, Op. No condition of its own. Package word: Op. No condition of its own. Terms: the reference's makers of nodes, and its words. No condition of its own. The reference's words: quotient, bitwise, halved, doubled. No condition of its own. The reference's Op. No condition of its own. Terms: their values, in the package and in the reference. No condition of its own. Terms: their values in the reference. No condition of its own. Terms: the reference's values, and types. No condition of its own. Terms: the maker's draw. No condition of its own.
-/
import Derived.Test.YtomameefmobnlaaDoorM2
namespace Go.Proofs.YtomameefmobnlaaDoor
open Go
/-- Variables as Make has them: 0 and 1 of words, 2 and 3 of truth values. -/
def VarOK (t : Tr) : Prop := ∀ p ∈ varP t, 0 ≤ p.1 ∧ p.1 < 4 ∧ p.2 = p.1 / 2
theorem varOK_kids {k n m : Int} {kids : List Tr} (h6 : k ≠ 6) (h : ∀ t ∈ kids, VarOK t) : VarOK (.mk k n m kids) := by
  intro p hp
  rw [varP, if_neg h6, List.nil_append] at hp
  have : ∀ l : List Tr, (∀ t ∈ l, VarOK t) → p ∈ varPs l → 0 ≤ p.1 ∧ p.1 < 4 ∧ p.2 = p.1 / 2 := by
    intro l
    induction l with
    | nil => intro _ h; simp [varPs] at h
    | cons t l ih =>
      intro h1 h2
      rw [varPs] at h2
      rcases List.mem_append.1 h2 with h3 | h3
      · exact h1 t (by simp) p h3
      · exact ih (fun t ht => h1 t (by simp [ht])) h3
  exact this kids h hp
theorem make_vars (l : List Int) : ∀ (d : Nat) {kind : Int} (_ : kind = 0 ∨ kind = 1) (a f : Int), VarOK (makeS l d kind a f).1 := by
  have leaf : ∀ {kind : Int} (_ : kind = 0 ∨ kind = 1) (a f : Int), VarOK (leafS l kind a f).1 := by
    intro kind hk a f
    have h1 := atS_bound (l := l) (i := a + 2) (most := 2) (by omega)
    unfold leafS
    split
    · intro p hp
      simp [varP, varPs] at hp
      rw [hp]
      simp only
      omega
    · split
      · exact varOK_kids (by decide) fun t h => by cases h
      · exact varOK_kids (by decide) fun t h => by cases h
  intro d
  induction d with
  | zero => intro kind hk a f; exact leaf hk a f
  | succ d ih =>
    intro kind hk a f
    rw [makeS]
    split
    · exact leaf hk a f
    split
    · refine varOK_kids (by decide) fun t h => ?_
      simp only [List.mem_cons, List.not_mem_nil, or_false] at h
      rcases h with rfl | rfl | rfl
      · exact ih (.inr rfl) _ _
      · exact ih hk _ _
      · exact ih hk _ _
    split
    · refine varOK_kids (by decide) fun t h => ?_
      rw [List.mem_singleton.1 h]; exact ih (.inr rfl) _ _
    split
    · refine varOK_kids (by decide) fun t h => ?_
      have hs : (if atS l (a + 2) 4 ≥ 2 then (1 : Int) else 0) = 0 ∨ (if atS l (a + 2) 4 ≥ 2 then (1 : Int) else 0) = 1 := by split <;> simp
      simp only [List.mem_cons, List.not_mem_nil, or_false] at h
      rcases h with rfl | rfl
      · exact ih hs _ _
      · exact ih hs _ _
    · refine varOK_kids (by decide) fun t h => ?_
      simp only [List.mem_cons, List.not_mem_nil, or_false] at h
      rcases h with rfl | rfl
      · exact ih (.inl rfl) _ _
      · exact ih (.inl rfl) _ _
theorem term_vars (l : List Int) (kind : Int) : VarOK (termS l kind) := by
  have h := aroundS_bound (n := kind) (most := 2) (by omega)
  exact make_vars l 4 (by omega) 0 14
theorem aget_put : ∀ (mp : List (Int × Int)) (n m j : Int), aget (aput mp n m) j = if j = n then some m else aget mp j
  | [], n, m, j => by simp [aput, aget]
  | (k, v) :: r, n, m, j => by
    rw [aput]
    by_cases e : n = k
    · subst e
      rw [if_pos rfl, aget, aget]
      split <;> rfl
    · rw [if_neg e, aget, aget, aget_put r n m j]
      by_cases e2 : j = k
      · subst e2
        rw [if_pos rfl, if_pos rfl, if_neg (fun h => e h.symm)]
      · rw [if_neg e2, if_neg e2]
theorem add_ok {g : Int → Int} : ∀ (vs mp : List (Int × Int)), (∀ p ∈ vs, p.2 = g p.1) → (∀ j m, aget mp j = some m → m = g j) → ∃ mp', addAll vs mp = some mp'
  | [], mp, _, _ => ⟨mp, rfl⟩
  | (n, m) :: vs, mp, h1, h2 => by
    have hm : m = g n := h1 (n, m) (by simp)
    rw [addAll, if_neg]
    · refine add_ok vs _ (fun p hp => h1 p (by simp [hp])) fun j m' hj => ?_
      rw [aget_put] at hj
      split at hj
      · rename_i e
        cases hj
        rw [e]; exact hm
      · exact h2 j m' hj
    · cases ha : aget mp n with
      | none => simp
      | some m' => simp [h2 n m' ha, hm]
theorem fit_ok {t : Tr} (h : VarOK t) : fitS t = true := by
  obtain ⟨mp', e⟩ := add_ok (g := fun n => n / 2) (varP t) [] (fun p hp => (h p hp).2.2) (fun j m h => by simp [aget] at h)
  rw [fitS, e]; rfl
theorem valid_term {k : Int} {t : Tr} (h : Wt k t) (hv : VarOK t) : validS t = k := by
  rw [validS, wt_shaped h, fit_ok hv, h.type]; rfl
mutual
/-- Terms in the place of variables. -/
def putS (l : List Tr) : Tr → Tr
  | .mk k n m kids =>
    if k = 6 then (if n < l.length ∧ validS (l.getD n.toNat (.mk 0 0 0 [])) = m then l.getD n.toNat (.mk 0 0 0 []) else .mk k n m kids)
    else .mk k n m (putSs l kids)
def putSs (l : List Tr) : List Tr → List Tr
  | [] => []
  | t :: ts => putS l t :: putSs l ts
end
theorem valid_wt {t : Tr} {k : Int} (h : validS t = k) (hk : 0 ≤ k) : Wt k t := by
  unfold validS at h
  split at h
  · rename_i hs
    rw [Bool.and_eq_true] at hs
    have := shaped_wt t hs.1
    rw [h] at this; exact this
  · omega
theorem put_wt (l : List Tr) {k : Int} {t : Tr} (h : Wt k t) : Wt k (putS l t) := by
  induction h with
  | num h1 h2 => rw [putS, if_neg (by decide)]; exact .num h1 h2
  | truth h1 h2 => rw [putS, if_neg (by decide)]; exact .truth h1 h2
  | var h1 h2 h3 =>
    rw [putS, if_pos rfl]
    split
    · rename_i h
      exact valid_wt h.2 (by omega)
    · exact .var h1 h2 h3
  | word h1 h2 ha hb iha ihb => rw [putS, if_neg (by decide)]; exact .word h1 h2 iha ihb
  | comp h1 h2 ha hb iha ihb => rw [putS, if_neg (by decide)]; exact .comp h1 h2 iha ihb
  | both h1 h2 ha hb iha ihb => rw [putS, if_neg (by decide)]; exact .both h1 h2 iha ihb
  | not ha ih => rw [putS, if_neg (by decide)]; exact .not ih
  | cond hc ha hb ihc iha ihb => rw [putS, if_neg (by decide)]; exact .cond ihc iha ihb
/-- The value of a term depends on its variables' values alone. -/
theorem eval_congr {k : Int} {t : Tr} (h : Wt k t) {va vb : List Int} (hv : ∀ p ∈ varP t, valAt va p.1 p.2 = valAt vb p.1 p.2) : evalS va t = evalS vb t := by
  induction h with
  | num => rfl
  | truth => rfl
  | var h1 h2 h3 =>
    rename_i n m
    have e : ∀ v, evalS v (.mk 6 n m []) = valAt v n m := fun v => by simp [evalS]
    rw [e, e]
    exact hv (n, m) (by rw [varP, if_pos rfl]; simp)
  | word h1 h2 ha hb iha ihb =>
    rename_i op a b
    have e : ∀ v, evalS v (.mk 9 op 0 [a, b]) = opW op (wrapS (evalS v a)) (wrapS (evalS v b)) := fun v => by simp [evalS]
    rw [e, e, iha fun p hp => hv p (by simp [varP, varPs, hp]), ihb fun p hp => hv p (by simp [varP, varPs, hp])]
  | comp h1 h2 ha hb iha ihb =>
    rename_i op a b
    have e : ∀ v, evalS v (.mk 9 op 0 [a, b]) = opW op (wrapS (evalS v a)) (wrapS (evalS v b)) := fun v => by simp [evalS]
    rw [e, e, iha fun p hp => hv p (by simp [varP, varPs, hp]), ihb fun p hp => hv p (by simp [varP, varPs, hp])]
  | both h1 h2 ha hb iha ihb =>
    rename_i op a b
    have e : ∀ v, evalS v (.mk 9 op 0 [a, b]) = opW op (wrapS (evalS v a)) (wrapS (evalS v b)) := fun v => by simp [evalS]
    rw [e, e, iha fun p hp => hv p (by simp [varP, varPs, hp]), ihb fun p hp => hv p (by simp [varP, varPs, hp])]
  | not ha ih =>
    rename_i a
    have e : ∀ v, evalS v (.mk 10 0 0 [a]) = if evalS v a = 1 then 0 else 1 := fun v => by simp [evalS]
    rw [e, e, ih fun p hp => hv p (by simp [varP, varPs, hp])]
  | cond hc ha hb ihc iha ihb =>
    rename_i k c a b
    have e : ∀ v, evalS v (.mk 29 0 0 [c, a, b]) = if evalS v c = 1 then evalS v a else evalS v b := fun v => by simp [evalS]
    rw [e, e, ihc fun p hp => hv p (by simp [varP, varPs, hp]), iha fun p hp => hv p (by simp [varP, varPs, hp]), ihb fun p hp => hv p (by simp [varP, varPs, hp])]
/-- .. of one with terms put in. -/
theorem eval_put {k : Int} {t : Tr} (h : Wt k t) (l : List Tr) {va vb : List Int} (hv : ∀ p ∈ varP t, evalS va (putS l (.mk 6 p.1 p.2 [])) = valAt vb p.1 p.2) : evalS va (putS l t) = evalS vb t := by
  induction h with
  | num => simp [putS, putSs, evalS]
  | truth => simp [putS, putSs, evalS]
  | var h1 h2 h3 =>
    rename_i n m
    have e : ∀ v, evalS v (.mk 6 n m []) = valAt v n m := fun v => by simp [evalS]
    rw [e]
    exact hv (n, m) (by rw [varP, if_pos rfl]; simp)
  | word h1 h2 ha hb iha ihb =>
    rename_i op a b
    have e : ∀ v a b, evalS v (.mk 9 op 0 [a, b]) = opW op (wrapS (evalS v a)) (wrapS (evalS v b)) := fun v a b => by simp [evalS]
    rw [putS, if_neg (by decide), putSs, putSs, putSs, e, e, iha fun p hp => hv p (by simp [varP, varPs, hp]), ihb fun p hp => hv p (by simp [varP, varPs, hp])]
  | comp h1 h2 ha hb iha ihb =>
    rename_i op a b
    have e : ∀ v a b, evalS v (.mk 9 op 0 [a, b]) = opW op (wrapS (evalS v a)) (wrapS (evalS v b)) := fun v a b => by simp [evalS]
    rw [putS, if_neg (by decide), putSs, putSs, putSs, e, e, iha fun p hp => hv p (by simp [varP, varPs, hp]), ihb fun p hp => hv p (by simp [varP, varPs, hp])]
  | both h1 h2 ha hb iha ihb =>
    rename_i op a b
    have e : ∀ v a b, evalS v (.mk 9 op 0 [a, b]) = opW op (wrapS (evalS v a)) (wrapS (evalS v b)) := fun v a b => by simp [evalS]
    rw [putS, if_neg (by decide), putSs, putSs, putSs, e, e, iha fun p hp => hv p (by simp [varP, varPs, hp]), ihb fun p hp => hv p (by simp [varP, varPs, hp])]
  | not ha ih =>
    rename_i a
    have e : ∀ v a, evalS v (.mk 10 0 0 [a]) = if evalS v a = 1 then 0 else 1 := fun v a => by simp [evalS]
    rw [putS, if_neg (by decide), putSs, putSs, e, e, ih fun p hp => hv p (by simp [varP, varPs, hp])]
  | cond hc ha hb ihc iha ihb =>
    rename_i k c a b
    have e : ∀ v c a b, evalS v (.mk 29 0 0 [c, a, b]) = if evalS v c = 1 then evalS v a else evalS v b := fun v c a b => by simp [evalS]
    rw [putS, if_neg (by decide), putSs, putSs, putSs, putSs, e, e, ihc fun p hp => hv p (by simp [varP, varPs, hp]), iha fun p hp => hv p (by simp [varP, varPs, hp]), ihb fun p hp => hv p (by simp [varP, varPs, hp])]
end Go.Proofs.YtomameefmobnlaaDoor
namespace Go.Proofs.YtomameefmobnlaaDoor
open Go
theorem cellsTs_take : ∀ (l : List Tr) (n : Nat), (cellsTs l).take (n * 4) = cellsTs (l.take n)
  | [], n => by simp [cellsTs]
  | c :: l, 0 => by simp [cellsTs]
  | c :: l, n + 1 => by
    rw [cellsTs, List.take_succ_cons, cellsTs, show (n + 1) * 4 = (cellsT c).length + n * 4 from by rw [cellsT_length]; omega, List.take_length_add_append, cellsTs_take l n]
theorem cellsTs_drop : ∀ (l : List Tr) (n : Nat), (cellsTs l).drop (n * 4) = cellsTs (l.drop n)
  | [], n => by simp [cellsTs]
  | c :: l, 0 => by simp [cellsTs]
  | c :: l, n + 1 => by
    rw [cellsTs, List.drop_succ_cons, show (n + 1) * 4 = (cellsT c).length + n * 4 from by rw [cellsT_length]; omega, List.drop_length_add_append, cellsTs_drop l n]
theorem cellsTs_set {l : List Tr} {i : Nat} (h : i < l.length) (c : Tr) : (cellsTs l).take (i * 4) ++ (cellsT c ++ (cellsTs l).drop (i * 4 + 4)) = cellsTs (l.set i c) := by
  rw [cellsTs_take, show i * 4 + 4 = (i + 1) * 4 from by omega, cellsTs_drop, List.set_eq_take_append_cons_drop, if_pos h, cellsTs_append, cellsTs]
theorem flat_repT (n : Nat) : (List.replicate n [V.int .i64 0, V.int .i64 0, V.int .i64 0, V.sl 0 []]).flatten = cellsTs (List.replicate n (.mk 0 0 0 [])) := by
  induction n with
  | zero => rfl
  | succ n ih => rw [List.replicate_succ, List.flatten_cons, ih, List.replicate_succ]; rfl
theorem putSs_map (L : List Tr) : ∀ l : List Tr, putSs L l = l.map (putS L)
  | [] => rfl
  | t :: l => by rw [putSs, putSs_map L l]; rfl
end Go.Proofs.YtomameefmobnlaaDoor
namespace Go.Proofs.YtomameefmobnlaaDoor
open Go
def sgn (a b : Int) : Int := if a < b then -1 else if a > b then 1 else 0
theorem sgn_zero {a b : Int} : sgn a b = 0 ↔ a = b := by unfold sgn; (repeat' split) <;> omega
mutual
def cmpT : Tr → Tr → Int
  | .mk k n m l, .mk k' n' m' l' => if k ≠ k' then sgn k k' else if n ≠ n' then sgn n n' else if m ≠ m' then sgn m m' else cmpTs l l'
def cmpTs : List Tr → List Tr → Int
  | [], [] => 0
  | [], _ :: _ => -1
  | _ :: _, [] => 1
  | t :: l, t' :: l' => if cmpT t t' ≠ 0 then cmpT t t' else cmpTs l l'
end
mutual
theorem cmpT_zero : ∀ a b : Tr, cmpT a b = 0 ↔ a = b
  | .mk k n m l, .mk k' n' m' l' => by
    rw [cmpT]
    by_cases h1 : k = k'
    · by_cases h2 : n = n'
      · by_cases h3 : m = m'
        · rw [if_neg (by simpa using h1), if_neg (by simpa using h2), if_neg (by simpa using h3), cmpTs_zero l l']
          subst h1 h2 h3
          simp
        · rw [if_neg (by simpa using h1), if_neg (by simpa using h2), if_pos h3, sgn_zero]
          simp [h3]
      · rw [if_neg (by simpa using h1), if_pos h2, sgn_zero]
        simp [h2]
    · rw [if_pos h1, sgn_zero]
      simp [h1]
theorem cmpTs_zero : ∀ l l' : List Tr, cmpTs l l' = 0 ↔ l = l'
  | [], [] => by simp [cmpTs]
  | [], _ :: _ => by simp [cmpTs]
  | _ :: _, [] => by simp [cmpTs]
  | t :: l, t' :: l' => by
    rw [cmpTs]
    by_cases h : cmpT t t' = 0
    · rw [if_neg (by simpa using h), cmpTs_zero l l']
      rw [cmpT_zero t t'] at h
      simp [h]
    · rw [if_pos h]
      have : t ≠ t' := fun e => h ((cmpT_zero t t').2 e)
      simp [h, this]
end
theorem cmpTs_drop {l l' : List Tr} {i : Nat} (h1 : i < l.length) (h2 : i < l'.length) : cmpTs (l.drop i) (l'.drop i) = if cmpT l[i] l'[i] ≠ 0 then cmpT l[i] l'[i] else cmpTs (l.drop (i + 1)) (l'.drop (i + 1)) := by
  rw [List.drop_eq_getElem_cons h1, List.drop_eq_getElem_cons h2, cmpTs]
theorem cmpTs_end {l l' : List Tr} {i : Nat} (h1 : i ≤ l.length) (h2 : i ≤ l'.length) (h : ¬ (i < l.length ∧ i < l'.length)) : cmpTs (l.drop i) (l'.drop i) = sgn l.length l'.length := by
  by_cases e1 : i = l.length
  · rw [List.drop_eq_nil_of_le (by omega : l.length ≤ i)]
    by_cases e2 : i = l'.length
    · rw [List.drop_eq_nil_of_le (by omega : l'.length ≤ i), cmpTs, sgn, if_neg (by omega), if_neg (by omega)]
    · rw [List.drop_eq_getElem_cons (by omega : i < l'.length), cmpTs, sgn, if_pos (by omega)]
  · have e2 : i = l'.length := by omega
    rw [List.drop_eq_nil_of_le (by omega : l'.length ≤ i), List.drop_eq_getElem_cons (by omega : i < l.length), cmpTs, sgn, if_neg (by omega), if_pos (by omega)]
end Go.Proofs.YtomameefmobnlaaDoor
namespace Go.Proofs.YtomameefmobnlaaDoor
open Go
theorem keys_mk (ns : List Int) : keysS (mkK ns) = ns.mergeSort leI := by
  unfold keysS mkK
  rw [List.map_map]
  congr 1
  exact List.map_id' ns
theorem addK_nodup {ns : List Int} (h : ns.Nodup) (n : Int) : (addK ns n).Nodup := by
  unfold addK
  split
  · exact h
  · rename_i hn
    exact List.nodup_append.2 ⟨h, by simp, fun a ha b hb => by simp at hb; subst hb; exact fun e => hn (e ▸ ha)⟩
theorem mem_addK {ns : List Int} {n x : Int} : x ∈ addK ns n ↔ x ∈ ns ∨ x = n := by
  unfold addK
  split
  · rename_i h; exact ⟨.inl, fun h2 => h2.elim id fun e => e ▸ h⟩
  · simp
mutual
theorem visK_ok : ∀ (t : Tr) (ns : List Int), ns.Nodup → (visK t ns).Nodup ∧ ∀ x, x ∈ visK t ns ↔ x ∈ ns ∨ ∃ p ∈ varP t, p.1 = x
  | .mk k n m l, ns, h => by
    rw [visK]
    by_cases c : k = 6
    · rw [if_pos c]
      obtain ⟨a, b⟩ := visKs_ok l (addK ns n) (addK_nodup h n)
      refine ⟨a, fun x => ?_⟩
      rw [b x, mem_addK, varP, if_pos c]
      simp only [List.mem_append, List.mem_singleton]
      constructor
      · rintro ((h | rfl) | ⟨p, hp, rfl⟩)
        · exact .inl h
        · exact .inr ⟨(x, m), .inl rfl, rfl⟩
        · exact .inr ⟨p, .inr hp, rfl⟩
      · rintro (h | ⟨p, rfl | hp, rfl⟩)
        · exact .inl (.inl h)
        · exact .inl (.inr rfl)
        · exact .inr ⟨p, hp, rfl⟩
    · rw [if_neg c, varP, if_neg c]
      exact visKs_ok l ns h
theorem visKs_ok : ∀ (l : List Tr) (ns : List Int), ns.Nodup → (visKs l ns).Nodup ∧ ∀ x, x ∈ visKs l ns ↔ x ∈ ns ∨ ∃ p ∈ varPs l, p.1 = x
  | [], ns, h => by rw [visKs, varPs]; exact ⟨h, fun x => by simp⟩
  | t :: l, ns, h => by
    rw [visKs, varPs]
    obtain ⟨a, b⟩ := visK_ok t ns h
    obtain ⟨c, d⟩ := visKs_ok l _ a
    refine ⟨c, fun x => ?_⟩
    rw [d x, b x]
    simp only [List.mem_append]
    constructor
    · rintro ((h | ⟨p, hp, rfl⟩) | ⟨p, hp, rfl⟩)
      · exact .inl h
      · exact .inr ⟨p, .inl hp, rfl⟩
      · exact .inr ⟨p, .inr hp, rfl⟩
    · rintro (h | ⟨p, hp | hp, rfl⟩)
      · exact .inl (.inl h)
      · exact .inl (.inr ⟨p, hp, rfl⟩)
      · exact .inr ⟨p, hp, rfl⟩
end
/-- The numbers from 0 to 63 that are there. -/
def upTo (P : Int → Bool) (n : Nat) : List Int := ((List.range n).map fun (i : Nat) => (i : Int)).filter P
theorem upTo_sorted (P : Int → Bool) (n : Nat) : (upTo P n).Pairwise (· < ·) := by
  refine List.Pairwise.filter _ (List.pairwise_map.2 ?_)
  exact List.pairwise_lt_range.imp fun h => by omega
theorem mem_upTo {P : Int → Bool} {n : Nat} {x : Int} : x ∈ upTo P n ↔ (0 ≤ x ∧ x < n) ∧ P x = true := by
  unfold upTo
  rw [List.mem_filter, List.mem_map]
  constructor
  · rintro ⟨⟨i, hi, rfl⟩, h⟩
    have := List.mem_range.1 hi
    exact ⟨by omega, h⟩
  · rintro ⟨⟨h1, h2⟩, h⟩
    exact ⟨⟨x.toNat, List.mem_range.2 (by omega), by omega⟩, h⟩
/-- What the reference's Vars answers. -/
def refVars (t : Tr) : List Int := upTo (fun n => decide (∃ p ∈ varP t, p.1 = n)) 64
theorem vars_eq {t : Tr} (h : ∀ p ∈ varP t, 0 ≤ p.1 ∧ p.1 < 64) : keysS (mkK (visK t [])) = refVars t := by
  obtain ⟨a, b⟩ := visK_ok t [] List.nodup_nil
  have hs := upTo_sorted (fun n => decide (∃ p ∈ varP t, p.1 = n)) 64
  have hp : (visK t []).Perm (refVars t) := by
    refine (List.perm_ext_iff_of_nodup a (hs.imp fun h => by omega)).2 fun x => ?_
    rw [b x, mem_upTo, decide_eq_true_eq]
    simp only [List.not_mem_nil, false_or]
    exact ⟨fun ⟨p, hp, e⟩ => ⟨by have := h p hp; omega, p, hp, e⟩, fun h => h.2⟩
  rw [keys_mk, mergeSort_of_perm_i hp]
  refine List.mergeSort_of_pairwise ?_
  exact hs.imp fun h => by simp only [leI, decide_eq_true_eq]; omega
abbrev lx : Tr := .mk 6 0 0 []
abbrev lc : Tr := .mk 6 1 1 []
abbrev lnum : Tr := .mk 4 7 0 []
abbrev lsum : Tr := .mk 9 0 0 [lx, lnum]
abbrev lzero : Tr := .mk 9 3 0 [lx, .mk 4 0 0 []]
abbrev lchoice : Tr := .mk 29 0 0 [lc, lx, .mk 4 2 0 []]
abbrev llt : Tr := .mk 9 10 0 [lx, .mk 4 3 0 []]
abbrev lless : Tr := .mk 10 0 0 [llt]
theorem wx : Wt 0 lx := .var (by decide) (by decide) (.inl rfl)
theorem wsum : Wt 0 lsum := .word (by decide) (by decide) wx (.num (by decide) (by decide))
theorem wzero : Wt 0 lzero := .word (by decide) (by decide) wx (.num (by decide) (by decide))
theorem wchoice : Wt 0 lchoice := .cond (.var (by decide) (by decide) (.inr rfl)) wx (.num (by decide) (by decide))
theorem wless : Wt 1 lless := .not (.comp (by decide) (by decide) wx (.num (by decide) (by decide)))
theorem e1 : evalS [3] lsum = -6 := by decide
theorem e2 : evalS [3] lzero = 0 := by decide
theorem e3 : evalS [5, 1] lchoice = 5 := by decide
theorem e4 : evalS [5] lchoice = 2 := by decide
theorem e5 : evalS [19] lless = 1 := by decide
theorem e6 : validS lchoice = 0 := by decide
theorem e7 : validS (.mk 29 0 0 [lx, lx, lnum]) = -1 := by decide
theorem e8 : keysS (mkK (visK lchoice [])) = [0, 1] := by
  rw [vars_eq (by decide)]
  decide
theorem e9 : putS [lnum] lsum = .mk 9 0 0 [lnum, lnum] := by rfl
theorem e10 : cmpT (.mk 9 0 0 [lnum, lnum]) (.mk 9 0 0 [lnum, lnum]) = 0 := by decide
end Go.Proofs.YtomameefmobnlaaDoor
namespace Go.Proofs.YtomameefmobnlaaDoor
open Go
/-- The value of a variable is the same. -/
def goodAt (vals xs : List Int) (k : Int) : Prop := valAt xs k (k / 2) = valAt vals k (k / 2)
theorem valAt_set_ne {xs : List Int} {kk : Nat} {v j m : Int} (hj : 0 ≤ j) (h : j ≠ kk) : valAt (xs.set kk v) j m = valAt xs j m := by
  have : kk ≠ j.toNat := by omega
  have e : (xs.set kk v).getD j.toNat 0 = xs.getD j.toNat 0 := by simp only [List.getD, List.getElem?_set_ne this]
  unfold valAt
  rw [e]
theorem valAt_set {xs : List Int} {kk : Nat} (h : kk < xs.length) {v m : Int} : valAt (xs.set kk v) kk m = if m = 1 then (if v ≠ 0 then 1 else 0) else wrapS v := by
  unfold valAt
  simp only [Int.toNat_natCast, List.getD, List.getElem?_set_self h, Option.getD_some]
theorem valAt_get {xs : List Int} {kk : Nat} (h : kk < xs.length) {m : Int} : valAt xs kk m = if m = 1 then (if xs[kk] ≠ 0 then 1 else 0) else wrapS xs[kk] := by
  unfold valAt
  simp only [Int.toNat_natCast, List.getD, List.getElem?_eq_getElem h, Option.getD_some]
theorem good_word {vals xs : List Int} {kk : Nat} (hk : kk < 2) (h1 : vals.length = 4) (h2 : xs.length = 4) (b : Int) : goodAt vals (xs.set kk (vals[kk] + 16 * b)) kk := by
  unfold goodAt
  rw [valAt_set (by omega), valAt_get (by omega), if_neg (by omega), if_neg (by omega), wrapS_eq, wrapS_eq]
  omega
theorem good_truth {vals xs : List Int} {kk : Nat} (hk : 2 ≤ kk) (hk4 : kk < 4) (h1 : vals.length = 4) (h2 : xs.length = 4) {v : Int} (hv : v ≠ 0) (hv2 : vals[kk] ≠ 0) : goodAt vals (xs.set kk v) kk := by
  unfold goodAt
  rw [valAt_set (by omega), valAt_get (by omega), if_pos (by omega), if_pos hv, if_pos (by omega), if_pos hv2]
theorem good_same {vals xs : List Int} {kk : Nat} (hk4 : kk < 4) (h1 : vals.length = 4) (h2 : xs.length = 4) : goodAt vals (xs.set kk vals[kk]) kk := by
  unfold goodAt
  rw [valAt_set (by omega), valAt_get (by omega)]
/-- One more. -/
theorem good_step {vals xs : List Int} {vs : List Int} {i kk : Nat} (hi : i < vs.length) (hv : vs[i] = kk) (hp : ∀ k ∈ vs, 0 ≤ k) {v : Int} (hg : goodAt vals (xs.set kk v) kk) (h : ∀ k ∈ vs.take i, goodAt vals xs k) : ∀ k ∈ vs.take (i + 1), goodAt vals (xs.set kk v) k := by
  intro k hk
  by_cases e : k = kk
  · rw [e]; exact hg
  · rw [List.take_succ_eq_append_getElem hi, List.mem_append, List.mem_singleton] at hk
    rcases hk with hk | hk
    · have := h k hk
      unfold goodAt at this ⊢
      rw [valAt_set_ne (hp k (List.mem_of_mem_take hk)) e]
      exact this
    · exact absurd (hk.trans hv) e
theorem valuesS_length (n : Int) : (valuesS n).length = 4 := rfl
theorem valuesS_bound (n : Int) : ∀ x ∈ valuesS n, -8 ≤ x ∧ x ≤ 7 := by
  intro x hx
  have hb := aroundS_bound (n := n) (most := 1024) (by omega)
  unfold valuesS at hx
  generalize aroundS n 1024 = k at *
  obtain ⟨k, rfl⟩ := Int.eq_ofNat_of_zero_le hb.1
  have e1 : (k : Int).tdiv 16 = ((k / 16 : Nat) : Int) := by rw [Int.tdiv_eq_ediv_of_nonneg (by omega)]; omega
  have e2 : (k : Int).tdiv 256 = ((k / 256 : Nat) : Int) := by rw [Int.tdiv_eq_ediv_of_nonneg (by omega)]; omega
  have e3 : (k : Int).tdiv 512 = ((k / 512 : Nat) : Int) := by rw [Int.tdiv_eq_ediv_of_nonneg (by omega)]; omega
  rw [e1, e2, e3] at hx
  simp only [List.mem_cons, List.not_mem_nil, or_false] at hx
  rw [Int.tmod_eq_emod_of_nonneg (by omega), Int.tmod_eq_emod_of_nonneg (by omega), Int.tmod_eq_emod_of_nonneg (by omega)] at hx
  omega
theorem varsS_range {t : Tr} (h : VarOK t) : ∀ k ∈ keysS (mkK (visK t [])), 0 ≤ k ∧ k < 4 := by
  intro k hk
  rw [vars_eq (fun p hp => ⟨(h p hp).1, by have := (h p hp).2.1; omega⟩), refVars, mem_upTo, decide_eq_true_eq] at hk
  obtain ⟨_, p, hp, rfl⟩ := hk
  exact ⟨(h p hp).1, (h p hp).2.1⟩
theorem varsS_mem {t : Tr} (h : VarOK t) {p : Int × Int} (hp : p ∈ varP t) : p.1 ∈ keysS (mkK (visK t [])) := by
  rw [vars_eq (fun p hp => ⟨(h p hp).1, by have := (h p hp).2.1; omega⟩), refVars, mem_upTo, decide_eq_true_eq]
  exact ⟨⟨(h p hp).1, by have := (h p hp).2.1; omega⟩, p, hp, rfl⟩
/-- The same value. -/
theorem eval_good {k : Int} {t : Tr} (hw : Wt k t) (h : VarOK t) {vals xs : List Int} (hg : ∀ k ∈ keysS (mkK (visK t [])), goodAt vals xs k) : evalS vals t = evalS xs t := by
  refine eval_congr hw fun p hp => ?_
  have := hg p.1 (varsS_mem h hp)
  unfold goodAt at this
  rw [(h p hp).2.2]
  exact this.symm
end Go.Proofs.YtomameefmobnlaaDoor
namespace Go.Proofs.YtomameefmobnlaaDoor
open Go
def words : List Int := [-8, -7, -6, -5, -4, -3, -2, -1, 0, 1, 2, 3, 4, 5, 6, 7]
theorem mem_words {a : Int} (h1 : -8 ≤ a) (h2 : a ≤ 7) : a ∈ words := by
  unfold words
  simp only [List.mem_cons, List.not_mem_nil, or_false]
  omega
theorem and15 (n : Int) : andI .i64 n 15 = n % 16 := by
  have h : (BitVec.ofInt (IntKind.bits .i64) n &&& BitVec.ofInt (IntKind.bits .i64) 15).toNat = (n % 16).toNat := by
    rw [BitVec.toNat_and]
    show (BitVec.ofInt 64 n).toNat &&& (BitVec.ofInt 64 15).toNat = _
    rw [BitVec.toNat_ofInt, BitVec.toNat_ofInt, show ((15 : Int) % ((2 ^ 64 : Nat) : Int)).toNat = 2 ^ 4 - 1 from by decide, Nat.and_two_pow_sub_one_eq_mod]
    omega
  rw [andI, h, wrapI (by omega)]
  omega
theorem and_words : ∀ a ∈ words, ∀ b ∈ words, wrapS (andI .i64 a b) = wrapS ((bitsW a &&& bitsW b : Nat) : Int) := by decide +kernel
theorem or_words : ∀ a ∈ words, ∀ b ∈ words, wrapS (orI .i64 a b) = wrapS ((bitsW a ||| bitsW b : Nat) : Int) := by decide +kernel
theorem xor_words : ∀ a ∈ words, ∀ b ∈ words, wrapS (xorI .i64 a b) = wrapS ((bitsW a ^^^ bitsW b : Nat) : Int) := by decide +kernel
theorem small_words : ∀ a ∈ words, ∀ b ∈ words, -8 ≤ andI .i64 a b ∧ andI .i64 a b ≤ 7 ∧ -8 ≤ orI .i64 a b ∧ orI .i64 a b ≤ 7 ∧ -8 ≤ xorI .i64 a b ∧ xorI .i64 a b ≤ 7 := by decide +kernel
/-- The reference's loop over four bits. -/
def bitwL (one two both : Bool) : Nat → Nat → Nat → Nat → Nat → Nat
  | 0, _, _, sum, _ => sum
  | i + 1, x, y, sum, v => bitwL one two both i (x / 2) (y / 2) (if (x % 2 == 1 && y % 2 == 1 && both) || (x % 2 == 1 && !(y % 2 == 1) && one) || (!(x % 2 == 1) && y % 2 == 1 && two) then sum + v else sum) (v * 2)
def bitwS (a b : Int) (one two both : Bool) : Int := wrapS (bitwL one two both 4 (bitsW a) (bitsW b) 0 1 : Nat)
theorem bitw_and : ∀ a ∈ words, ∀ b ∈ words, bitwS a b false false true = opW 5 a b := by decide +kernel
theorem bitw_or : ∀ a ∈ words, ∀ b ∈ words, bitwS a b true true true = opW 6 a b := by decide +kernel
theorem bitw_xor : ∀ a ∈ words, ∀ b ∈ words, bitwS a b true true false = opW 7 a b := by decide +kernel
def halvS : Nat → Int → Int
  | 0, a => a
  | n + 1, a => halvS n (if a < 0 then -((1 - a).tdiv 2) else a.tdiv 2)
def dblS : Nat → Int → Int
  | 0, a => a
  | n + 1, a => dblS n (wrapS (a + a))
theorem halv_words : ∀ a ∈ words, ∀ b ∈ words, halvS (bitsW b % 4) a = opW 9 a b := by decide +kernel
theorem dbl_words : ∀ a ∈ words, ∀ b ∈ words, dblS (bitsW b % 4) a = opW 8 a b := by decide +kernel
end Go.Proofs.YtomameefmobnlaaDoor
namespace Go.Proofs.YtomameefmobnlaaDoor
open Go Go.RowKit

attribute [local irreducible] EvOps EvC
attribute [local go_sem] List.getElem?_toArray getS List.flatten_cons List.flatten_nil List.contains_nil and15
set_option linter.unusedSimpArgs false
set_option linter.unusedVariables false
set_option maxRecDepth 100000
set_option maxHeartbeats 4000000
theorem bitsW_eq (b : Int) : ((bitsW b : Nat) : Int) = b % 16 := by
  unfold bitsW
  have := wrapS_eq b
  omega
theorem wWrap_ev (n : Int) (hn : Big n) (sto : Sto) (lo : Nat) (hlo : lo ≤ sto.length) : CallEv Tryd.prog tab B0 22 [.v (VI n)] sto lo (.v (VI (wrapS n))) sto := by
  obtain ⟨hn1, hn2⟩ := hn
  rw [wrapS_eq]
  by_cases c : n % 16 > 7
  · rw [show (n + 8) % 16 - 8 = n % 16 - 16 from by omega]
    refine CallEv.intro ⟨_, _, [], Tryd.func22, rfl, by decide, ?_⟩; simp only [go_sem, Tryd.ntmps22]
    repeat' (first | (refine go ⟨?_⟩) | (fail) | ((first | (refine bsp ?_ ?_) | (refine csp ?_ ?_)); all_goals (intro hb; (fail_if_success (cases hb; done)); (try simp only [decide_eq_true_eq, decide_eq_false_iff_not, beq_iff_eq, bne_iff_ne, ne_eq, beq_eq_false_iff_ne, bne_eq_false_iff_eq, Bool.not_eq_true', Bool.not_eq_false', Bool.and_eq_true, Bool.or_eq_true, Decidable.not_not] at hb); (try simp only [go_sem]))))
    refine ⟨by first | exact .inr rfl | exact .inl rfl, .inl ⟨[], _, (by dsimp only [Tryd.f22]; exact sv), ?_, by simp⟩⟩
    rfl
  · rw [show (n + 8) % 16 - 8 = n % 16 from by omega]
    refine CallEv.intro ⟨_, _, [], Tryd.func22, rfl, by decide, ?_⟩; simp only [go_sem, Tryd.ntmps22]
    repeat' (first | (refine go ⟨?_⟩) | (fail) | ((first | (refine bsp ?_ ?_) | (refine csp ?_ ?_)); all_goals (intro hb; (fail_if_success (cases hb; done)); (try simp only [decide_eq_true_eq, decide_eq_false_iff_not, beq_iff_eq, bne_iff_ne, ne_eq, beq_eq_false_iff_ne, bne_eq_false_iff_eq, Bool.not_eq_true', Bool.not_eq_false', Bool.and_eq_true, Bool.or_eq_true, Decidable.not_not] at hb); (try simp only [go_sem]))))
    refine ⟨by first | exact .inr rfl | exact .inl rfl, .inl ⟨[], _, (by dsimp only [Tryd.f22]; exact sv), ?_, by simp⟩⟩
    rfl
theorem wBits_ev (n : Int) (hn : Big n) (sto : Sto) (lo : Nat) (hlo : lo ≤ sto.length) : CallEv Tryd.prog tab B0 135 [.v (VI n)] sto lo (.v (VI (bitsW n))) sto := by
  rw [bitsW_eq]
  refine CallEv.intro ⟨_, _, [], Tryd.func135, rfl, by decide, ?_⟩; simp only [go_sem, Tryd.ntmps135]
  repeat' (first | (refine go ⟨?_⟩) | (fail) | ((first | (refine bsp ?_ ?_) | (refine csp ?_ ?_)); all_goals (intro hb; (fail_if_success (cases hb; done)); (try simp only [decide_eq_true_eq, decide_eq_false_iff_not, beq_iff_eq, bne_iff_ne, ne_eq, beq_eq_false_iff_ne, bne_eq_false_iff_eq, Bool.not_eq_true', Bool.not_eq_false', Bool.and_eq_true, Bool.or_eq_true, Decidable.not_not] at hb); (try simp only [go_sem]))))
  refine ⟨by first | exact .inr rfl | exact .inl rfl, .inl ⟨[], _, (by dsimp only [Tryd.f135]; exact sv), ?_, by simp⟩⟩
  rfl
theorem wShift_ev (n : Int) (hn : Big n) (sto : Sto) (lo : Nat) (hlo : lo ≤ sto.length) : CallEv Tryd.prog tab B0 128 [.v (VI n)] sto lo (.v (VU (bitsW n % 4))) sto := by
  have hb := fun sto lo hlo => wBits_ev n hn sto lo hlo
  have h16 : bitsW n < 16 := by have := bitsW_eq n; omega
  generalize bitsW n = w at *
  have e : ((w : Int)).tmod 4 = ((w % 4 : Nat) : Int) := by rw [Int.tmod_eq_emod_of_nonneg (by omega)]; omega
  refine CallEv.intro ⟨_, _, [], Tryd.func128, rfl, by decide, ?_⟩; simp only [go_sem, Tryd.ntmps128]
  repeat' (first | (refine go ⟨?_⟩) | (((refine call ?_); (refine ⟨_, hb _ _ (by first | omega | (simp; done) | (simp; omega)), ?_⟩); (try simp only [go_sem]))) | ((first | (refine bsp ?_ ?_) | (refine csp ?_ ?_)); all_goals (intro hb; (fail_if_success (cases hb; done)); (try simp only [decide_eq_true_eq, decide_eq_false_iff_not, beq_iff_eq, bne_iff_ne, ne_eq, beq_eq_false_iff_ne, bne_eq_false_iff_eq, Bool.not_eq_true', Bool.not_eq_false', Bool.and_eq_true, Bool.or_eq_true, Decidable.not_not] at hb); (try simp only [go_sem]))))
  refine ⟨by first | exact .inr rfl | exact .inl rfl, .inl ⟨[], _, (by dsimp only [Tryd.f128]; exact sv), ?_, by simp⟩⟩
  rw [e]
theorem wNumber_ev (b : Bool) (sto : Sto) (lo : Nat) (hlo : lo ≤ sto.length) : CallEv Tryd.prog tab B0 131 [.v (.bool b)] sto lo (.v (VI (if b then 1 else 0))) sto := by
  cases b
  all_goals
    refine CallEv.intro ⟨_, _, [], Tryd.func131, rfl, by decide, ?_⟩; simp only [go_sem, Tryd.ntmps131]
    repeat' (first | (refine go ⟨?_⟩) | (fail) | ((first | (refine bsp ?_ ?_) | (refine csp ?_ ?_)); all_goals (intro hb; (fail_if_success (cases hb; done)); (try simp only [decide_eq_true_eq, decide_eq_false_iff_not, beq_iff_eq, bne_iff_ne, ne_eq, beq_eq_false_iff_ne, bne_eq_false_iff_eq, Bool.not_eq_true', Bool.not_eq_false', Bool.and_eq_true, Bool.or_eq_true, Decidable.not_not] at hb); (try simp only [go_sem]))))
    refine ⟨by first | exact .inr rfl | exact .inl rfl, .inl ⟨[], _, (by dsimp only [Tryd.f131]; exact sv), ?_, by simp⟩⟩
    rfl
theorem mul_small {a b : Int} (ha : Wd a) (hb : Wd b) : -64 ≤ a * b ∧ a * b ≤ 64 := by
  have h : ∀ a ∈ words, ∀ b ∈ words, -64 ≤ a * b ∧ a * b ≤ 64 := by decide +kernel
  exact h a (mem_words ha.1 ha.2) b (mem_words hb.1 hb.2)
theorem div_small {a b : Int} (ha : Wd a) (hb : Wd b) : -8 ≤ a.tdiv b ∧ a.tdiv b ≤ 8 := by
  have h : ∀ a ∈ words, ∀ b ∈ words, -8 ≤ a.tdiv b ∧ a.tdiv b ≤ 8 := by decide +kernel
  exact h a (mem_words ha.1 ha.2) b (mem_words hb.1 hb.2)
theorem do0_ev (a b : Int) (ha : Wd a) (hb : Wd b) (sto : Sto) (lo : Nat) (hlo : lo ≤ sto.length) : CallEv Tryd.prog tab B0 119 [.v (VI a), .v (VI b)] sto lo (.v (VI (a + b))) sto := by
  obtain ⟨ha1, ha2⟩ := ha
  obtain ⟨hb1, hb2⟩ := hb
  refine CallEv.intro ⟨_, _, [], Tryd.func119, rfl, by decide, ?_⟩; simp only [go_sem, Tryd.ntmps119]
  repeat' (first | (refine go ⟨?_⟩) | (fail) | ((first | (refine bsp ?_ ?_) | (refine csp ?_ ?_)); all_goals (intro hb; (fail_if_success (cases hb; done)); (try simp only [decide_eq_true_eq, decide_eq_false_iff_not, beq_iff_eq, bne_iff_ne, ne_eq, beq_eq_false_iff_ne, bne_eq_false_iff_eq, Bool.not_eq_true', Bool.not_eq_false', Bool.and_eq_true, Bool.or_eq_true, Decidable.not_not] at hb); (try simp only [go_sem]))))
  refine ⟨by first | exact .inr rfl | exact .inl rfl, .inl ⟨[], _, (by dsimp only [Tryd.f119]; exact sv), ?_, by simp⟩⟩
  rfl
theorem do1_ev (a b : Int) (ha : Wd a) (hb : Wd b) (sto : Sto) (lo : Nat) (hlo : lo ≤ sto.length) : CallEv Tryd.prog tab B0 120 [.v (VI a), .v (VI b)] sto lo (.v (VI (a - b))) sto := by
  obtain ⟨ha1, ha2⟩ := ha
  obtain ⟨hb1, hb2⟩ := hb
  refine CallEv.intro ⟨_, _, [], Tryd.func120, rfl, by decide, ?_⟩; simp only [go_sem, Tryd.ntmps120]
  repeat' (first | (refine go ⟨?_⟩) | (fail) | ((first | (refine bsp ?_ ?_) | (refine csp ?_ ?_)); all_goals (intro hb; (fail_if_success (cases hb; done)); (try simp only [decide_eq_true_eq, decide_eq_false_iff_not, beq_iff_eq, bne_iff_ne, ne_eq, beq_eq_false_iff_ne, bne_eq_false_iff_eq, Bool.not_eq_true', Bool.not_eq_false', Bool.and_eq_true, Bool.or_eq_true, Decidable.not_not] at hb); (try simp only [go_sem]))))
  refine ⟨by first | exact .inr rfl | exact .inl rfl, .inl ⟨[], _, (by dsimp only [Tryd.f120]; exact sv), ?_, by simp⟩⟩
  rfl
theorem do2_ev (a b : Int) (ha : Wd a) (hb : Wd b) (sto : Sto) (lo : Nat) (hlo : lo ≤ sto.length) : CallEv Tryd.prog tab B0 121 [.v (VI a), .v (VI b)] sto lo (.v (VI (a * b))) sto := by
  have hm := mul_small ha hb
  obtain ⟨hm1, hm2⟩ := hm
  obtain ⟨ha1, ha2⟩ := ha
  obtain ⟨hb1, hb2⟩ := hb
  refine CallEv.intro ⟨_, _, [], Tryd.func121, rfl, by decide, ?_⟩; simp only [go_sem, Tryd.ntmps121]
  repeat' (first | (refine go ⟨?_⟩) | (fail) | ((first | (refine bsp ?_ ?_) | (refine csp ?_ ?_)); all_goals (intro hb; (fail_if_success (cases hb; done)); (try simp only [decide_eq_true_eq, decide_eq_false_iff_not, beq_iff_eq, bne_iff_ne, ne_eq, beq_eq_false_iff_ne, bne_eq_false_iff_eq, Bool.not_eq_true', Bool.not_eq_false', Bool.and_eq_true, Bool.or_eq_true, Decidable.not_not] at hb); (try simp only [go_sem]))))
  refine ⟨by first | exact .inr rfl | exact .inl rfl, .inl ⟨[], _, (by dsimp only [Tryd.f121]; exact sv), ?_, by simp⟩⟩
  rfl
theorem do3_ev (a b : Int) (ha : Wd a) (hb : Wd b) (h0 : b ≠ 0) (sto : Sto) (lo : Nat) (hlo : lo ≤ sto.length) : CallEv Tryd.prog tab B0 122 [.v (VI a), .v (VI b)] sto lo (.v (VI (a.tdiv b))) sto := by
  have hm := div_small ha hb
  obtain ⟨hm1, hm2⟩ := hm
  obtain ⟨ha1, ha2⟩ := ha
  obtain ⟨hb1, hb2⟩ := hb
  refine CallEv.intro ⟨_, _, [], Tryd.func122, rfl, by decide, ?_⟩; simp only [go_sem, Tryd.ntmps122]
  repeat' (first | (refine go ⟨?_⟩) | (fail) | ((first | (refine bsp ?_ ?_) | (refine csp ?_ ?_)); all_goals (intro hb; (fail_if_success (cases hb; done)); (try simp only [decide_eq_true_eq, decide_eq_false_iff_not, beq_iff_eq, bne_iff_ne, ne_eq, beq_eq_false_iff_ne, bne_eq_false_iff_eq, Bool.not_eq_true', Bool.not_eq_false', Bool.and_eq_true, Bool.or_eq_true, Decidable.not_not] at hb); (try simp only [go_sem]))))
  refine ⟨by first | exact .inr rfl | exact .inl rfl, .inl ⟨[], _, (by dsimp only [Tryd.f122]; exact sv), ?_, by simp⟩⟩
  rfl
theorem do4_ev (a b : Int) (ha : Wd a) (hb : Wd b) (h0 : b ≠ 0) (sto : Sto) (lo : Nat) (hlo : lo ≤ sto.length) : CallEv Tryd.prog tab B0 123 [.v (VI a), .v (VI b)] sto lo (.v (VI (a.tmod b))) sto := by
  obtain ⟨ha1, ha2⟩ := ha
  obtain ⟨hb1, hb2⟩ := hb
  refine CallEv.intro ⟨_, _, [], Tryd.func123, rfl, by decide, ?_⟩; simp only [go_sem, Tryd.ntmps123]
  repeat' (first | (refine go ⟨?_⟩) | (fail) | ((first | (refine bsp ?_ ?_) | (refine csp ?_ ?_)); all_goals (intro hb; (fail_if_success (cases hb; done)); (try simp only [decide_eq_true_eq, decide_eq_false_iff_not, beq_iff_eq, bne_iff_ne, ne_eq, beq_eq_false_iff_ne, bne_eq_false_iff_eq, Bool.not_eq_true', Bool.not_eq_false', Bool.and_eq_true, Bool.or_eq_true, Decidable.not_not] at hb); (try simp only [go_sem]))))
  refine ⟨by first | exact .inr rfl | exact .inl rfl, .inl ⟨[], _, (by dsimp only [Tryd.f123]; exact sv), ?_, by simp⟩⟩
  rfl
theorem do5_ev (a b : Int) (ha : Wd a) (hb : Wd b) (sto : Sto) (lo : Nat) (hlo : lo ≤ sto.length) : CallEv Tryd.prog tab B0 124 [.v (VI a), .v (VI b)] sto lo (.v (VI (andI .i64 a b))) sto := by
  obtain ⟨ha1, ha2⟩ := ha
  obtain ⟨hb1, hb2⟩ := hb
  refine CallEv.intro ⟨_, _, [], Tryd.func124, rfl, by decide, ?_⟩; simp only [go_sem, Tryd.ntmps124]
  repeat' (first | (refine go ⟨?_⟩) | (fail) | ((first | (refine bsp ?_ ?_) | (refine csp ?_ ?_)); all_goals (intro hb; (fail_if_success (cases hb; done)); (try simp only [decide_eq_true_eq, decide_eq_false_iff_not, beq_iff_eq, bne_iff_ne, ne_eq, beq_eq_false_iff_ne, bne_eq_false_iff_eq, Bool.not_eq_true', Bool.not_eq_false', Bool.and_eq_true, Bool.or_eq_true, Decidable.not_not] at hb); (try simp only [go_sem]))))
  refine ⟨by first | exact .inr rfl | exact .inl rfl, .inl ⟨[], _, (by dsimp only [Tryd.f124]; exact sv), ?_, by simp⟩⟩
  rfl
theorem do6_ev (a b : Int) (ha : Wd a) (hb : Wd b) (sto : Sto) (lo : Nat) (hlo : lo ≤ sto.length) : CallEv Tryd.prog tab B0 125 [.v (VI a), .v (VI b)] sto lo (.v (VI (orI .i64 a b))) sto := by
  obtain ⟨ha1, ha2⟩ := ha
  obtain ⟨hb1, hb2⟩ := hb
  refine CallEv.intro ⟨_, _, [], Tryd.func125, rfl, by decide, ?_⟩; simp only [go_sem, Tryd.ntmps125]
  repeat' (first | (refine go ⟨?_⟩) | (fail) | ((first | (refine bsp ?_ ?_) | (refine csp ?_ ?_)); all_goals (intro hb; (fail_if_success (cases hb; done)); (try simp only [decide_eq_true_eq, decide_eq_false_iff_not, beq_iff_eq, bne_iff_ne, ne_eq, beq_eq_false_iff_ne, bne_eq_false_iff_eq, Bool.not_eq_true', Bool.not_eq_false', Bool.and_eq_true, Bool.or_eq_true, Decidable.not_not] at hb); (try simp only [go_sem]))))
  refine ⟨by first | exact .inr rfl | exact .inl rfl, .inl ⟨[], _, (by dsimp only [Tryd.f125]; exact sv), ?_, by simp⟩⟩
  rfl
theorem do7_ev (a b : Int) (ha : Wd a) (hb : Wd b) (sto : Sto) (lo : Nat) (hlo : lo ≤ sto.length) : CallEv Tryd.prog tab B0 126 [.v (VI a), .v (VI b)] sto lo (.v (VI (xorI .i64 a b))) sto := by
  obtain ⟨ha1, ha2⟩ := ha
  obtain ⟨hb1, hb2⟩ := hb
  refine CallEv.intro ⟨_, _, [], Tryd.func126, rfl, by decide, ?_⟩; simp only [go_sem, Tryd.ntmps126]
  repeat' (first | (refine go ⟨?_⟩) | (fail) | ((first | (refine bsp ?_ ?_) | (refine csp ?_ ?_)); all_goals (intro hb; (fail_if_success (cases hb; done)); (try simp only [decide_eq_true_eq, decide_eq_false_iff_not, beq_iff_eq, bne_iff_ne, ne_eq, beq_eq_false_iff_ne, bne_eq_false_iff_eq, Bool.not_eq_true', Bool.not_eq_false', Bool.and_eq_true, Bool.or_eq_true, Decidable.not_not] at hb); (try simp only [go_sem]))))
  refine ⟨by first | exact .inr rfl | exact .inl rfl, .inl ⟨[], _, (by dsimp only [Tryd.f126]; exact sv), ?_, by simp⟩⟩
  rfl
theorem do10_ev (a b : Int) (sto : Sto) (lo : Nat) (hlo : lo ≤ sto.length) : CallEv Tryd.prog tab B0 130 [.v (VI a), .v (VI b)] sto lo (.v (VI (if decide (a < b) then 1 else 0))) sto := by
  refine CallEv.intro ⟨_, _, [], Tryd.func130, rfl, by decide, ?_⟩; simp only [go_sem, Tryd.ntmps130]
  repeat' (first | (refine go ⟨?_⟩) | (((refine call ?_); (refine ⟨_, wNumber_ev _ _ _ (by first | omega | (simp; done) | (simp; omega)), ?_⟩); (try simp only [go_sem]))) | ((first | (refine bsp ?_ ?_) | (refine csp ?_ ?_)); all_goals (intro hb; (fail_if_success (cases hb; done)); (try simp only [decide_eq_true_eq, decide_eq_false_iff_not, beq_iff_eq, bne_iff_ne, ne_eq, beq_eq_false_iff_ne, bne_eq_false_iff_eq, Bool.not_eq_true', Bool.not_eq_false', Bool.and_eq_true, Bool.or_eq_true, Decidable.not_not] at hb); (try simp only [go_sem]))))
  refine ⟨by first | exact .inr rfl | exact .inl rfl, .inl ⟨[], _, (by dsimp only [Tryd.f130]; exact sv), ?_, by simp⟩⟩
  rfl
theorem do11_ev (a b : Int) (sto : Sto) (lo : Nat) (hlo : lo ≤ sto.length) : CallEv Tryd.prog tab B0 132 [.v (VI a), .v (VI b)] sto lo (.v (VI (if decide (a = b) then 1 else 0))) sto := by
  refine CallEv.intro ⟨_, _, [], Tryd.func132, rfl, by decide, ?_⟩; simp only [go_sem, Tryd.ntmps132]
  repeat' (first | (refine go ⟨?_⟩) | (((refine call ?_); (refine ⟨_, wNumber_ev _ _ _ (by first | omega | (simp; done) | (simp; omega)), ?_⟩); (try simp only [go_sem]))) | ((first | (refine bsp ?_ ?_) | (refine csp ?_ ?_)); all_goals (intro hb; (fail_if_success (cases hb; done)); (try simp only [decide_eq_true_eq, decide_eq_false_iff_not, beq_iff_eq, bne_iff_ne, ne_eq, beq_eq_false_iff_ne, bne_eq_false_iff_eq, Bool.not_eq_true', Bool.not_eq_false', Bool.and_eq_true, Bool.or_eq_true, Decidable.not_not] at hb); (try simp only [go_sem]))))
  refine ⟨by first | exact .inr rfl | exact .inl rfl, .inl ⟨[], _, (by dsimp only [Tryd.f132]; exact sv), ?_, by simp⟩⟩
  rfl
end Go.Proofs.YtomameefmobnlaaDoor
namespace Go.Proofs.YtomameefmobnlaaDoor
open Go Go.RowKit

attribute [local irreducible] EvOps EvC
attribute [local go_sem] List.getElem?_toArray getS List.flatten_cons List.flatten_nil List.contains_nil opsV
set_option linter.unusedSimpArgs false
set_option linter.unusedVariables false
set_option maxRecDepth 100000
set_option maxHeartbeats 4000000
theorem wrap_wd (n : Int) : Wd (wrapS n) := wrapS_range n
theorem do8_ev (a b : Int) (ha : Wd a) (hb : Wd b) (sto : Sto) (lo : Nat) (hlo : lo ≤ sto.length) : CallEv Tryd.prog tab B0 127 [.v (VI a), .v (VI b)] sto lo (.v (VI (a * ((2 ^ (bitsW b % 4) : Nat) : Int)))) sto := by
  have hs := fun sto lo hlo => wShift_ev b ⟨by have := hb.1; omega, by have := hb.2; omega⟩ sto lo hlo
  have h4 : bitsW b % 4 < 4 := by omega
  generalize bitsW b % 4 = s at *
  obtain ⟨ha1, ha2⟩ := ha
  obtain rfl | rfl | rfl | rfl : s = 0 ∨ s = 1 ∨ s = 2 ∨ s = 3 := by omega
  all_goals
    refine CallEv.intro ⟨_, _, [], Tryd.func127, rfl, by decide, ?_⟩; simp only [go_sem, Tryd.ntmps127]
    repeat' (first | (refine go ⟨?_⟩) | (((refine call ?_); (refine ⟨_, hs _ _ (by first | omega | (simp; done) | (simp; omega)), ?_⟩); (try simp only [go_sem]))) | ((first | (refine bsp ?_ ?_) | (refine csp ?_ ?_)); all_goals (intro hb; (fail_if_success (cases hb; done)); (try simp only [decide_eq_true_eq, decide_eq_false_iff_not, beq_iff_eq, bne_iff_ne, ne_eq, beq_eq_false_iff_ne, bne_eq_false_iff_eq, Bool.not_eq_true', Bool.not_eq_false', Bool.and_eq_true, Bool.or_eq_true, Decidable.not_not] at hb); (try simp only [go_sem]))))
    refine ⟨by first | exact .inr rfl | exact .inl rfl, .inl ⟨[], _, (by dsimp only [Tryd.f127]; exact sv), ?_, by simp⟩⟩
    simp
    rw [wrapI (by omega)]
theorem do9_ev (a b : Int) (ha : Wd a) (hb : Wd b) (sto : Sto) (lo : Nat) (hlo : lo ≤ sto.length) : CallEv Tryd.prog tab B0 129 [.v (VI a), .v (VI b)] sto lo (.v (VI (a.fdiv ((2 ^ (bitsW b % 4) : Nat) : Int)))) sto := by
  have hs := fun sto lo hlo => wShift_ev b ⟨by have := hb.1; omega, by have := hb.2; omega⟩ sto lo hlo
  have h4 : bitsW b % 4 < 4 := by omega
  generalize bitsW b % 4 = s at *
  obtain ⟨ha1, ha2⟩ := ha
  obtain rfl | rfl | rfl | rfl : s = 0 ∨ s = 1 ∨ s = 2 ∨ s = 3 := by omega
  all_goals
    refine CallEv.intro ⟨_, _, [], Tryd.func129, rfl, by decide, ?_⟩; simp only [go_sem, Tryd.ntmps129]
    repeat' (first | (refine go ⟨?_⟩) | (((refine call ?_); (refine ⟨_, hs _ _ (by first | omega | (simp; done) | (simp; omega)), ?_⟩); (try simp only [go_sem]))) | ((first | (refine bsp ?_ ?_) | (refine csp ?_ ?_)); all_goals (intro hb; (fail_if_success (cases hb; done)); (try simp only [decide_eq_true_eq, decide_eq_false_iff_not, beq_iff_eq, bne_iff_ne, ne_eq, beq_eq_false_iff_ne, bne_eq_false_iff_eq, Bool.not_eq_true', Bool.not_eq_false', Bool.and_eq_true, Bool.or_eq_true, Decidable.not_not] at hb); (try simp only [go_sem]))))
    refine ⟨by first | exact .inr rfl | exact .inl rfl, .inl ⟨[], _, (by dsimp only [Tryd.f129]; exact sv), ?_, by simp⟩⟩
    rfl
theorem do12_ev (a b : Int) (sto : Sto) (lo : Nat) (hlo : lo ≤ sto.length) : CallEv Tryd.prog tab B0 133 [.v (VI a), .v (VI b)] sto lo (.v (VI (if a ≠ 0 ∧ b ≠ 0 then 1 else 0))) sto := by
  by_cases c1 : a = 0
  · rw [if_neg (fun h => h.1 c1)]
    refine CallEv.intro ⟨_, _, [], Tryd.func133, rfl, by decide, ?_⟩; simp only [go_sem, Tryd.ntmps133]
    repeat' (first | (refine go ⟨?_⟩) | (((refine call ?_); (refine ⟨_, wNumber_ev _ _ _ (by first | omega | (simp; done) | (simp; omega)), ?_⟩); (try simp only [go_sem]))) | ((first | (refine bsp ?_ ?_) | (refine csp ?_ ?_)); all_goals (intro hb; (fail_if_success (cases hb; done)); (try simp only [decide_eq_true_eq, decide_eq_false_iff_not, beq_iff_eq, bne_iff_ne, ne_eq, beq_eq_false_iff_ne, bne_eq_false_iff_eq, Bool.not_eq_true', Bool.not_eq_false', Bool.and_eq_true, Bool.or_eq_true, Decidable.not_not] at hb); (try simp only [go_sem]))))
    refine ⟨by first | exact .inr rfl | exact .inl rfl, .inl ⟨[], _, (by dsimp only [Tryd.f133]; exact sv), ?_, by simp⟩⟩
    rfl
  by_cases c2 : b = 0
  · rw [if_neg (fun h => h.2 c2)]
    refine CallEv.intro ⟨_, _, [], Tryd.func133, rfl, by decide, ?_⟩; simp only [go_sem, Tryd.ntmps133]
    repeat' (first | (refine go ⟨?_⟩) | (((refine call ?_); (refine ⟨_, wNumber_ev _ _ _ (by first | omega | (simp; done) | (simp; omega)), ?_⟩); (try simp only [go_sem]))) | ((first | (refine bsp ?_ ?_) | (refine csp ?_ ?_)); all_goals (intro hb; (fail_if_success (cases hb; done)); (try simp only [decide_eq_true_eq, decide_eq_false_iff_not, beq_iff_eq, bne_iff_ne, ne_eq, beq_eq_false_iff_ne, bne_eq_false_iff_eq, Bool.not_eq_true', Bool.not_eq_false', Bool.and_eq_true, Bool.or_eq_true, Decidable.not_not] at hb); (try simp only [go_sem]))))
    refine ⟨by first | exact .inr rfl | exact .inl rfl, .inl ⟨[], _, (by dsimp only [Tryd.f133]; exact sv), ?_, by simp⟩⟩
    rfl
  · rw [if_pos ⟨c1, c2⟩]
    refine CallEv.intro ⟨_, _, [], Tryd.func133, rfl, by decide, ?_⟩; simp only [go_sem, Tryd.ntmps133]
    repeat' (first | (refine go ⟨?_⟩) | (((refine call ?_); (refine ⟨_, wNumber_ev _ _ _ (by first | omega | (simp; done) | (simp; omega)), ?_⟩); (try simp only [go_sem]))) | ((first | (refine bsp ?_ ?_) | (refine csp ?_ ?_)); all_goals (intro hb; (fail_if_success (cases hb; done)); (try simp only [decide_eq_true_eq, decide_eq_false_iff_not, beq_iff_eq, bne_iff_ne, ne_eq, beq_eq_false_iff_ne, bne_eq_false_iff_eq, Bool.not_eq_true', Bool.not_eq_false', Bool.and_eq_true, Bool.or_eq_true, Decidable.not_not] at hb); (try simp only [go_sem]))))
    refine ⟨by first | exact .inr rfl | exact .inl rfl, .inl ⟨[], _, (by dsimp only [Tryd.f133]; exact sv), ?_, by simp⟩⟩
    rfl
theorem do13_ev (a b : Int) (sto : Sto) (lo : Nat) (hlo : lo ≤ sto.length) : CallEv Tryd.prog tab B0 134 [.v (VI a), .v (VI b)] sto lo (.v (VI (if a ≠ 0 ∨ b ≠ 0 then 1 else 0))) sto := by
  by_cases c1 : a = 0
  · by_cases c2 : b = 0
    · rw [if_neg (fun h => h.elim (· c1) (· c2))]
      refine CallEv.intro ⟨_, _, [], Tryd.func134, rfl, by decide, ?_⟩; simp only [go_sem, Tryd.ntmps134]
      repeat' (first | (refine go ⟨?_⟩) | (((refine call ?_); (refine ⟨_, wNumber_ev _ _ _ (by first | omega | (simp; done) | (simp; omega)), ?_⟩); (try simp only [go_sem]))) | ((first | (refine bsp ?_ ?_) | (refine csp ?_ ?_)); all_goals (intro hb; (fail_if_success (cases hb; done)); (try simp only [decide_eq_true_eq, decide_eq_false_iff_not, beq_iff_eq, bne_iff_ne, ne_eq, beq_eq_false_iff_ne, bne_eq_false_iff_eq, Bool.not_eq_true', Bool.not_eq_false', Bool.and_eq_true, Bool.or_eq_true, Decidable.not_not] at hb); (try simp only [go_sem]))))
      refine ⟨by first | exact .inr rfl | exact .inl rfl, .inl ⟨[], _, (by dsimp only [Tryd.f134]; exact sv), ?_, by simp⟩⟩
      rfl
    · rw [if_pos (.inr c2)]
      refine CallEv.intro ⟨_, _, [], Tryd.func134, rfl, by decide, ?_⟩; simp only [go_sem, Tryd.ntmps134]
      repeat' (first | (refine go ⟨?_⟩) | (((refine call ?_); (refine ⟨_, wNumber_ev _ _ _ (by first | omega | (simp; done) | (simp; omega)), ?_⟩); (try simp only [go_sem]))) | ((first | (refine bsp ?_ ?_) | (refine csp ?_ ?_)); all_goals (intro hb; (fail_if_success (cases hb; done)); (try simp only [decide_eq_true_eq, decide_eq_false_iff_not, beq_iff_eq, bne_iff_ne, ne_eq, beq_eq_false_iff_ne, bne_eq_false_iff_eq, Bool.not_eq_true', Bool.not_eq_false', Bool.and_eq_true, Bool.or_eq_true, Decidable.not_not] at hb); (try simp only [go_sem]))))
      refine ⟨by first | exact .inr rfl | exact .inl rfl, .inl ⟨[], _, (by dsimp only [Tryd.f134]; exact sv), ?_, by simp⟩⟩
      rfl
  · rw [if_pos (.inl c1)]
    refine CallEv.intro ⟨_, _, [], Tryd.func134, rfl, by decide, ?_⟩; simp only [go_sem, Tryd.ntmps134]
    repeat' (first | (refine go ⟨?_⟩) | (((refine call ?_); (refine ⟨_, wNumber_ev _ _ _ (by first | omega | (simp; done) | (simp; omega)), ?_⟩); (try simp only [go_sem]))) | ((first | (refine bsp ?_ ?_) | (refine csp ?_ ?_)); all_goals (intro hb; (fail_if_success (cases hb; done)); (try simp only [decide_eq_true_eq, decide_eq_false_iff_not, beq_iff_eq, bne_iff_ne, ne_eq, beq_eq_false_iff_ne, bne_eq_false_iff_eq, Bool.not_eq_true', Bool.not_eq_false', Bool.and_eq_true, Bool.or_eq_true, Decidable.not_not] at hb); (try simp only [go_sem]))))
    refine ⟨by first | exact .inr rfl | exact .inl rfl, .inl ⟨[], _, (by dsimp only [Tryd.f134]; exact sv), ?_, by simp⟩⟩
    rfl
/-- The code of an operation. -/
def codeW (op b : Int) : Int := if (op = 3 ∨ op = 4) ∧ b = 0 then 2 else 0
theorem do_small {x y : Int} (hx : Wd x) (hy : Wd y) : -64 ≤ x * ((2 ^ (bitsW y % 4) : Nat) : Int) ∧ x * ((2 ^ (bitsW y % 4) : Nat) : Int) ≤ 64 ∧ -8 ≤ x.fdiv ((2 ^ (bitsW y % 4) : Nat) : Int) ∧ x.fdiv ((2 ^ (bitsW y % 4) : Nat) : Int) ≤ 8 := by
  have h : ∀ x ∈ words, ∀ y ∈ words, -64 ≤ x * ((2 ^ (bitsW y % 4) : Nat) : Int) ∧ x * ((2 ^ (bitsW y % 4) : Nat) : Int) ≤ 64 ∧ -8 ≤ x.fdiv ((2 ^ (bitsW y % 4) : Nat) : Int) ∧ x.fdiv ((2 ^ (bitsW y % 4) : Nat) : Int) ≤ 8 := by decide +kernel
  exact h x (mem_words hx.1 hx.2) y (mem_words hy.1 hy.2)
theorem mod_small {x y : Int} (hx : Wd x) (hy : Wd y) : -8 ≤ x.tmod y ∧ x.tmod y ≤ 8 := by
  have h : ∀ x ∈ words, ∀ y ∈ words, -8 ≤ x.tmod y ∧ x.tmod y ≤ 8 := by decide +kernel
  exact h x (mem_words hx.1 hx.2) y (mem_words hy.1 hy.2)
theorem wOp0_ev (a b : Int) (ha : Big a) (hb : Big b) (sto : Sto) (lo : Nat) (hlo : lo ≤ sto.length) : CallEv Tryd.prog tab B0 50 [.v (VI 0), .v (VI a), .v (VI b)] sto lo (.v (.tup [VI (opW 0 (wrapS a) (wrapS b)), VI (codeW 0 (wrapS b))])) sto := by
  have h1 := fun sto lo hlo => wWrap_ev a ha sto lo hlo
  have h2 := fun sto lo hlo => wWrap_ev b hb sto lo hlo
  have hx := wrap_wd a
  have hy := wrap_wd b
  generalize wrapS a = x at *
  generalize wrapS b = y at *
  have e : opW 0 x y = wrapS (x + y) := by simp [opW]
  rw [e, show codeW 0 y = 0 from by simp [codeW]]
  have hd := fun sto lo hlo => do0_ev x y hx hy sto lo hlo
  have hbg : Big (x + y) := ⟨by have h1 := hx.1; have h2 := hx.2; have h3 := hy.1; have h4 := hy.2; omega, by have h1 := hx.1; have h2 := hx.2; have h3 := hy.1; have h4 := hy.2; omega⟩
  have hw := fun sto lo hlo => wWrap_ev (x + y) hbg sto lo hlo
  clear e
  refine CallEv.intro ⟨_, _, [], Tryd.func50, rfl, by decide, ?_⟩; simp only [go_sem, Tryd.ntmps50]
  repeat' (first | (refine go ⟨?_⟩) | (first | ((refine call ?_); (refine ⟨_, h1 _ _ (by first | omega | (simp; done) | (simp; omega)), ?_⟩); (try simp only [go_sem])) | ((refine call ?_); (refine ⟨_, h2 _ _ (by first | omega | (simp; done) | (simp; omega)), ?_⟩); (try simp only [go_sem])) | ((refine call ?_); (refine ⟨_, hd _ _ (by first | omega | (simp; done) | (simp; omega)), ?_⟩); (try simp only [go_sem])) | ((refine call ?_); (refine ⟨_, hw _ _ (by first | omega | (simp; done) | (simp; omega)), ?_⟩); (try simp only [go_sem]))) | ((first | (refine bsp ?_ ?_) | (refine csp ?_ ?_)); all_goals (intro hb; (fail_if_success (cases hb; done)); (try simp only [decide_eq_true_eq, decide_eq_false_iff_not, beq_iff_eq, bne_iff_ne, ne_eq, beq_eq_false_iff_ne, bne_eq_false_iff_eq, Bool.not_eq_true', Bool.not_eq_false', Bool.and_eq_true, Bool.or_eq_true, Decidable.not_not] at hb); (try simp only [go_sem]))))
  refine ⟨by first | exact .inr rfl | exact .inl rfl, .inl ⟨[], _, (by dsimp only [Tryd.f50]; exact sv), ?_, by simp⟩⟩
  rfl
theorem wOp1_ev (a b : Int) (ha : Big a) (hb : Big b) (sto : Sto) (lo : Nat) (hlo : lo ≤ sto.length) : CallEv Tryd.prog tab B0 50 [.v (VI 1), .v (VI a), .v (VI b)] sto lo (.v (.tup [VI (opW 1 (wrapS a) (wrapS b)), VI (codeW 1 (wrapS b))])) sto := by
  have h1 := fun sto lo hlo => wWrap_ev a ha sto lo hlo
  have h2 := fun sto lo hlo => wWrap_ev b hb sto lo hlo
  have hx := wrap_wd a
  have hy := wrap_wd b
  generalize wrapS a = x at *
  generalize wrapS b = y at *
  have e : opW 1 x y = wrapS (x - y) := by simp [opW]
  rw [e, show codeW 1 y = 0 from by simp [codeW]]
  have hd := fun sto lo hlo => do1_ev x y hx hy sto lo hlo
  have hbg : Big (x - y) := ⟨by have h1 := hx.1; have h2 := hx.2; have h3 := hy.1; have h4 := hy.2; omega, by have h1 := hx.1; have h2 := hx.2; have h3 := hy.1; have h4 := hy.2; omega⟩
  have hw := fun sto lo hlo => wWrap_ev (x - y) hbg sto lo hlo
  clear e
  refine CallEv.intro ⟨_, _, [], Tryd.func50, rfl, by decide, ?_⟩; simp only [go_sem, Tryd.ntmps50]
  repeat' (first | (refine go ⟨?_⟩) | (first | ((refine call ?_); (refine ⟨_, h1 _ _ (by first | omega | (simp; done) | (simp; omega)), ?_⟩); (try simp only [go_sem])) | ((refine call ?_); (refine ⟨_, h2 _ _ (by first | omega | (simp; done) | (simp; omega)), ?_⟩); (try simp only [go_sem])) | ((refine call ?_); (refine ⟨_, hd _ _ (by first | omega | (simp; done) | (simp; omega)), ?_⟩); (try simp only [go_sem])) | ((refine call ?_); (refine ⟨_, hw _ _ (by first | omega | (simp; done) | (simp; omega)), ?_⟩); (try simp only [go_sem]))) | ((first | (refine bsp ?_ ?_) | (refine csp ?_ ?_)); all_goals (intro hb; (fail_if_success (cases hb; done)); (try simp only [decide_eq_true_eq, decide_eq_false_iff_not, beq_iff_eq, bne_iff_ne, ne_eq, beq_eq_false_iff_ne, bne_eq_false_iff_eq, Bool.not_eq_true', Bool.not_eq_false', Bool.and_eq_true, Bool.or_eq_true, Decidable.not_not] at hb); (try simp only [go_sem]))))
  refine ⟨by first | exact .inr rfl | exact .inl rfl, .inl ⟨[], _, (by dsimp only [Tryd.f50]; exact sv), ?_, by simp⟩⟩
  rfl
theorem wOp2_ev (a b : Int) (ha : Big a) (hb : Big b) (sto : Sto) (lo : Nat) (hlo : lo ≤ sto.length) : CallEv Tryd.prog tab B0 50 [.v (VI 2), .v (VI a), .v (VI b)] sto lo (.v (.tup [VI (opW 2 (wrapS a) (wrapS b)), VI (codeW 2 (wrapS b))])) sto := by
  have h1 := fun sto lo hlo => wWrap_ev a ha sto lo hlo
  have h2 := fun sto lo hlo => wWrap_ev b hb sto lo hlo
  have hx := wrap_wd a
  have hy := wrap_wd b
  generalize wrapS a = x at *
  generalize wrapS b = y at *
  have e : opW 2 x y = wrapS (x * y) := by simp [opW]
  have hsm := mul_small hx hy
  rw [e, show codeW 2 y = 0 from by simp [codeW]]
  have hd := fun sto lo hlo => do2_ev x y hx hy sto lo hlo
  have hbg : Big (x * y) := ⟨by have h1 := hx.1; have h2 := hx.2; have h3 := hy.1; have h4 := hy.2; omega, by have h1 := hx.1; have h2 := hx.2; have h3 := hy.1; have h4 := hy.2; omega⟩
  have hw := fun sto lo hlo => wWrap_ev (x * y) hbg sto lo hlo
  clear e
  refine CallEv.intro ⟨_, _, [], Tryd.func50, rfl, by decide, ?_⟩; simp only [go_sem, Tryd.ntmps50]
  repeat' (first | (refine go ⟨?_⟩) | (first | ((refine call ?_); (refine ⟨_, h1 _ _ (by first | omega | (simp; done) | (simp; omega)), ?_⟩); (try simp only [go_sem])) | ((refine call ?_); (refine ⟨_, h2 _ _ (by first | omega | (simp; done) | (simp; omega)), ?_⟩); (try simp only [go_sem])) | ((refine call ?_); (refine ⟨_, hd _ _ (by first | omega | (simp; done) | (simp; omega)), ?_⟩); (try simp only [go_sem])) | ((refine call ?_); (refine ⟨_, hw _ _ (by first | omega | (simp; done) | (simp; omega)), ?_⟩); (try simp only [go_sem]))) | ((first | (refine bsp ?_ ?_) | (refine csp ?_ ?_)); all_goals (intro hb; (fail_if_success (cases hb; done)); (try simp only [decide_eq_true_eq, decide_eq_false_iff_not, beq_iff_eq, bne_iff_ne, ne_eq, beq_eq_false_iff_ne, bne_eq_false_iff_eq, Bool.not_eq_true', Bool.not_eq_false', Bool.and_eq_true, Bool.or_eq_true, Decidable.not_not] at hb); (try simp only [go_sem]))))
  refine ⟨by first | exact .inr rfl | exact .inl rfl, .inl ⟨[], _, (by dsimp only [Tryd.f50]; exact sv), ?_, by simp⟩⟩
  rfl
theorem wOp3_ev (a b : Int) (ha : Big a) (hb : Big b) (sto : Sto) (lo : Nat) (hlo : lo ≤ sto.length) : CallEv Tryd.prog tab B0 50 [.v (VI 3), .v (VI a), .v (VI b)] sto lo (.v (.tup [VI (opW 3 (wrapS a) (wrapS b)), VI (codeW 3 (wrapS b))])) sto := by
  have h1 := fun sto lo hlo => wWrap_ev a ha sto lo hlo
  have h2 := fun sto lo hlo => wWrap_ev b hb sto lo hlo
  have hx := wrap_wd a
  have hy := wrap_wd b
  generalize wrapS a = x at *
  generalize wrapS b = y at *
  by_cases h0 : y = 0
  · subst h0
    rw [show opW 3 x 0 = 0 from by simp [opW], show codeW 3 0 = 2 from rfl]
    refine CallEv.intro ⟨_, _, [], Tryd.func50, rfl, by decide, ?_⟩; simp only [go_sem, Tryd.ntmps50]
    repeat' (first | (refine go ⟨?_⟩) | (first | ((refine call ?_); (refine ⟨_, h1 _ _ (by first | omega | (simp; done) | (simp; omega)), ?_⟩); (try simp only [go_sem])) | ((refine call ?_); (refine ⟨_, h2 _ _ (by first | omega | (simp; done) | (simp; omega)), ?_⟩); (try simp only [go_sem]))) | ((first | (refine bsp ?_ ?_) | (refine csp ?_ ?_)); all_goals (intro hb; (fail_if_success (cases hb; done)); (try simp only [decide_eq_true_eq, decide_eq_false_iff_not, beq_iff_eq, bne_iff_ne, ne_eq, beq_eq_false_iff_ne, bne_eq_false_iff_eq, Bool.not_eq_true', Bool.not_eq_false', Bool.and_eq_true, Bool.or_eq_true, Decidable.not_not] at hb); (try simp only [go_sem]))))
    refine ⟨by first | exact .inr rfl | exact .inl rfl, .inl ⟨[], _, (by dsimp only [Tryd.f50]; exact sv), ?_, by simp⟩⟩
    rfl
  have e : opW 3 x y = wrapS (x.tdiv y) := by simp [opW, h0]
  rw [e, show codeW 3 y = 0 from by simp [codeW, h0]]
  have hd := fun sto lo hlo => do3_ev x y hx hy h0 sto lo hlo
  have hsm := div_small hx hy
  have hbg : Big (x.tdiv y) := ⟨by have h1 := hx.1; have h2 := hx.2; have h3 := hy.1; have h4 := hy.2; omega, by have h1 := hx.1; have h2 := hx.2; have h3 := hy.1; have h4 := hy.2; omega⟩
  have hw := fun sto lo hlo => wWrap_ev (x.tdiv y) hbg sto lo hlo
  clear e
  refine CallEv.intro ⟨_, _, [], Tryd.func50, rfl, by decide, ?_⟩; simp only [go_sem, Tryd.ntmps50]
  repeat' (first | (refine go ⟨?_⟩) | (first | ((refine call ?_); (refine ⟨_, h1 _ _ (by first | omega | (simp; done) | (simp; omega)), ?_⟩); (try simp only [go_sem])) | ((refine call ?_); (refine ⟨_, h2 _ _ (by first | omega | (simp; done) | (simp; omega)), ?_⟩); (try simp only [go_sem])) | ((refine call ?_); (refine ⟨_, hd _ _ (by first | omega | (simp; done) | (simp; omega)), ?_⟩); (try simp only [go_sem])) | ((refine call ?_); (refine ⟨_, hw _ _ (by first | omega | (simp; done) | (simp; omega)), ?_⟩); (try simp only [go_sem]))) | ((first | (refine bsp ?_ ?_) | (refine csp ?_ ?_)); all_goals (intro hb; (fail_if_success (cases hb; done)); (try simp only [decide_eq_true_eq, decide_eq_false_iff_not, beq_iff_eq, bne_iff_ne, ne_eq, beq_eq_false_iff_ne, bne_eq_false_iff_eq, Bool.not_eq_true', Bool.not_eq_false', Bool.and_eq_true, Bool.or_eq_true, Decidable.not_not] at hb); (try simp only [go_sem]))))
  refine ⟨by first | exact .inr rfl | exact .inl rfl, .inl ⟨[], _, (by dsimp only [Tryd.f50]; exact sv), ?_, by simp⟩⟩
  rfl
theorem wOp4_ev (a b : Int) (ha : Big a) (hb : Big b) (sto : Sto) (lo : Nat) (hlo : lo ≤ sto.length) : CallEv Tryd.prog tab B0 50 [.v (VI 4), .v (VI a), .v (VI b)] sto lo (.v (.tup [VI (opW 4 (wrapS a) (wrapS b)), VI (codeW 4 (wrapS b))])) sto := by
  have h1 := fun sto lo hlo => wWrap_ev a ha sto lo hlo
  have h2 := fun sto lo hlo => wWrap_ev b hb sto lo hlo
  have hx := wrap_wd a
  have hy := wrap_wd b
  generalize wrapS a = x at *
  generalize wrapS b = y at *
  by_cases h0 : y = 0
  · subst h0
    rw [show opW 4 x 0 = 0 from by simp [opW], show codeW 4 0 = 2 from rfl]
    refine CallEv.intro ⟨_, _, [], Tryd.func50, rfl, by decide, ?_⟩; simp only [go_sem, Tryd.ntmps50]
    repeat' (first | (refine go ⟨?_⟩) | (first | ((refine call ?_); (refine ⟨_, h1 _ _ (by first | omega | (simp; done) | (simp; omega)), ?_⟩); (try simp only [go_sem])) | ((refine call ?_); (refine ⟨_, h2 _ _ (by first | omega | (simp; done) | (simp; omega)), ?_⟩); (try simp only [go_sem]))) | ((first | (refine bsp ?_ ?_) | (refine csp ?_ ?_)); all_goals (intro hb; (fail_if_success (cases hb; done)); (try simp only [decide_eq_true_eq, decide_eq_false_iff_not, beq_iff_eq, bne_iff_ne, ne_eq, beq_eq_false_iff_ne, bne_eq_false_iff_eq, Bool.not_eq_true', Bool.not_eq_false', Bool.and_eq_true, Bool.or_eq_true, Decidable.not_not] at hb); (try simp only [go_sem]))))
    refine ⟨by first | exact .inr rfl | exact .inl rfl, .inl ⟨[], _, (by dsimp only [Tryd.f50]; exact sv), ?_, by simp⟩⟩
    rfl
  have e : opW 4 x y = wrapS (x.tmod y) := by simp [opW, h0]
  rw [e, show codeW 4 y = 0 from by simp [codeW, h0]]
  have hd := fun sto lo hlo => do4_ev x y hx hy h0 sto lo hlo
  have hsm := mod_small hx hy
  have hbg : Big (x.tmod y) := ⟨by have h1 := hx.1; have h2 := hx.2; have h3 := hy.1; have h4 := hy.2; omega, by have h1 := hx.1; have h2 := hx.2; have h3 := hy.1; have h4 := hy.2; omega⟩
  have hw := fun sto lo hlo => wWrap_ev (x.tmod y) hbg sto lo hlo
  clear e
  refine CallEv.intro ⟨_, _, [], Tryd.func50, rfl, by decide, ?_⟩; simp only [go_sem, Tryd.ntmps50]
  repeat' (first | (refine go ⟨?_⟩) | (first | ((refine call ?_); (refine ⟨_, h1 _ _ (by first | omega | (simp; done) | (simp; omega)), ?_⟩); (try simp only [go_sem])) | ((refine call ?_); (refine ⟨_, h2 _ _ (by first | omega | (simp; done) | (simp; omega)), ?_⟩); (try simp only [go_sem])) | ((refine call ?_); (refine ⟨_, hd _ _ (by first | omega | (simp; done) | (simp; omega)), ?_⟩); (try simp only [go_sem])) | ((refine call ?_); (refine ⟨_, hw _ _ (by first | omega | (simp; done) | (simp; omega)), ?_⟩); (try simp only [go_sem]))) | ((first | (refine bsp ?_ ?_) | (refine csp ?_ ?_)); all_goals (intro hb; (fail_if_success (cases hb; done)); (try simp only [decide_eq_true_eq, decide_eq_false_iff_not, beq_iff_eq, bne_iff_ne, ne_eq, beq_eq_false_iff_ne, bne_eq_false_iff_eq, Bool.not_eq_true', Bool.not_eq_false', Bool.and_eq_true, Bool.or_eq_true, Decidable.not_not] at hb); (try simp only [go_sem]))))
  refine ⟨by first | exact .inr rfl | exact .inl rfl, .inl ⟨[], _, (by dsimp only [Tryd.f50]; exact sv), ?_, by simp⟩⟩
  rfl
theorem wOp5_ev (a b : Int) (ha : Big a) (hb : Big b) (sto : Sto) (lo : Nat) (hlo : lo ≤ sto.length) : CallEv Tryd.prog tab B0 50 [.v (VI 5), .v (VI a), .v (VI b)] sto lo (.v (.tup [VI (opW 5 (wrapS a) (wrapS b)), VI (codeW 5 (wrapS b))])) sto := by
  have h1 := fun sto lo hlo => wWrap_ev a ha sto lo hlo
  have h2 := fun sto lo hlo => wWrap_ev b hb sto lo hlo
  have hx := wrap_wd a
  have hy := wrap_wd b
  generalize wrapS a = x at *
  generalize wrapS b = y at *
  have e : opW 5 x y = wrapS (andI .i64 x y) := (show opW 5 x y = wrapS _ from by simp [opW]).trans (and_words x (mem_words hx.1 hx.2) y (mem_words hy.1 hy.2)).symm
  have hsm := small_words x (mem_words hx.1 hx.2) y (mem_words hy.1 hy.2)
  rw [e, show codeW 5 y = 0 from by simp [codeW]]
  have hd := fun sto lo hlo => do5_ev x y hx hy sto lo hlo
  have hbg : Big (andI .i64 x y) := ⟨by have h1 := hx.1; have h2 := hx.2; have h3 := hy.1; have h4 := hy.2; omega, by have h1 := hx.1; have h2 := hx.2; have h3 := hy.1; have h4 := hy.2; omega⟩
  have hw := fun sto lo hlo => wWrap_ev (andI .i64 x y) hbg sto lo hlo
  clear e
  refine CallEv.intro ⟨_, _, [], Tryd.func50, rfl, by decide, ?_⟩; simp only [go_sem, Tryd.ntmps50]
  repeat' (first | (refine go ⟨?_⟩) | (first | ((refine call ?_); (refine ⟨_, h1 _ _ (by first | omega | (simp; done) | (simp; omega)), ?_⟩); (try simp only [go_sem])) | ((refine call ?_); (refine ⟨_, h2 _ _ (by first | omega | (simp; done) | (simp; omega)), ?_⟩); (try simp only [go_sem])) | ((refine call ?_); (refine ⟨_, hd _ _ (by first | omega | (simp; done) | (simp; omega)), ?_⟩); (try simp only [go_sem])) | ((refine call ?_); (refine ⟨_, hw _ _ (by first | omega | (simp; done) | (simp; omega)), ?_⟩); (try simp only [go_sem]))) | ((first | (refine bsp ?_ ?_) | (refine csp ?_ ?_)); all_goals (intro hb; (fail_if_success (cases hb; done)); (try simp only [decide_eq_true_eq, decide_eq_false_iff_not, beq_iff_eq, bne_iff_ne, ne_eq, beq_eq_false_iff_ne, bne_eq_false_iff_eq, Bool.not_eq_true', Bool.not_eq_false', Bool.and_eq_true, Bool.or_eq_true, Decidable.not_not] at hb); (try simp only [go_sem]))))
  refine ⟨by first | exact .inr rfl | exact .inl rfl, .inl ⟨[], _, (by dsimp only [Tryd.f50]; exact sv), ?_, by simp⟩⟩
  rfl
theorem wOp6_ev (a b : Int) (ha : Big a) (hb : Big b) (sto : Sto) (lo : Nat) (hlo : lo ≤ sto.length) : CallEv Tryd.prog tab B0 50 [.v (VI 6), .v (VI a), .v (VI b)] sto lo (.v (.tup [VI (opW 6 (wrapS a) (wrapS b)), VI (codeW 6 (wrapS b))])) sto := by
  have h1 := fun sto lo hlo => wWrap_ev a ha sto lo hlo
  have h2 := fun sto lo hlo => wWrap_ev b hb sto lo hlo
  have hx := wrap_wd a
  have hy := wrap_wd b
  generalize wrapS a = x at *
  generalize wrapS b = y at *
  have e : opW 6 x y = wrapS (orI .i64 x y) := (show opW 6 x y = wrapS _ from by simp [opW]).trans (or_words x (mem_words hx.1 hx.2) y (mem_words hy.1 hy.2)).symm
  have hsm := small_words x (mem_words hx.1 hx.2) y (mem_words hy.1 hy.2)
  rw [e, show codeW 6 y = 0 from by simp [codeW]]
  have hd := fun sto lo hlo => do6_ev x y hx hy sto lo hlo
  have hbg : Big (orI .i64 x y) := ⟨by have h1 := hx.1; have h2 := hx.2; have h3 := hy.1; have h4 := hy.2; omega, by have h1 := hx.1; have h2 := hx.2; have h3 := hy.1; have h4 := hy.2; omega⟩
  have hw := fun sto lo hlo => wWrap_ev (orI .i64 x y) hbg sto lo hlo
  clear e
  refine CallEv.intro ⟨_, _, [], Tryd.func50, rfl, by decide, ?_⟩; simp only [go_sem, Tryd.ntmps50]
  repeat' (first | (refine go ⟨?_⟩) | (first | ((refine call ?_); (refine ⟨_, h1 _ _ (by first | omega | (simp; done) | (simp; omega)), ?_⟩); (try simp only [go_sem])) | ((refine call ?_); (refine ⟨_, h2 _ _ (by first | omega | (simp; done) | (simp; omega)), ?_⟩); (try simp only [go_sem])) | ((refine call ?_); (refine ⟨_, hd _ _ (by first | omega | (simp; done) | (simp; omega)), ?_⟩); (try simp only [go_sem])) | ((refine call ?_); (refine ⟨_, hw _ _ (by first | omega | (simp; done) | (simp; omega)), ?_⟩); (try simp only [go_sem]))) | ((first | (refine bsp ?_ ?_) | (refine csp ?_ ?_)); all_goals (intro hb; (fail_if_success (cases hb; done)); (try simp only [decide_eq_true_eq, decide_eq_false_iff_not, beq_iff_eq, bne_iff_ne, ne_eq, beq_eq_false_iff_ne, bne_eq_false_iff_eq, Bool.not_eq_true', Bool.not_eq_false', Bool.and_eq_true, Bool.or_eq_true, Decidable.not_not] at hb); (try simp only [go_sem]))))
  refine ⟨by first | exact .inr rfl | exact .inl rfl, .inl ⟨[], _, (by dsimp only [Tryd.f50]; exact sv), ?_, by simp⟩⟩
  rfl
theorem wOp7_ev (a b : Int) (ha : Big a) (hb : Big b) (sto : Sto) (lo : Nat) (hlo : lo ≤ sto.length) : CallEv Tryd.prog tab B0 50 [.v (VI 7), .v (VI a), .v (VI b)] sto lo (.v (.tup [VI (opW 7 (wrapS a) (wrapS b)), VI (codeW 7 (wrapS b))])) sto := by
  have h1 := fun sto lo hlo => wWrap_ev a ha sto lo hlo
  have h2 := fun sto lo hlo => wWrap_ev b hb sto lo hlo
  have hx := wrap_wd a
  have hy := wrap_wd b
  generalize wrapS a = x at *
  generalize wrapS b = y at *
  have e : opW 7 x y = wrapS (xorI .i64 x y) := (show opW 7 x y = wrapS _ from by simp [opW]).trans (xor_words x (mem_words hx.1 hx.2) y (mem_words hy.1 hy.2)).symm
  have hsm := small_words x (mem_words hx.1 hx.2) y (mem_words hy.1 hy.2)
  rw [e, show codeW 7 y = 0 from by simp [codeW]]
  have hd := fun sto lo hlo => do7_ev x y hx hy sto lo hlo
  have hbg : Big (xorI .i64 x y) := ⟨by have h1 := hx.1; have h2 := hx.2; have h3 := hy.1; have h4 := hy.2; omega, by have h1 := hx.1; have h2 := hx.2; have h3 := hy.1; have h4 := hy.2; omega⟩
  have hw := fun sto lo hlo => wWrap_ev (xorI .i64 x y) hbg sto lo hlo
  clear e
  refine CallEv.intro ⟨_, _, [], Tryd.func50, rfl, by decide, ?_⟩; simp only [go_sem, Tryd.ntmps50]
  repeat' (first | (refine go ⟨?_⟩) | (first | ((refine call ?_); (refine ⟨_, h1 _ _ (by first | omega | (simp; done) | (simp; omega)), ?_⟩); (try simp only [go_sem])) | ((refine call ?_); (refine ⟨_, h2 _ _ (by first | omega | (simp; done) | (simp; omega)), ?_⟩); (try simp only [go_sem])) | ((refine call ?_); (refine ⟨_, hd _ _ (by first | omega | (simp; done) | (simp; omega)), ?_⟩); (try simp only [go_sem])) | ((refine call ?_); (refine ⟨_, hw _ _ (by first | omega | (simp; done) | (simp; omega)), ?_⟩); (try simp only [go_sem]))) | ((first | (refine bsp ?_ ?_) | (refine csp ?_ ?_)); all_goals (intro hb; (fail_if_success (cases hb; done)); (try simp only [decide_eq_true_eq, decide_eq_false_iff_not, beq_iff_eq, bne_iff_ne, ne_eq, beq_eq_false_iff_ne, bne_eq_false_iff_eq, Bool.not_eq_true', Bool.not_eq_false', Bool.and_eq_true, Bool.or_eq_true, Decidable.not_not] at hb); (try simp only [go_sem]))))
  refine ⟨by first | exact .inr rfl | exact .inl rfl, .inl ⟨[], _, (by dsimp only [Tryd.f50]; exact sv), ?_, by simp⟩⟩
  rfl
theorem wOp8_ev (a b : Int) (ha : Big a) (hb : Big b) (sto : Sto) (lo : Nat) (hlo : lo ≤ sto.length) : CallEv Tryd.prog tab B0 50 [.v (VI 8), .v (VI a), .v (VI b)] sto lo (.v (.tup [VI (opW 8 (wrapS a) (wrapS b)), VI (codeW 8 (wrapS b))])) sto := by
  have h1 := fun sto lo hlo => wWrap_ev a ha sto lo hlo
  have h2 := fun sto lo hlo => wWrap_ev b hb sto lo hlo
  have hx := wrap_wd a
  have hy := wrap_wd b
  generalize wrapS a = x at *
  generalize wrapS b = y at *
  have e : opW 8 x y = wrapS (x * ((2 ^ (bitsW y % 4) : Nat) : Int)) := by simp [opW]
  have hsm := do_small hx hy
  rw [e, show codeW 8 y = 0 from by simp [codeW]]
  have hd := fun sto lo hlo => do8_ev x y hx hy sto lo hlo
  have hbg : Big (x * ((2 ^ (bitsW y % 4) : Nat) : Int)) := ⟨by have h1 := hx.1; have h2 := hx.2; have h3 := hy.1; have h4 := hy.2; omega, by have h1 := hx.1; have h2 := hx.2; have h3 := hy.1; have h4 := hy.2; omega⟩
  have hw := fun sto lo hlo => wWrap_ev (x * ((2 ^ (bitsW y % 4) : Nat) : Int)) hbg sto lo hlo
  clear e
  refine CallEv.intro ⟨_, _, [], Tryd.func50, rfl, by decide, ?_⟩; simp only [go_sem, Tryd.ntmps50]
  repeat' (first | (refine go ⟨?_⟩) | (first | ((refine call ?_); (refine ⟨_, h1 _ _ (by first | omega | (simp; done) | (simp; omega)), ?_⟩); (try simp only [go_sem])) | ((refine call ?_); (refine ⟨_, h2 _ _ (by first | omega | (simp; done) | (simp; omega)), ?_⟩); (try simp only [go_sem])) | ((refine call ?_); (refine ⟨_, hd _ _ (by first | omega | (simp; done) | (simp; omega)), ?_⟩); (try simp only [go_sem])) | ((refine call ?_); (refine ⟨_, hw _ _ (by first | omega | (simp; done) | (simp; omega)), ?_⟩); (try simp only [go_sem]))) | ((first | (refine bsp ?_ ?_) | (refine csp ?_ ?_)); all_goals (intro hb; (fail_if_success (cases hb; done)); (try simp only [decide_eq_true_eq, decide_eq_false_iff_not, beq_iff_eq, bne_iff_ne, ne_eq, beq_eq_false_iff_ne, bne_eq_false_iff_eq, Bool.not_eq_true', Bool.not_eq_false', Bool.and_eq_true, Bool.or_eq_true, Decidable.not_not] at hb); (try simp only [go_sem]))))
  refine ⟨by first | exact .inr rfl | exact .inl rfl, .inl ⟨[], _, (by dsimp only [Tryd.f50]; exact sv), ?_, by simp⟩⟩
  rfl
theorem wOp9_ev (a b : Int) (ha : Big a) (hb : Big b) (sto : Sto) (lo : Nat) (hlo : lo ≤ sto.length) : CallEv Tryd.prog tab B0 50 [.v (VI 9), .v (VI a), .v (VI b)] sto lo (.v (.tup [VI (opW 9 (wrapS a) (wrapS b)), VI (codeW 9 (wrapS b))])) sto := by
  have h1 := fun sto lo hlo => wWrap_ev a ha sto lo hlo
  have h2 := fun sto lo hlo => wWrap_ev b hb sto lo hlo
  have hx := wrap_wd a
  have hy := wrap_wd b
  generalize wrapS a = x at *
  generalize wrapS b = y at *
  have e : opW 9 x y = wrapS (x.fdiv ((2 ^ (bitsW y % 4) : Nat) : Int)) := by simp [opW]
  have hsm := do_small hx hy
  rw [e, show codeW 9 y = 0 from by simp [codeW]]
  have hd := fun sto lo hlo => do9_ev x y hx hy sto lo hlo
  have hbg : Big (x.fdiv ((2 ^ (bitsW y % 4) : Nat) : Int)) := ⟨by have h1 := hx.1; have h2 := hx.2; have h3 := hy.1; have h4 := hy.2; omega, by have h1 := hx.1; have h2 := hx.2; have h3 := hy.1; have h4 := hy.2; omega⟩
  have hw := fun sto lo hlo => wWrap_ev (x.fdiv ((2 ^ (bitsW y % 4) : Nat) : Int)) hbg sto lo hlo
  clear e
  refine CallEv.intro ⟨_, _, [], Tryd.func50, rfl, by decide, ?_⟩; simp only [go_sem, Tryd.ntmps50]
  repeat' (first | (refine go ⟨?_⟩) | (first | ((refine call ?_); (refine ⟨_, h1 _ _ (by first | omega | (simp; done) | (simp; omega)), ?_⟩); (try simp only [go_sem])) | ((refine call ?_); (refine ⟨_, h2 _ _ (by first | omega | (simp; done) | (simp; omega)), ?_⟩); (try simp only [go_sem])) | ((refine call ?_); (refine ⟨_, hd _ _ (by first | omega | (simp; done) | (simp; omega)), ?_⟩); (try simp only [go_sem])) | ((refine call ?_); (refine ⟨_, hw _ _ (by first | omega | (simp; done) | (simp; omega)), ?_⟩); (try simp only [go_sem]))) | ((first | (refine bsp ?_ ?_) | (refine csp ?_ ?_)); all_goals (intro hb; (fail_if_success (cases hb; done)); (try simp only [decide_eq_true_eq, decide_eq_false_iff_not, beq_iff_eq, bne_iff_ne, ne_eq, beq_eq_false_iff_ne, bne_eq_false_iff_eq, Bool.not_eq_true', Bool.not_eq_false', Bool.and_eq_true, Bool.or_eq_true, Decidable.not_not] at hb); (try simp only [go_sem]))))
  refine ⟨by first | exact .inr rfl | exact .inl rfl, .inl ⟨[], _, (by dsimp only [Tryd.f50]; exact sv), ?_, by simp⟩⟩
  rfl
theorem wOp10_ev (a b : Int) (ha : Big a) (hb : Big b) (sto : Sto) (lo : Nat) (hlo : lo ≤ sto.length) : CallEv Tryd.prog tab B0 50 [.v (VI 10), .v (VI a), .v (VI b)] sto lo (.v (.tup [VI (opW 10 (wrapS a) (wrapS b)), VI (codeW 10 (wrapS b))])) sto := by
  have h1 := fun sto lo hlo => wWrap_ev a ha sto lo hlo
  have h2 := fun sto lo hlo => wWrap_ev b hb sto lo hlo
  have hx := wrap_wd a
  have hy := wrap_wd b
  generalize wrapS a = x at *
  generalize wrapS b = y at *
  have e : opW 10 x y = if decide (x < y) then 1 else 0 := by simp [opW]
  rw [e, show codeW 10 y = 0 from by simp [codeW]]
  have hd := fun sto lo hlo => do10_ev x y sto lo hlo
  have hr : (if decide (x < y) then 1 else 0) = (0 : Int) ∨ (if decide (x < y) then 1 else 0) = (1 : Int) := by split <;> simp
  generalize (if decide (x < y) then 1 else 0 : Int) = r at *
  have hbg : Big (r) := ⟨by have h1 := hx.1; have h2 := hx.2; have h3 := hy.1; have h4 := hy.2; omega, by have h1 := hx.1; have h2 := hx.2; have h3 := hy.1; have h4 := hy.2; omega⟩
  have hw := fun sto lo hlo => wWrap_ev (r) hbg sto lo hlo
  rw [wrapS_id (by omega) (by omega)] at hw
  clear e
  refine CallEv.intro ⟨_, _, [], Tryd.func50, rfl, by decide, ?_⟩; simp only [go_sem, Tryd.ntmps50]
  repeat' (first | (refine go ⟨?_⟩) | (first | ((refine call ?_); (refine ⟨_, h1 _ _ (by first | omega | (simp; done) | (simp; omega)), ?_⟩); (try simp only [go_sem])) | ((refine call ?_); (refine ⟨_, h2 _ _ (by first | omega | (simp; done) | (simp; omega)), ?_⟩); (try simp only [go_sem])) | ((refine call ?_); (refine ⟨_, hd _ _ (by first | omega | (simp; done) | (simp; omega)), ?_⟩); (try simp only [go_sem])) | ((refine call ?_); (refine ⟨_, hw _ _ (by first | omega | (simp; done) | (simp; omega)), ?_⟩); (try simp only [go_sem]))) | ((first | (refine bsp ?_ ?_) | (refine csp ?_ ?_)); all_goals (intro hb; (fail_if_success (cases hb; done)); (try simp only [decide_eq_true_eq, decide_eq_false_iff_not, beq_iff_eq, bne_iff_ne, ne_eq, beq_eq_false_iff_ne, bne_eq_false_iff_eq, Bool.not_eq_true', Bool.not_eq_false', Bool.and_eq_true, Bool.or_eq_true, Decidable.not_not] at hb); (try simp only [go_sem]))))
  refine ⟨by first | exact .inr rfl | exact .inl rfl, .inl ⟨[], _, (by dsimp only [Tryd.f50]; exact sv), ?_, by simp⟩⟩
  rfl
theorem wOp11_ev (a b : Int) (ha : Big a) (hb : Big b) (sto : Sto) (lo : Nat) (hlo : lo ≤ sto.length) : CallEv Tryd.prog tab B0 50 [.v (VI 11), .v (VI a), .v (VI b)] sto lo (.v (.tup [VI (opW 11 (wrapS a) (wrapS b)), VI (codeW 11 (wrapS b))])) sto := by
  have h1 := fun sto lo hlo => wWrap_ev a ha sto lo hlo
  have h2 := fun sto lo hlo => wWrap_ev b hb sto lo hlo
  have hx := wrap_wd a
  have hy := wrap_wd b
  generalize wrapS a = x at *
  generalize wrapS b = y at *
  have e : opW 11 x y = if decide (x = y) then 1 else 0 := by simp [opW]
  rw [e, show codeW 11 y = 0 from by simp [codeW]]
  have hd := fun sto lo hlo => do11_ev x y sto lo hlo
  have hr : (if decide (x = y) then 1 else 0) = (0 : Int) ∨ (if decide (x = y) then 1 else 0) = (1 : Int) := by split <;> simp
  generalize (if decide (x = y) then 1 else 0 : Int) = r at *
  have hbg : Big (r) := ⟨by have h1 := hx.1; have h2 := hx.2; have h3 := hy.1; have h4 := hy.2; omega, by have h1 := hx.1; have h2 := hx.2; have h3 := hy.1; have h4 := hy.2; omega⟩
  have hw := fun sto lo hlo => wWrap_ev (r) hbg sto lo hlo
  rw [wrapS_id (by omega) (by omega)] at hw
  clear e
  refine CallEv.intro ⟨_, _, [], Tryd.func50, rfl, by decide, ?_⟩; simp only [go_sem, Tryd.ntmps50]
  repeat' (first | (refine go ⟨?_⟩) | (first | ((refine call ?_); (refine ⟨_, h1 _ _ (by first | omega | (simp; done) | (simp; omega)), ?_⟩); (try simp only [go_sem])) | ((refine call ?_); (refine ⟨_, h2 _ _ (by first | omega | (simp; done) | (simp; omega)), ?_⟩); (try simp only [go_sem])) | ((refine call ?_); (refine ⟨_, hd _ _ (by first | omega | (simp; done) | (simp; omega)), ?_⟩); (try simp only [go_sem])) | ((refine call ?_); (refine ⟨_, hw _ _ (by first | omega | (simp; done) | (simp; omega)), ?_⟩); (try simp only [go_sem]))) | ((first | (refine bsp ?_ ?_) | (refine csp ?_ ?_)); all_goals (intro hb; (fail_if_success (cases hb; done)); (try simp only [decide_eq_true_eq, decide_eq_false_iff_not, beq_iff_eq, bne_iff_ne, ne_eq, beq_eq_false_iff_ne, bne_eq_false_iff_eq, Bool.not_eq_true', Bool.not_eq_false', Bool.and_eq_true, Bool.or_eq_true, Decidable.not_not] at hb); (try simp only [go_sem]))))
  refine ⟨by first | exact .inr rfl | exact .inl rfl, .inl ⟨[], _, (by dsimp only [Tryd.f50]; exact sv), ?_, by simp⟩⟩
  rfl
theorem wOp12_ev (a b : Int) (ha : Big a) (hb : Big b) (sto : Sto) (lo : Nat) (hlo : lo ≤ sto.length) : CallEv Tryd.prog tab B0 50 [.v (VI 12), .v (VI a), .v (VI b)] sto lo (.v (.tup [VI (opW 12 (wrapS a) (wrapS b)), VI (codeW 12 (wrapS b))])) sto := by
  have h1 := fun sto lo hlo => wWrap_ev a ha sto lo hlo
  have h2 := fun sto lo hlo => wWrap_ev b hb sto lo hlo
  have hx := wrap_wd a
  have hy := wrap_wd b
  generalize wrapS a = x at *
  generalize wrapS b = y at *
  have e : opW 12 x y = if x ≠ 0 ∧ y ≠ 0 then 1 else 0 := by simp [opW]
  rw [e, show codeW 12 y = 0 from by simp [codeW]]
  have hd := fun sto lo hlo => do12_ev x y sto lo hlo
  have hr : (if x ≠ 0 ∧ y ≠ 0 then 1 else 0) = (0 : Int) ∨ (if x ≠ 0 ∧ y ≠ 0 then 1 else 0) = (1 : Int) := by split <;> simp
  generalize (if x ≠ 0 ∧ y ≠ 0 then 1 else 0 : Int) = r at *
  have hbg : Big (r) := ⟨by have h1 := hx.1; have h2 := hx.2; have h3 := hy.1; have h4 := hy.2; omega, by have h1 := hx.1; have h2 := hx.2; have h3 := hy.1; have h4 := hy.2; omega⟩
  have hw := fun sto lo hlo => wWrap_ev (r) hbg sto lo hlo
  rw [wrapS_id (by omega) (by omega)] at hw
  clear e
  refine CallEv.intro ⟨_, _, [], Tryd.func50, rfl, by decide, ?_⟩; simp only [go_sem, Tryd.ntmps50]
  repeat' (first | (refine go ⟨?_⟩) | (first | ((refine call ?_); (refine ⟨_, h1 _ _ (by first | omega | (simp; done) | (simp; omega)), ?_⟩); (try simp only [go_sem])) | ((refine call ?_); (refine ⟨_, h2 _ _ (by first | omega | (simp; done) | (simp; omega)), ?_⟩); (try simp only [go_sem])) | ((refine call ?_); (refine ⟨_, hd _ _ (by first | omega | (simp; done) | (simp; omega)), ?_⟩); (try simp only [go_sem])) | ((refine call ?_); (refine ⟨_, hw _ _ (by first | omega | (simp; done) | (simp; omega)), ?_⟩); (try simp only [go_sem]))) | ((first | (refine bsp ?_ ?_) | (refine csp ?_ ?_)); all_goals (intro hb; (fail_if_success (cases hb; done)); (try simp only [decide_eq_true_eq, decide_eq_false_iff_not, beq_iff_eq, bne_iff_ne, ne_eq, beq_eq_false_iff_ne, bne_eq_false_iff_eq, Bool.not_eq_true', Bool.not_eq_false', Bool.and_eq_true, Bool.or_eq_true, Decidable.not_not] at hb); (try simp only [go_sem]))))
  refine ⟨by first | exact .inr rfl | exact .inl rfl, .inl ⟨[], _, (by dsimp only [Tryd.f50]; exact sv), ?_, by simp⟩⟩
  rfl
theorem wOp13_ev (a b : Int) (ha : Big a) (hb : Big b) (sto : Sto) (lo : Nat) (hlo : lo ≤ sto.length) : CallEv Tryd.prog tab B0 50 [.v (VI 13), .v (VI a), .v (VI b)] sto lo (.v (.tup [VI (opW 13 (wrapS a) (wrapS b)), VI (codeW 13 (wrapS b))])) sto := by
  have h1 := fun sto lo hlo => wWrap_ev a ha sto lo hlo
  have h2 := fun sto lo hlo => wWrap_ev b hb sto lo hlo
  have hx := wrap_wd a
  have hy := wrap_wd b
  generalize wrapS a = x at *
  generalize wrapS b = y at *
  have e : opW 13 x y = if x ≠ 0 ∨ y ≠ 0 then 1 else 0 := by simp [opW]
  rw [e, show codeW 13 y = 0 from by simp [codeW]]
  have hd := fun sto lo hlo => do13_ev x y sto lo hlo
  have hr : (if x ≠ 0 ∨ y ≠ 0 then 1 else 0) = (0 : Int) ∨ (if x ≠ 0 ∨ y ≠ 0 then 1 else 0) = (1 : Int) := by split <;> simp
  generalize (if x ≠ 0 ∨ y ≠ 0 then 1 else 0 : Int) = r at *
  have hbg : Big (r) := ⟨by have h1 := hx.1; have h2 := hx.2; have h3 := hy.1; have h4 := hy.2; omega, by have h1 := hx.1; have h2 := hx.2; have h3 := hy.1; have h4 := hy.2; omega⟩
  have hw := fun sto lo hlo => wWrap_ev (r) hbg sto lo hlo
  rw [wrapS_id (by omega) (by omega)] at hw
  clear e
  refine CallEv.intro ⟨_, _, [], Tryd.func50, rfl, by decide, ?_⟩; simp only [go_sem, Tryd.ntmps50]
  repeat' (first | (refine go ⟨?_⟩) | (first | ((refine call ?_); (refine ⟨_, h1 _ _ (by first | omega | (simp; done) | (simp; omega)), ?_⟩); (try simp only [go_sem])) | ((refine call ?_); (refine ⟨_, h2 _ _ (by first | omega | (simp; done) | (simp; omega)), ?_⟩); (try simp only [go_sem])) | ((refine call ?_); (refine ⟨_, hd _ _ (by first | omega | (simp; done) | (simp; omega)), ?_⟩); (try simp only [go_sem])) | ((refine call ?_); (refine ⟨_, hw _ _ (by first | omega | (simp; done) | (simp; omega)), ?_⟩); (try simp only [go_sem]))) | ((first | (refine bsp ?_ ?_) | (refine csp ?_ ?_)); all_goals (intro hb; (fail_if_success (cases hb; done)); (try simp only [decide_eq_true_eq, decide_eq_false_iff_not, beq_iff_eq, bne_iff_ne, ne_eq, beq_eq_false_iff_ne, bne_eq_false_iff_eq, Bool.not_eq_true', Bool.not_eq_false', Bool.and_eq_true, Bool.or_eq_true, Decidable.not_not] at hb); (try simp only [go_sem]))))
  refine ⟨by first | exact .inr rfl | exact .inl rfl, .inl ⟨[], _, (by dsimp only [Tryd.f50]; exact sv), ?_, by simp⟩⟩
  rfl
end Go.Proofs.YtomameefmobnlaaDoor
namespace Go.Proofs.YtomameefmobnlaaDoor
open Go Go.RowKit

attribute [local irreducible] EvOps EvC
attribute [local go_sem] List.getElem?_toArray getS List.flatten_cons List.flatten_nil List.contains_nil
set_option linter.unusedSimpArgs false
set_option linter.unusedVariables false
set_option maxRecDepth 100000
set_option maxHeartbeats 4000000
theorem refVar_ev (n m : Int) (sto : Sto) (lo : Nat) (hlo : lo ≤ sto.length) : CallEv Tryd.prog tab B0 39 [.v (VI n), .v (VI m)] sto lo (.v (TV (.mk 6 n m []))) sto := by
  refine CallEv.intro ⟨_, _, [], Tryd.func39, rfl, by decide, ?_⟩; simp only [go_sem, Tryd.ntmps39]
  repeat' (first | (refine go ⟨?_⟩) | (fail) | ((first | (refine bsp ?_ ?_) | (refine csp ?_ ?_)); all_goals (intro hb; (fail_if_success (cases hb; done)); (try simp only [decide_eq_true_eq, decide_eq_false_iff_not, beq_iff_eq, bne_iff_ne, ne_eq, beq_eq_false_iff_ne, bne_eq_false_iff_eq, Bool.not_eq_true', Bool.not_eq_false', Bool.and_eq_true, Bool.or_eq_true, Decidable.not_not] at hb); (try simp only [go_sem]))))
  refine ⟨by first | exact .inr rfl | exact .inl rfl, .inl ⟨[], _, (by dsimp only [Tryd.f39]; exact sv), ?_, by simp⟩⟩
  rfl
theorem refBin_ev (op : Int) (a b : Tr) (sto : Sto) (lo : Nat) (hlo : lo ≤ sto.length) : CallEv Tryd.prog tab B0 31 [.v (VI op), .v (TV a), .v (TV b)] sto lo (.v (TV (.mk 9 op 0 [a, b]))) sto := by
  obtain ⟨k1, n1, m1, l1⟩ := a
  obtain ⟨k2, n2, m2, l2⟩ := b
  refine CallEv.intro ⟨_, _, [], Tryd.func31, rfl, by decide, ?_⟩; simp only [go_sem, Tryd.ntmps31]
  repeat' (first | (refine go ⟨?_⟩) | (fail) | ((first | (refine bsp ?_ ?_) | (refine csp ?_ ?_)); all_goals (intro hb; (fail_if_success (cases hb; done)); (try simp only [decide_eq_true_eq, decide_eq_false_iff_not, beq_iff_eq, bne_iff_ne, ne_eq, beq_eq_false_iff_ne, bne_eq_false_iff_eq, Bool.not_eq_true', Bool.not_eq_false', Bool.and_eq_true, Bool.or_eq_true, Decidable.not_not] at hb); (try simp only [go_sem]))))
  refine ⟨by first | exact .inr rfl | exact .inl rfl, .inl ⟨[], _, (by dsimp only [Tryd.f31]; exact sv), ?_, by simp⟩⟩
  rfl
theorem refNot_ev (a : Tr) (sto : Sto) (lo : Nat) (hlo : lo ≤ sto.length) : CallEv Tryd.prog tab B0 32 [.v (TV a)] sto lo (.v (TV (.mk 10 0 0 [a]))) sto := by
  obtain ⟨k1, n1, m1, l1⟩ := a
  refine CallEv.intro ⟨_, _, [], Tryd.func32, rfl, by decide, ?_⟩; simp only [go_sem, Tryd.ntmps32]
  repeat' (first | (refine go ⟨?_⟩) | (fail) | ((first | (refine bsp ?_ ?_) | (refine csp ?_ ?_)); all_goals (intro hb; (fail_if_success (cases hb; done)); (try simp only [decide_eq_true_eq, decide_eq_false_iff_not, beq_iff_eq, bne_iff_ne, ne_eq, beq_eq_false_iff_ne, bne_eq_false_iff_eq, Bool.not_eq_true', Bool.not_eq_false', Bool.and_eq_true, Bool.or_eq_true, Decidable.not_not] at hb); (try simp only [go_sem]))))
  refine ⟨by first | exact .inr rfl | exact .inl rfl, .inl ⟨[], _, (by dsimp only [Tryd.f32]; exact sv), ?_, by simp⟩⟩
  rfl
theorem refCond_ev (c a b : Tr) (sto : Sto) (lo : Nat) (hlo : lo ≤ sto.length) : CallEv Tryd.prog tab B0 30 [.v (TV c), .v (TV a), .v (TV b)] sto lo (.v (TV (.mk 29 0 0 [c, a, b]))) sto := by
  obtain ⟨k0, n0, m0, l0⟩ := c
  obtain ⟨k1, n1, m1, l1⟩ := a
  obtain ⟨k2, n2, m2, l2⟩ := b
  refine CallEv.intro ⟨_, _, [], Tryd.func30, rfl, by decide, ?_⟩; simp only [go_sem, Tryd.ntmps30]
  repeat' (first | (refine go ⟨?_⟩) | (fail) | ((first | (refine bsp ?_ ?_) | (refine csp ?_ ?_)); all_goals (intro hb; (fail_if_success (cases hb; done)); (try simp only [decide_eq_true_eq, decide_eq_false_iff_not, beq_iff_eq, bne_iff_ne, ne_eq, beq_eq_false_iff_ne, bne_eq_false_iff_eq, Bool.not_eq_true', Bool.not_eq_false', Bool.and_eq_true, Bool.or_eq_true, Decidable.not_not] at hb); (try simp only [go_sem]))))
  refine ⟨by first | exact .inr rfl | exact .inl rfl, .inl ⟨[], _, (by dsimp only [Tryd.f30]; exact sv), ?_, by simp⟩⟩
  rfl
theorem refWrap_ev (n : Int) (hn : Big n) (sto : Sto) (lo : Nat) (hlo : lo ≤ sto.length) : CallEv Tryd.prog tab B0 52 [.v (VI n)] sto lo (.v (VI (wrapS n))) sto := by
  have h1 := Int.lt_tmod_of_pos n (b := 16) (by omega)
  have h2 := Int.tmod_lt_of_pos n (b := 16) (by omega)
  obtain ⟨hn1, hn2⟩ := hn
  unfold wrapS
  refine CallEv.intro ⟨_, _, [], Tryd.func52, rfl, by decide, ?_⟩; simp only [go_sem, Tryd.ntmps52]
  by_cases c1 : n.tmod 16 < -8
  · rw [if_pos c1]
    repeat' (first | (refine go ⟨?_⟩) | (fail) | ((first | (refine bsp ?_ ?_) | (refine csp ?_ ?_)); all_goals (intro hb; (fail_if_success (cases hb; done)); (try simp only [decide_eq_true_eq, decide_eq_false_iff_not, beq_iff_eq, bne_iff_ne, ne_eq, beq_eq_false_iff_ne, bne_eq_false_iff_eq, Bool.not_eq_true', Bool.not_eq_false', Bool.and_eq_true, Bool.or_eq_true, Decidable.not_not] at hb); (try simp only [go_sem]))))
    refine ⟨by first | exact .inr rfl | exact .inl rfl, .inl ⟨[], _, (by dsimp only [Tryd.f52]; exact sv), ?_, by simp⟩⟩
    rfl
  rw [if_neg c1]
  by_cases c2 : n.tmod 16 > 7
  · rw [if_pos c2]
    repeat' (first | (refine go ⟨?_⟩) | (fail) | ((first | (refine bsp ?_ ?_) | (refine csp ?_ ?_)); all_goals (intro hb; (fail_if_success (cases hb; done)); (try simp only [decide_eq_true_eq, decide_eq_false_iff_not, beq_iff_eq, bne_iff_ne, ne_eq, beq_eq_false_iff_ne, bne_eq_false_iff_eq, Bool.not_eq_true', Bool.not_eq_false', Bool.and_eq_true, Bool.or_eq_true, Decidable.not_not] at hb); (try simp only [go_sem]))))
    refine ⟨by first | exact .inr rfl | exact .inl rfl, .inl ⟨[], _, (by dsimp only [Tryd.f52]; exact sv), ?_, by simp⟩⟩
    rfl
  · rw [if_neg c2]
    repeat' (first | (refine go ⟨?_⟩) | (fail) | ((first | (refine bsp ?_ ?_) | (refine csp ?_ ?_)); all_goals (intro hb; (fail_if_success (cases hb; done)); (try simp only [decide_eq_true_eq, decide_eq_false_iff_not, beq_iff_eq, bne_iff_ne, ne_eq, beq_eq_false_iff_ne, bne_eq_false_iff_eq, Bool.not_eq_true', Bool.not_eq_false', Bool.and_eq_true, Bool.or_eq_true, Decidable.not_not] at hb); (try simp only [go_sem]))))
    refine ⟨by first | exact .inr rfl | exact .inl rfl, .inl ⟨[], _, (by dsimp only [Tryd.f52]; exact sv), ?_, by simp⟩⟩
    rfl
theorem refBits_ev (n : Int) (hn : Big n) (sto : Sto) (lo : Nat) (hlo : lo ≤ sto.length) : CallEv Tryd.prog tab B0 73 [.v (VI n)] sto lo (.v (VI (bitsW n))) sto := by
  have h := wrapS_range n
  have hw := fun sto lo hlo => refWrap_ev n hn sto lo hlo
  have e : ((bitsW n : Nat) : Int) = (wrapS n + 16).tmod 16 := by
    unfold bitsW
    rw [Int.tmod_eq_emod_of_nonneg (by omega)]; omega
  rw [e]
  generalize wrapS n = w at *
  have h1 := Int.lt_tmod_of_pos (w + 16) (b := 16) (by omega)
  have h2 := Int.tmod_lt_of_pos (w + 16) (b := 16) (by omega)
  refine CallEv.intro ⟨_, _, [], Tryd.func73, rfl, by decide, ?_⟩; simp only [go_sem, Tryd.ntmps73]
  repeat' (first | (refine go ⟨?_⟩) | (((refine call ?_); (refine ⟨_, hw _ _ (by first | omega | (simp; done) | (simp; omega)), ?_⟩); (try simp only [go_sem]))) | ((first | (refine bsp ?_ ?_) | (refine csp ?_ ?_)); all_goals (intro hb; (fail_if_success (cases hb; done)); (try simp only [decide_eq_true_eq, decide_eq_false_iff_not, beq_iff_eq, bne_iff_ne, ne_eq, beq_eq_false_iff_ne, bne_eq_false_iff_eq, Bool.not_eq_true', Bool.not_eq_false', Bool.and_eq_true, Bool.or_eq_true, Decidable.not_not] at hb); (try simp only [go_sem]))))
  refine ⟨by first | exact .inr rfl | exact .inl rfl, .inl ⟨[], _, (by dsimp only [Tryd.f73]; exact sv), ?_, by simp⟩⟩
  rfl
theorem refNumber_ev (b : Bool) (sto : Sto) (lo : Nat) (hlo : lo ≤ sto.length) : CallEv Tryd.prog tab B0 51 [.v (.bool b)] sto lo (.v (VI (if b then 1 else 0))) sto := by
  cases b
  all_goals
    refine CallEv.intro ⟨_, _, [], Tryd.func51, rfl, by decide, ?_⟩; simp only [go_sem, Tryd.ntmps51]
    repeat' (first | (refine go ⟨?_⟩) | (fail) | ((first | (refine bsp ?_ ?_) | (refine csp ?_ ?_)); all_goals (intro hb; (fail_if_success (cases hb; done)); (try simp only [decide_eq_true_eq, decide_eq_false_iff_not, beq_iff_eq, bne_iff_ne, ne_eq, beq_eq_false_iff_ne, bne_eq_false_iff_eq, Bool.not_eq_true', Bool.not_eq_false', Bool.and_eq_true, Bool.or_eq_true, Decidable.not_not] at hb); (try simp only [go_sem]))))
    refine ⟨by first | exact .inr rfl | exact .inl rfl, .inl ⟨[], _, (by dsimp only [Tryd.f51]; exact sv), ?_, by simp⟩⟩
    rfl
end Go.Proofs.YtomameefmobnlaaDoor
namespace Go.Proofs.YtomameefmobnlaaDoor
open Go Go.RowKit

attribute [local irreducible] EvOps EvC
attribute [local go_sem] List.getElem?_toArray getS List.flatten_cons List.flatten_nil List.contains_nil
set_option linter.unusedSimpArgs false
set_option linter.unusedVariables false
set_option maxRecDepth 100000
set_option maxHeartbeats 4000000
theorem quot0_ev (a b : Int) (ha : 0 ≤ a) (ha2 : a ≤ 8) (hb : 0 < b) (hb2 : b ≤ 8) (sto : Sto) (lo : Nat) (hlo : lo ≤ sto.length) : CallEv Tryd.prog tab B0 70 [.v (VI a), .v (VI b)] sto lo (.v (VI (a.tdiv b))) sto := by
  refine CallEv.intro ⟨_, _, [], Tryd.func70, rfl, by decide, ?_⟩; simp only [go_sem, Tryd.ntmps70]
  repeat' (first | (refine go ⟨?_⟩) | (fail) | ((first | (refine bsp ?_ ?_) | (refine csp ?_ ?_)); all_goals (intro hb; (fail_if_success (cases hb; done)); (try simp only [decide_eq_true_eq, decide_eq_false_iff_not, beq_iff_eq, bne_iff_ne, ne_eq, beq_eq_false_iff_ne, bne_eq_false_iff_eq, Bool.not_eq_true', Bool.not_eq_false', Bool.and_eq_true, Bool.or_eq_true, Decidable.not_not] at hb); (try simp only [go_sem]))))
  refine c_loop (fun m s => ∃ (r n : Int), (0 ≤ r ∧ r ≤ 8 ∧ 0 ≤ n ∧ n ≤ 8 - r ∧ m = r.toNat ∧ Hid (r + n * b = a)) ∧ (s.env.length = 29 ∧ s.sto = sto ∧ s.env[0]? = some (.v (VI r)) ∧ s.env[1]? = some (.v (VI b)) ∧ s.env[5]? = some (.v (VI n)))) (.refl _) ⟨a, 0, ⟨ha, ha2, by omega, by omega, rfl, Lib.hid (by simp)⟩, rfl, rfl, ?_, ?_, ?_⟩ ?_
  all_goals first | rfl | skip
  rintro m s ⟨r, n, ⟨h1, h2, h3, h4, rfl, h5⟩, hL, hT, k0, k1, k5⟩
  obtain ⟨env, st0⟩ := s; obtain ⟨J, hJ⟩ := listJ hL; rw [show (List.range 29).map J = J 0 :: J 1 :: J 2 :: J 3 :: J 4 :: J 5 :: J 6 :: J 7 :: J 8 :: J 9 :: J 10 :: J 11 :: J 12 :: J 13 :: J 14 :: J 15 :: J 16 :: J 17 :: J 18 :: J 19 :: J 20 :: J 21 :: J 22 :: J 23 :: J 24 :: J 25 :: J 26 :: J 27 :: J 28 :: [] from by kernel_rfl] at hJ; replace k0 := Option.some.inj ((congrArg (·[0]?) hJ).symm.trans k0); replace k1 := Option.some.inj ((congrArg (·[1]?) hJ).symm.trans k1); replace k5 := Option.some.inj ((congrArg (·[5]?) hJ).symm.trans k5); rw [k0, k1, k5] at hJ; dsimp only at hJ hT; subst hJ; replace hT := hT.symm; subst hT; clear hL k0 k1 k5
  by_cases hc : r ≥ b
  · repeat' (first | (refine go ⟨?_⟩) | (fail) | ((first | (refine bsp ?_ ?_) | (refine csp ?_ ?_)); all_goals (intro hb; (fail_if_success (cases hb; done)); (try simp only [decide_eq_true_eq, decide_eq_false_iff_not, beq_iff_eq, bne_iff_ne, ne_eq, beq_eq_false_iff_ne, bne_eq_false_iff_eq, Bool.not_eq_true', Bool.not_eq_false', Bool.and_eq_true, Bool.or_eq_true, Decidable.not_not] at hb); (try simp only [go_sem]))))
    refine ⟨_, _, ?_, .refl _, r - b, n + 1, ⟨by omega, by omega, by omega, by omega, rfl, Lib.hid ?_⟩, rfl, rfl, ?_, ?_, ?_⟩
    · omega
    · have h5 : r + n * b = a := h5
      rw [Int.add_mul]; omega
    all_goals rfl
  · repeat' (first | (refine go ⟨?_⟩) | (fail) | ((first | (refine bsp ?_ ?_) | (refine csp ?_ ?_)); all_goals (intro hb; (fail_if_success (cases hb; done)); (try simp only [decide_eq_true_eq, decide_eq_false_iff_not, beq_iff_eq, bne_iff_ne, ne_eq, beq_eq_false_iff_ne, bne_eq_false_iff_eq, Bool.not_eq_true', Bool.not_eq_false', Bool.and_eq_true, Bool.or_eq_true, Decidable.not_not] at hb); (try simp only [go_sem]))))
    refine ⟨by first | exact .inr rfl | exact .inl rfl, .inl ⟨[], _, (by dsimp only [Tryd.f70]; exact sv), ?_, by simp⟩⟩
    have h5 : r + n * b = a := h5
    rw [← h5, Int.tdiv_eq_ediv_of_nonneg (by rw [h5]; omega), Int.add_mul_ediv_right _ _ (by omega), Int.ediv_eq_zero_of_lt h1 (by omega), Int.zero_add]
theorem quot1_ev (a b : Int) (ha : 0 ≤ a) (ha2 : a ≤ 8) (hb : Wd b) (h0 : b ≠ 0) (sto : Sto) (lo : Nat) (hlo : lo ≤ sto.length) : CallEv Tryd.prog tab B0 70 [.v (VI a), .v (VI b)] sto lo (.v (VI (a.tdiv b))) sto := by
  obtain ⟨hb1, hb2⟩ := hb
  by_cases hc : b < 0
  · have hq := fun sto lo hlo => quot0_ev a (0 - b) ha ha2 (by omega) (by omega) sto lo hlo
    have hr : 0 ≤ a.tdiv (0 - b) ∧ a.tdiv (0 - b) ≤ a := ⟨Int.tdiv_nonneg ha (by omega), by rw [Int.tdiv_eq_ediv_of_nonneg ha]; exact Int.ediv_le_self _ ha⟩
    have e : a.tdiv b = 0 - (a.tdiv (0 - b)) := by rw [Int.zero_sub, Int.zero_sub, Int.tdiv_neg, Int.neg_neg]
    rw [e]
    generalize a.tdiv (0 - b) = q at *
    obtain ⟨hr1, hr2⟩ := hr
    refine CallEv.intro ⟨_, _, [], Tryd.func70, rfl, by decide, ?_⟩; simp only [go_sem, Tryd.ntmps70]
    repeat' (first | (refine go ⟨?_⟩) | (((refine call ?_); (refine ⟨_, hq _ _ (by first | omega | (simp; done) | (simp; omega)), ?_⟩); (try simp only [go_sem]))) | ((first | (refine bsp ?_ ?_) | (refine csp ?_ ?_)); all_goals (intro hb; (fail_if_success (cases hb; done)); (try simp only [decide_eq_true_eq, decide_eq_false_iff_not, beq_iff_eq, bne_iff_ne, ne_eq, beq_eq_false_iff_ne, bne_eq_false_iff_eq, Bool.not_eq_true', Bool.not_eq_false', Bool.and_eq_true, Bool.or_eq_true, Decidable.not_not] at hb); (try simp only [go_sem]))))
    refine ⟨by first | exact .inr rfl | exact .inl rfl, .inl ⟨[], _, (by dsimp only [Tryd.f70]; exact sv), ?_, by simp⟩⟩
    rfl
  · exact quot0_ev a b ha ha2 (by omega) (by omega) sto lo hlo
theorem quot_ev (a b : Int) (ha : Wd a) (hb : Wd b) (h0 : b ≠ 0) (sto : Sto) (lo : Nat) (hlo : lo ≤ sto.length) : CallEv Tryd.prog tab B0 70 [.v (VI a), .v (VI b)] sto lo (.v (VI (a.tdiv b))) sto := by
  have hsm := div_small ha hb
  obtain ⟨ha1, ha2⟩ := ha
  by_cases hc : a < 0
  · have hq := fun sto lo hlo => quot1_ev (0 - a) b (by omega) (by omega) hb h0 sto lo hlo
    have e : a.tdiv b = 0 - ((0 - a).tdiv b) := by rw [Int.zero_sub, Int.zero_sub, Int.neg_tdiv, Int.neg_neg]
    rw [e] at hsm ⊢
    generalize (0 - a).tdiv b = q at *
    obtain ⟨hs1, hs2⟩ := hsm
    refine CallEv.intro ⟨_, _, [], Tryd.func70, rfl, by decide, ?_⟩; simp only [go_sem, Tryd.ntmps70]
    repeat' (first | (refine go ⟨?_⟩) | (((refine call ?_); (refine ⟨_, hq _ _ (by first | omega | (simp; done) | (simp; omega)), ?_⟩); (try simp only [go_sem]))) | ((first | (refine bsp ?_ ?_) | (refine csp ?_ ?_)); all_goals (intro hb; (fail_if_success (cases hb; done)); (try simp only [decide_eq_true_eq, decide_eq_false_iff_not, beq_iff_eq, bne_iff_ne, ne_eq, beq_eq_false_iff_ne, bne_eq_false_iff_eq, Bool.not_eq_true', Bool.not_eq_false', Bool.and_eq_true, Bool.or_eq_true, Decidable.not_not] at hb); (try simp only [go_sem]))))
    refine ⟨by first | exact .inr rfl | exact .inl rfl, .inl ⟨[], _, (by dsimp only [Tryd.f70]; exact sv), ?_, by simp⟩⟩
    rfl
  · exact quot1_ev a b (by omega) (by omega) hb h0 sto lo hlo
theorem halv_ev (a : Int) (s0 : Nat) (ha : Wd a) (hs : s0 < 4) (sto : Sto) (lo : Nat) (hlo : lo ≤ sto.length) : CallEv Tryd.prog tab B0 74 [.v (VI a), .v (VI s0)] sto lo (.v (VI (halvS s0 a))) sto := by
  obtain ⟨ha1, ha2⟩ := ha
  refine CallEv.intro ⟨_, _, [], Tryd.func74, rfl, by decide, ?_⟩; simp only [go_sem, Tryd.ntmps74]
  repeat' (first | (refine go ⟨?_⟩) | (fail) | ((first | (refine bsp ?_ ?_) | (refine csp ?_ ?_)); all_goals (intro hb; (fail_if_success (cases hb; done)); (try simp only [decide_eq_true_eq, decide_eq_false_iff_not, beq_iff_eq, bne_iff_ne, ne_eq, beq_eq_false_iff_ne, bne_eq_false_iff_eq, Bool.not_eq_true', Bool.not_eq_false', Bool.and_eq_true, Bool.or_eq_true, Decidable.not_not] at hb); (try simp only [go_sem]))))
  refine c_loop (fun m s => ∃ (i : Nat) (r : Int), (i ≤ s0 ∧ m = s0 - i ∧ -8 ≤ r ∧ r ≤ 7 ∧ Hid (halvS (s0 - i) r = halvS s0 a)) ∧ (s.env.length = 20 ∧ s.sto = sto ∧ s.env[0]? = some (.v (VI r)) ∧ s.env[1]? = some (.v (VI s0)) ∧ s.env[5]? = some (.v (VI i)))) (.refl _) ⟨0, a, ⟨by omega, rfl, ha1, ha2, Lib.hid rfl⟩, rfl, rfl, ?_, ?_, ?_⟩ ?_
  all_goals first | rfl | skip
  rintro m s ⟨i, r, ⟨h1, rfl, h2, h3, h4⟩, hL, hT, k0, k1, k5⟩
  obtain ⟨env, st0⟩ := s; obtain ⟨J, hJ⟩ := listJ hL; rw [show (List.range 20).map J = J 0 :: J 1 :: J 2 :: J 3 :: J 4 :: J 5 :: J 6 :: J 7 :: J 8 :: J 9 :: J 10 :: J 11 :: J 12 :: J 13 :: J 14 :: J 15 :: J 16 :: J 17 :: J 18 :: J 19 :: [] from by kernel_rfl] at hJ; replace k0 := Option.some.inj ((congrArg (·[0]?) hJ).symm.trans k0); replace k1 := Option.some.inj ((congrArg (·[1]?) hJ).symm.trans k1); replace k5 := Option.some.inj ((congrArg (·[5]?) hJ).symm.trans k5); rw [k0, k1, k5] at hJ; dsimp only at hJ hT; subst hJ; replace hT := hT.symm; subst hT; clear hL k0 k1 k5
  by_cases hi : i < s0
  · have h4 : halvS (s0 - i) r = halvS s0 a := h4
    rw [show s0 - i = (s0 - (i + 1)) + 1 from by omega, halvS] at h4
    by_cases hr : r < 0
    · rw [if_pos hr] at h4
      have e : (1 - r).tdiv 2 = (1 - r) / 2 := Int.tdiv_eq_ediv_of_nonneg (by omega)
      have hb : 0 ≤ (1 - r).tdiv 2 ∧ (1 - r).tdiv 2 ≤ 8 := by omega
      obtain ⟨hb1, hb2⟩ := hb
      rw [show -((1 - r).tdiv 2) = 0 - (1 - r).tdiv 2 from by omega] at h4
      have e2 : -8 ≤ 0 - ((1 - r).tdiv 2) := by omega
      have h4h := Lib.hid h4
      clear h4 e
      repeat' (first | (refine go ⟨?_⟩) | (fail) | ((first | (refine bsp ?_ ?_) | (refine csp ?_ ?_)); all_goals (intro hb; (fail_if_success (cases hb; done)); (try simp only [decide_eq_true_eq, decide_eq_false_iff_not, beq_iff_eq, bne_iff_ne, ne_eq, beq_eq_false_iff_ne, bne_eq_false_iff_eq, Bool.not_eq_true', Bool.not_eq_false', Bool.and_eq_true, Bool.or_eq_true, Decidable.not_not] at hb); (try simp only [go_sem]))))
      refine ⟨_, _, ?_, .refl _, i + 1, _, ⟨by omega, rfl, e2, by omega, h4h⟩, rfl, rfl, ?_, ?_, ?_⟩
      · omega
      all_goals rfl
    · rw [if_neg hr] at h4
      have e : r.tdiv 2 = r / 2 := Int.tdiv_eq_ediv_of_nonneg (by omega)
      have hb : 0 ≤ r.tdiv 2 ∧ r.tdiv 2 ≤ 7 := by omega
      obtain ⟨hb1, hb2⟩ := hb
      have h4h := Lib.hid h4
      clear h4 e
      repeat' (first | (refine go ⟨?_⟩) | (fail) | ((first | (refine bsp ?_ ?_) | (refine csp ?_ ?_)); all_goals (intro hb; (fail_if_success (cases hb; done)); (try simp only [decide_eq_true_eq, decide_eq_false_iff_not, beq_iff_eq, bne_iff_ne, ne_eq, beq_eq_false_iff_ne, bne_eq_false_iff_eq, Bool.not_eq_true', Bool.not_eq_false', Bool.and_eq_true, Bool.or_eq_true, Decidable.not_not] at hb); (try simp only [go_sem]))))
      refine ⟨_, _, ?_, .refl _, i + 1, _, ⟨by omega, rfl, by omega, hb2, h4h⟩, rfl, rfl, ?_, ?_, ?_⟩
      · omega
      all_goals rfl
  · have h4 : halvS (s0 - i) r = halvS s0 a := h4
    rw [show s0 - i = 0 from by omega, halvS] at h4
    repeat' (first | (refine go ⟨?_⟩) | (fail) | ((first | (refine bsp ?_ ?_) | (refine csp ?_ ?_)); all_goals (intro hb; (fail_if_success (cases hb; done)); (try simp only [decide_eq_true_eq, decide_eq_false_iff_not, beq_iff_eq, bne_iff_ne, ne_eq, beq_eq_false_iff_ne, bne_eq_false_iff_eq, Bool.not_eq_true', Bool.not_eq_false', Bool.and_eq_true, Bool.or_eq_true, Decidable.not_not] at hb); (try simp only [go_sem]))))
    refine ⟨by first | exact .inr rfl | exact .inl rfl, .inl ⟨[], _, (by dsimp only [Tryd.f74]; exact sv), ?_, by simp⟩⟩
    rw [h4]
theorem dbl_ev (a : Int) (s0 : Nat) (ha : Wd a) (hs : s0 < 4) (sto : Sto) (lo : Nat) (hlo : lo ≤ sto.length) : CallEv Tryd.prog tab B0 72 [.v (VI a), .v (VI s0)] sto lo (.v (VI (dblS s0 a))) sto := by
  obtain ⟨ha1, ha2⟩ := ha
  refine CallEv.intro ⟨_, _, [], Tryd.func72, rfl, by decide, ?_⟩; simp only [go_sem, Tryd.ntmps72]
  repeat' (first | (refine go ⟨?_⟩) | (fail) | ((first | (refine bsp ?_ ?_) | (refine csp ?_ ?_)); all_goals (intro hb; (fail_if_success (cases hb; done)); (try simp only [decide_eq_true_eq, decide_eq_false_iff_not, beq_iff_eq, bne_iff_ne, ne_eq, beq_eq_false_iff_ne, bne_eq_false_iff_eq, Bool.not_eq_true', Bool.not_eq_false', Bool.and_eq_true, Bool.or_eq_true, Decidable.not_not] at hb); (try simp only [go_sem]))))
  refine c_loop (fun m s => ∃ (i : Nat) (r : Int), (i ≤ s0 ∧ m = s0 - i ∧ -8 ≤ r ∧ r ≤ 7 ∧ Hid (dblS (s0 - i) r = dblS s0 a)) ∧ (s.env.length = 16 ∧ s.sto = sto ∧ s.env[0]? = some (.v (VI r)) ∧ s.env[1]? = some (.v (VI s0)) ∧ s.env[5]? = some (.v (VI i)))) (.refl _) ⟨0, a, ⟨by omega, rfl, ha1, ha2, Lib.hid rfl⟩, rfl, rfl, ?_, ?_, ?_⟩ ?_
  all_goals first | rfl | skip
  rintro m s ⟨i, r, ⟨h1, rfl, h2, h3, h4⟩, hL, hT, k0, k1, k5⟩
  obtain ⟨env, st0⟩ := s; obtain ⟨J, hJ⟩ := listJ hL; rw [show (List.range 16).map J = J 0 :: J 1 :: J 2 :: J 3 :: J 4 :: J 5 :: J 6 :: J 7 :: J 8 :: J 9 :: J 10 :: J 11 :: J 12 :: J 13 :: J 14 :: J 15 :: [] from by kernel_rfl] at hJ; replace k0 := Option.some.inj ((congrArg (·[0]?) hJ).symm.trans k0); replace k1 := Option.some.inj ((congrArg (·[1]?) hJ).symm.trans k1); replace k5 := Option.some.inj ((congrArg (·[5]?) hJ).symm.trans k5); rw [k0, k1, k5] at hJ; dsimp only at hJ hT; subst hJ; replace hT := hT.symm; subst hT; clear hL k0 k1 k5
  by_cases hi : i < s0
  · have h4 : dblS (s0 - i) r = dblS s0 a := h4
    rw [show s0 - i = (s0 - (i + 1)) + 1 from by omega, dblS] at h4
    have hw := fun sto lo hlo => refWrap_ev (r + r) ⟨by omega, by omega⟩ sto lo hlo
    have hr := wrapS_range (r + r)
    have h4h := Lib.hid h4
    clear h4
    generalize wrapS (r + r) = r2 at *
    repeat' (first | (refine go ⟨?_⟩) | (((refine call ?_); (refine ⟨_, hw _ _ (by first | omega | (simp; done) | (simp; omega)), ?_⟩); (try simp only [go_sem]))) | ((first | (refine bsp ?_ ?_) | (refine csp ?_ ?_)); all_goals (intro hb; (fail_if_success (cases hb; done)); (try simp only [decide_eq_true_eq, decide_eq_false_iff_not, beq_iff_eq, bne_iff_ne, ne_eq, beq_eq_false_iff_ne, bne_eq_false_iff_eq, Bool.not_eq_true', Bool.not_eq_false', Bool.and_eq_true, Bool.or_eq_true, Decidable.not_not] at hb); (try simp only [go_sem]))))
    refine ⟨_, _, ?_, .refl _, i + 1, _, ⟨by omega, rfl, hr.1, hr.2, h4h⟩, rfl, rfl, ?_, ?_, ?_⟩
    · omega
    all_goals rfl
  · have h4 : dblS (s0 - i) r = dblS s0 a := h4
    rw [show s0 - i = 0 from by omega, dblS] at h4
    repeat' (first | (refine go ⟨?_⟩) | (fail) | ((first | (refine bsp ?_ ?_) | (refine csp ?_ ?_)); all_goals (intro hb; (fail_if_success (cases hb; done)); (try simp only [decide_eq_true_eq, decide_eq_false_iff_not, beq_iff_eq, bne_iff_ne, ne_eq, beq_eq_false_iff_ne, bne_eq_false_iff_eq, Bool.not_eq_true', Bool.not_eq_false', Bool.and_eq_true, Bool.or_eq_true, Decidable.not_not] at hb); (try simp only [go_sem]))))
    refine ⟨by first | exact .inr rfl | exact .inl rfl, .inl ⟨[], _, (by dsimp only [Tryd.f72]; exact sv), ?_, by simp⟩⟩
    rw [h4]
theorem bitw_ev (a b : Int) (one two both : Bool) (ho : (one, two, both) = (false, false, true) ∨ (one, two, both) = (true, true, true) ∨ (one, two, both) = (true, true, false)) (ha : Wd a) (hb : Wd b) (sto : Sto) (lo : Nat) (hlo : lo ≤ sto.length) : CallEv Tryd.prog tab B0 71 [.v (VI a), .v (VI b), .v (.bool one), .v (.bool two), .v (.bool both)] sto lo (.v (VI (bitwS a b one two both))) sto := by
  have h1 := fun sto lo hlo => refBits_ev a ⟨by have := ha.1; omega, by have := ha.2; omega⟩ sto lo hlo
  have h2 := fun sto lo hlo => refBits_ev b ⟨by have := hb.1; omega, by have := hb.2; omega⟩ sto lo hlo
  have hx : bitsW a < 16 := by have := bitsW_eq a; omega
  have hy : bitsW b < 16 := by have := bitsW_eq b; omega
  unfold bitwS
  generalize bitsW a = x0 at *
  generalize bitsW b = y0 at *
  have key : ∀ one two both : Bool, (∀ p q : Bool, ((p && q && both) || (p && !q && one) || (!p && q && two)) = ((p && q && both) || (p && !q && one) || (!p && q && two))) := fun _ _ _ _ _ => rfl
  refine CallEv.intro ⟨_, _, [], Tryd.func71, rfl, by decide, ?_⟩; simp only [go_sem, Tryd.ntmps71]
  repeat' (first | (refine go ⟨?_⟩) | (first | ((refine call ?_); (refine ⟨_, h1 _ _ (by first | omega | (simp; done) | (simp; omega)), ?_⟩); (try simp only [go_sem])) | ((refine call ?_); (refine ⟨_, h2 _ _ (by first | omega | (simp; done) | (simp; omega)), ?_⟩); (try simp only [go_sem]))) | ((first | (refine bsp ?_ ?_) | (refine csp ?_ ?_)); all_goals (intro hb; (fail_if_success (cases hb; done)); (try simp only [decide_eq_true_eq, decide_eq_false_iff_not, beq_iff_eq, bne_iff_ne, ne_eq, beq_eq_false_iff_ne, bne_eq_false_iff_eq, Bool.not_eq_true', Bool.not_eq_false', Bool.and_eq_true, Bool.or_eq_true, Decidable.not_not] at hb); (try simp only [go_sem]))))
  refine c_loop (fun m s => ∃ (i x y sum v : Nat), (i ≤ 4 ∧ m = 4 - i ∧ x < 16 ∧ y < 16 ∧ sum < v ∧ v ≤ 16 ∧ Hid (v = 2 ^ i ∧ bitwL one two both (4 - i) x y sum v = bitwL one two both 4 x0 y0 0 1)) ∧ (s.env.length = 70 ∧ s.sto = sto ∧ s.env[2]? = some (.v (.bool one)) ∧ s.env[3]? = some (.v (.bool two)) ∧ s.env[4]? = some (.v (.bool both)) ∧ s.env[11]? = some (.v (VI x)) ∧ s.env[12]? = some (.v (VI y)) ∧ s.env[13]? = some (.v (VI sum)) ∧ s.env[14]? = some (.v (VI v)) ∧ s.env[15]? = some (.v (VI i)))) (.refl _) ⟨0, x0, y0, 0, 1, ⟨by omega, rfl, hx, hy, by omega, by omega, Lib.hid ⟨rfl, rfl⟩⟩, rfl, rfl, ?_, ?_, ?_, ?_, ?_, ?_, ?_, ?_⟩ ?_
  all_goals first | rfl | skip
  rintro m s ⟨i, x, y, sum, v, ⟨g1, rfl, g2, g3, g4, g5, g6⟩, hL, hT, k2, k3, k4, k11, k12, k13, k14, k15⟩
  obtain ⟨env, st0⟩ := s; obtain ⟨J, hJ⟩ := listJ hL; rw [show (List.range 70).map J = J 0 :: J 1 :: J 2 :: J 3 :: J 4 :: J 5 :: J 6 :: J 7 :: J 8 :: J 9 :: J 10 :: J 11 :: J 12 :: J 13 :: J 14 :: J 15 :: J 16 :: J 17 :: J 18 :: J 19 :: J 20 :: J 21 :: J 22 :: J 23 :: J 24 :: J 25 :: J 26 :: J 27 :: J 28 :: J 29 :: J 30 :: J 31 :: J 32 :: J 33 :: J 34 :: J 35 :: J 36 :: J 37 :: J 38 :: J 39 :: J 40 :: J 41 :: J 42 :: J 43 :: J 44 :: J 45 :: J 46 :: J 47 :: J 48 :: J 49 :: J 50 :: J 51 :: J 52 :: J 53 :: J 54 :: J 55 :: J 56 :: J 57 :: J 58 :: J 59 :: J 60 :: J 61 :: J 62 :: J 63 :: J 64 :: J 65 :: J 66 :: J 67 :: J 68 :: J 69 :: [] from by kernel_rfl] at hJ; replace k2 := Option.some.inj ((congrArg (·[2]?) hJ).symm.trans k2); replace k3 := Option.some.inj ((congrArg (·[3]?) hJ).symm.trans k3); replace k4 := Option.some.inj ((congrArg (·[4]?) hJ).symm.trans k4); replace k11 := Option.some.inj ((congrArg (·[11]?) hJ).symm.trans k11); replace k12 := Option.some.inj ((congrArg (·[12]?) hJ).symm.trans k12); replace k13 := Option.some.inj ((congrArg (·[13]?) hJ).symm.trans k13); replace k14 := Option.some.inj ((congrArg (·[14]?) hJ).symm.trans k14); replace k15 := Option.some.inj ((congrArg (·[15]?) hJ).symm.trans k15); rw [k2, k3, k4, k11, k12, k13, k14, k15] at hJ; dsimp only at hJ hT; subst hJ; replace hT := hT.symm; subst hT; clear hL k2 k3 k4 k11 k12 k13 k14 k15
  have g6' : _ ∧ _ := g6
  obtain ⟨g7, g8⟩ := g6'
  by_cases hi : i < 4
  · have hv8 : v ≤ 8 := by rw [g7]; exact Nat.pow_le_pow_right (n := 2) (by omega) (by omega : i ≤ 3)
    rw [show 4 - i = (4 - (i + 1)) + 1 from by omega, bitwL] at g8
    have g7' : v * 2 = 2 ^ (i + 1) := by rw [g7, Nat.pow_succ]
    have hx2 : x / 2 < 16 := by omega
    have hy2 : y / 2 < 16 := by omega
    by_cases hp : x % 2 = 1
    · by_cases hq : y % 2 = 1
      · simp only [hp, hq, beq_self_eq_true] at g8
        rcases ho with ho | ho | ho <;> (cases ho; simp at g8; rw [show 3 - i = 4 - (i + 1) from by omega] at g8; have g8h := Lib.hid (And.intro g7' g8); clear g8 g6 g7 g7' hx hy h1 h2 key; (repeat' (first | (refine go ⟨?_⟩) | (fail) | ((first | (refine bsp ?_ ?_) | (refine csp ?_ ?_)); all_goals (intro hb; (fail_if_success (cases hb; done)); (try simp only [decide_eq_true_eq, decide_eq_false_iff_not, beq_iff_eq, bne_iff_ne, ne_eq, beq_eq_false_iff_ne, bne_eq_false_iff_eq, Bool.not_eq_true', Bool.not_eq_false', Bool.and_eq_true, Bool.or_eq_true, Decidable.not_not] at hb); (try simp only [go_sem]))))); refine ⟨_, _, ?_, .refl _, i + 1, _, _, _, _, ⟨by omega, rfl, hx2, hy2, ?_, ?_, g8h⟩, rfl, rfl, ?_, ?_, ?_, ?_, ?_, ?_, ?_, ?_⟩ <;> first | omega | rfl)
      · have hq0 : y % 2 = 0 := by omega
        simp only [hp, hq0, beq_self_eq_true] at g8
        rcases ho with ho | ho | ho <;> (cases ho; simp at g8; rw [show 3 - i = 4 - (i + 1) from by omega] at g8; have g8h := Lib.hid (And.intro g7' g8); clear g8 g6 g7 g7' hx hy h1 h2 key; (repeat' (first | (refine go ⟨?_⟩) | (fail) | ((first | (refine bsp ?_ ?_) | (refine csp ?_ ?_)); all_goals (intro hb; (fail_if_success (cases hb; done)); (try simp only [decide_eq_true_eq, decide_eq_false_iff_not, beq_iff_eq, bne_iff_ne, ne_eq, beq_eq_false_iff_ne, bne_eq_false_iff_eq, Bool.not_eq_true', Bool.not_eq_false', Bool.and_eq_true, Bool.or_eq_true, Decidable.not_not] at hb); (try simp only [go_sem]))))); refine ⟨_, _, ?_, .refl _, i + 1, _, _, _, _, ⟨by omega, rfl, hx2, hy2, ?_, ?_, g8h⟩, rfl, rfl, ?_, ?_, ?_, ?_, ?_, ?_, ?_, ?_⟩ <;> first | omega | rfl)
    · have hp0 : x % 2 = 0 := by omega
      by_cases hq : y % 2 = 1
      · simp only [hp0, hq, beq_self_eq_true] at g8
        rcases ho with ho | ho | ho <;> (cases ho; simp at g8; rw [show 3 - i = 4 - (i + 1) from by omega] at g8; have g8h := Lib.hid (And.intro g7' g8); clear g8 g6 g7 g7' hx hy h1 h2 key; (repeat' (first | (refine go ⟨?_⟩) | (fail) | ((first | (refine bsp ?_ ?_) | (refine csp ?_ ?_)); all_goals (intro hb; (fail_if_success (cases hb; done)); (try simp only [decide_eq_true_eq, decide_eq_false_iff_not, beq_iff_eq, bne_iff_ne, ne_eq, beq_eq_false_iff_ne, bne_eq_false_iff_eq, Bool.not_eq_true', Bool.not_eq_false', Bool.and_eq_true, Bool.or_eq_true, Decidable.not_not] at hb); (try simp only [go_sem]))))); refine ⟨_, _, ?_, .refl _, i + 1, _, _, _, _, ⟨by omega, rfl, hx2, hy2, ?_, ?_, g8h⟩, rfl, rfl, ?_, ?_, ?_, ?_, ?_, ?_, ?_, ?_⟩ <;> first | omega | rfl)
      · have hq0 : y % 2 = 0 := by omega
        simp only [hp0, hq0] at g8
        rcases ho with ho | ho | ho <;> (cases ho; simp at g8; rw [show 3 - i = 4 - (i + 1) from by omega] at g8; have g8h := Lib.hid (And.intro g7' g8); clear g8 g6 g7 g7' hx hy h1 h2 key; (repeat' (first | (refine go ⟨?_⟩) | (fail) | ((first | (refine bsp ?_ ?_) | (refine csp ?_ ?_)); all_goals (intro hb; (fail_if_success (cases hb; done)); (try simp only [decide_eq_true_eq, decide_eq_false_iff_not, beq_iff_eq, bne_iff_ne, ne_eq, beq_eq_false_iff_ne, bne_eq_false_iff_eq, Bool.not_eq_true', Bool.not_eq_false', Bool.and_eq_true, Bool.or_eq_true, Decidable.not_not] at hb); (try simp only [go_sem]))))); refine ⟨_, _, ?_, .refl _, i + 1, _, _, _, _, ⟨by omega, rfl, hx2, hy2, ?_, ?_, g8h⟩, rfl, rfl, ?_, ?_, ?_, ?_, ?_, ?_, ?_, ?_⟩ <;> first | omega | rfl)
  · rw [show 4 - i = 0 from by omega, bitwL] at g8
    rw [← g8]
    have hw := fun sto lo hlo => refWrap_ev (sum : Int) ⟨by omega, by omega⟩ sto lo hlo
    clear ho key
    repeat' (first | (refine go ⟨?_⟩) | (((refine call ?_); (refine ⟨_, hw _ _ (by first | omega | (simp; done) | (simp; omega)), ?_⟩); (try simp only [go_sem]))) | ((first | (refine bsp ?_ ?_) | (refine csp ?_ ?_)); all_goals (intro hb; (fail_if_success (cases hb; done)); (try simp only [decide_eq_true_eq, decide_eq_false_iff_not, beq_iff_eq, bne_iff_ne, ne_eq, beq_eq_false_iff_ne, bne_eq_false_iff_eq, Bool.not_eq_true', Bool.not_eq_false', Bool.and_eq_true, Bool.or_eq_true, Decidable.not_not] at hb); (try simp only [go_sem]))))
    refine ⟨by first | exact .inr rfl | exact .inl rfl, .inl ⟨[], _, (by dsimp only [Tryd.f71]; exact sv), ?_, by simp⟩⟩
    rfl
end Go.Proofs.YtomameefmobnlaaDoor
namespace Go.Proofs.YtomameefmobnlaaDoor
open Go Go.RowKit

attribute [local irreducible] EvOps EvC
attribute [local go_sem] List.getElem?_toArray getS List.flatten_cons List.flatten_nil List.contains_nil
set_option linter.unusedSimpArgs false
set_option linter.unusedVariables false
set_option maxRecDepth 100000
set_option maxHeartbeats 4000000
theorem rOp0_ev (a b : Int) (ha : Big a) (hb : Big b) (sto : Sto) (lo : Nat) (hlo : lo ≤ sto.length) : CallEv Tryd.prog tab B0 53 [.v (VI 0), .v (VI a), .v (VI b)] sto lo (.v (.tup [VI (opW 0 (wrapS a) (wrapS b)), VI (codeW 0 (wrapS b))])) sto := by
  have h1 := fun sto lo hlo => refWrap_ev a ha sto lo hlo
  have h2 := fun sto lo hlo => refWrap_ev b hb sto lo hlo
  have hx := wrap_wd a
  have hy := wrap_wd b
  generalize wrapS a = x at *
  generalize wrapS b = y at *
  have hxw := mem_words hx.1 hx.2
  have hyw := mem_words hy.1 hy.2
  obtain ⟨hx1, hx2⟩ := id hx
  obtain ⟨hy1, hy2⟩ := id hy
  rw [show opW 0 x y = wrapS (x + y) from by simp [opW], show codeW 0 y = 0 from by simp [codeW]]
  have hw := fun sto lo hlo => refWrap_ev (x + y) ⟨by have h1 := hx.1; have h2 := hx.2; have h3 := hy.1; have h4 := hy.2; omega, by have h1 := hx.1; have h2 := hx.2; have h3 := hy.1; have h4 := hy.2; omega⟩ sto lo hlo
  refine CallEv.intro ⟨_, _, [], Tryd.func53, rfl, by decide, ?_⟩; simp only [go_sem, Tryd.ntmps53]
  repeat' (first | (refine go ⟨?_⟩) | (first | ((refine call ?_); (refine ⟨_, h1 _ _ (by first | omega | (simp; done) | (simp; omega)), ?_⟩); (try simp only [go_sem])) | ((refine call ?_); (refine ⟨_, h2 _ _ (by first | omega | (simp; done) | (simp; omega)), ?_⟩); (try simp only [go_sem])) | ((refine call ?_); (refine ⟨_, hw _ _ (by first | omega | (simp; done) | (simp; omega)), ?_⟩); (try simp only [go_sem]))) | ((first | (refine bsp ?_ ?_) | (refine csp ?_ ?_)); all_goals (intro hb; (fail_if_success (cases hb; done)); (try simp only [decide_eq_true_eq, decide_eq_false_iff_not, beq_iff_eq, bne_iff_ne, ne_eq, beq_eq_false_iff_ne, bne_eq_false_iff_eq, Bool.not_eq_true', Bool.not_eq_false', Bool.and_eq_true, Bool.or_eq_true, Decidable.not_not] at hb); (try simp only [go_sem]))))
  refine ⟨by first | exact .inr rfl | exact .inl rfl, .inl ⟨[], _, (by dsimp only [Tryd.f53]; exact sv), ?_, by simp⟩⟩
  rfl
theorem rOp1_ev (a b : Int) (ha : Big a) (hb : Big b) (sto : Sto) (lo : Nat) (hlo : lo ≤ sto.length) : CallEv Tryd.prog tab B0 53 [.v (VI 1), .v (VI a), .v (VI b)] sto lo (.v (.tup [VI (opW 1 (wrapS a) (wrapS b)), VI (codeW 1 (wrapS b))])) sto := by
  have h1 := fun sto lo hlo => refWrap_ev a ha sto lo hlo
  have h2 := fun sto lo hlo => refWrap_ev b hb sto lo hlo
  have hx := wrap_wd a
  have hy := wrap_wd b
  generalize wrapS a = x at *
  generalize wrapS b = y at *
  have hxw := mem_words hx.1 hx.2
  have hyw := mem_words hy.1 hy.2
  obtain ⟨hx1, hx2⟩ := id hx
  obtain ⟨hy1, hy2⟩ := id hy
  rw [show opW 1 x y = wrapS (x - y) from by simp [opW], show codeW 1 y = 0 from by simp [codeW]]
  have hw := fun sto lo hlo => refWrap_ev (x - y) ⟨by have h1 := hx.1; have h2 := hx.2; have h3 := hy.1; have h4 := hy.2; omega, by have h1 := hx.1; have h2 := hx.2; have h3 := hy.1; have h4 := hy.2; omega⟩ sto lo hlo
  refine CallEv.intro ⟨_, _, [], Tryd.func53, rfl, by decide, ?_⟩; simp only [go_sem, Tryd.ntmps53]
  repeat' (first | (refine go ⟨?_⟩) | (first | ((refine call ?_); (refine ⟨_, h1 _ _ (by first | omega | (simp; done) | (simp; omega)), ?_⟩); (try simp only [go_sem])) | ((refine call ?_); (refine ⟨_, h2 _ _ (by first | omega | (simp; done) | (simp; omega)), ?_⟩); (try simp only [go_sem])) | ((refine call ?_); (refine ⟨_, hw _ _ (by first | omega | (simp; done) | (simp; omega)), ?_⟩); (try simp only [go_sem]))) | ((first | (refine bsp ?_ ?_) | (refine csp ?_ ?_)); all_goals (intro hb; (fail_if_success (cases hb; done)); (try simp only [decide_eq_true_eq, decide_eq_false_iff_not, beq_iff_eq, bne_iff_ne, ne_eq, beq_eq_false_iff_ne, bne_eq_false_iff_eq, Bool.not_eq_true', Bool.not_eq_false', Bool.and_eq_true, Bool.or_eq_true, Decidable.not_not] at hb); (try simp only [go_sem]))))
  refine ⟨by first | exact .inr rfl | exact .inl rfl, .inl ⟨[], _, (by dsimp only [Tryd.f53]; exact sv), ?_, by simp⟩⟩
  rfl
theorem rOp2_ev (a b : Int) (ha : Big a) (hb : Big b) (sto : Sto) (lo : Nat) (hlo : lo ≤ sto.length) : CallEv Tryd.prog tab B0 53 [.v (VI 2), .v (VI a), .v (VI b)] sto lo (.v (.tup [VI (opW 2 (wrapS a) (wrapS b)), VI (codeW 2 (wrapS b))])) sto := by
  have h1 := fun sto lo hlo => refWrap_ev a ha sto lo hlo
  have h2 := fun sto lo hlo => refWrap_ev b hb sto lo hlo
  have hx := wrap_wd a
  have hy := wrap_wd b
  generalize wrapS a = x at *
  generalize wrapS b = y at *
  have hxw := mem_words hx.1 hx.2
  have hyw := mem_words hy.1 hy.2
  obtain ⟨hx1, hx2⟩ := id hx
  obtain ⟨hy1, hy2⟩ := id hy
  have hsm := mul_small hx hy
  rw [show opW 2 x y = wrapS (x * y) from by simp [opW], show codeW 2 y = 0 from by simp [codeW]]
  have hw := fun sto lo hlo => refWrap_ev (x * y) ⟨by have h1 := hx.1; have h2 := hx.2; have h3 := hy.1; have h4 := hy.2; omega, by have h1 := hx.1; have h2 := hx.2; have h3 := hy.1; have h4 := hy.2; omega⟩ sto lo hlo
  refine CallEv.intro ⟨_, _, [], Tryd.func53, rfl, by decide, ?_⟩; simp only [go_sem, Tryd.ntmps53]
  repeat' (first | (refine go ⟨?_⟩) | (first | ((refine call ?_); (refine ⟨_, h1 _ _ (by first | omega | (simp; done) | (simp; omega)), ?_⟩); (try simp only [go_sem])) | ((refine call ?_); (refine ⟨_, h2 _ _ (by first | omega | (simp; done) | (simp; omega)), ?_⟩); (try simp only [go_sem])) | ((refine call ?_); (refine ⟨_, hw _ _ (by first | omega | (simp; done) | (simp; omega)), ?_⟩); (try simp only [go_sem]))) | ((first | (refine bsp ?_ ?_) | (refine csp ?_ ?_)); all_goals (intro hb; (fail_if_success (cases hb; done)); (try simp only [decide_eq_true_eq, decide_eq_false_iff_not, beq_iff_eq, bne_iff_ne, ne_eq, beq_eq_false_iff_ne, bne_eq_false_iff_eq, Bool.not_eq_true', Bool.not_eq_false', Bool.and_eq_true, Bool.or_eq_true, Decidable.not_not] at hb); (try simp only [go_sem]))))
  refine ⟨by first | exact .inr rfl | exact .inl rfl, .inl ⟨[], _, (by dsimp only [Tryd.f53]; exact sv), ?_, by simp⟩⟩
  rfl
theorem rOp3_ev (a b : Int) (ha : Big a) (hb : Big b) (sto : Sto) (lo : Nat) (hlo : lo ≤ sto.length) : CallEv Tryd.prog tab B0 53 [.v (VI 3), .v (VI a), .v (VI b)] sto lo (.v (.tup [VI (opW 3 (wrapS a) (wrapS b)), VI (codeW 3 (wrapS b))])) sto := by
  have h1 := fun sto lo hlo => refWrap_ev a ha sto lo hlo
  have h2 := fun sto lo hlo => refWrap_ev b hb sto lo hlo
  have hx := wrap_wd a
  have hy := wrap_wd b
  generalize wrapS a = x at *
  generalize wrapS b = y at *
  have hxw := mem_words hx.1 hx.2
  have hyw := mem_words hy.1 hy.2
  obtain ⟨hx1, hx2⟩ := id hx
  obtain ⟨hy1, hy2⟩ := id hy
  by_cases h0 : y = 0
  · subst h0
    rw [show opW 3 x 0 = 0 from by simp [opW], show codeW 3 0 = 2 from rfl]
    refine CallEv.intro ⟨_, _, [], Tryd.func53, rfl, by decide, ?_⟩; simp only [go_sem, Tryd.ntmps53]
    repeat' (first | (refine go ⟨?_⟩) | (first | ((refine call ?_); (refine ⟨_, h1 _ _ (by first | omega | (simp; done) | (simp; omega)), ?_⟩); (try simp only [go_sem])) | ((refine call ?_); (refine ⟨_, h2 _ _ (by first | omega | (simp; done) | (simp; omega)), ?_⟩); (try simp only [go_sem]))) | ((first | (refine bsp ?_ ?_) | (refine csp ?_ ?_)); all_goals (intro hb; (fail_if_success (cases hb; done)); (try simp only [decide_eq_true_eq, decide_eq_false_iff_not, beq_iff_eq, bne_iff_ne, ne_eq, beq_eq_false_iff_ne, bne_eq_false_iff_eq, Bool.not_eq_true', Bool.not_eq_false', Bool.and_eq_true, Bool.or_eq_true, Decidable.not_not] at hb); (try simp only [go_sem]))))
    refine ⟨by first | exact .inr rfl | exact .inl rfl, .inl ⟨[], _, (by dsimp only [Tryd.f53]; exact sv), ?_, by simp⟩⟩
    rfl
  have hq := fun sto lo hlo => quot_ev x y hx hy h0 sto lo hlo
  have hsm := div_small hx hy
  rw [show opW 3 x y = wrapS (x.tdiv y) from by simp [opW, h0], show codeW 3 y = 0 from by simp [codeW, h0]]
  have hw := fun sto lo hlo => refWrap_ev (x.tdiv y) ⟨by have h1 := hx.1; have h2 := hx.2; have h3 := hy.1; have h4 := hy.2; omega, by have h1 := hx.1; have h2 := hx.2; have h3 := hy.1; have h4 := hy.2; omega⟩ sto lo hlo
  refine CallEv.intro ⟨_, _, [], Tryd.func53, rfl, by decide, ?_⟩; simp only [go_sem, Tryd.ntmps53]
  repeat' (first | (refine go ⟨?_⟩) | (first | ((refine call ?_); (refine ⟨_, h1 _ _ (by first | omega | (simp; done) | (simp; omega)), ?_⟩); (try simp only [go_sem])) | ((refine call ?_); (refine ⟨_, h2 _ _ (by first | omega | (simp; done) | (simp; omega)), ?_⟩); (try simp only [go_sem])) | ((refine call ?_); (refine ⟨_, hq _ _ (by first | omega | (simp; done) | (simp; omega)), ?_⟩); (try simp only [go_sem])) | ((refine call ?_); (refine ⟨_, hw _ _ (by first | omega | (simp; done) | (simp; omega)), ?_⟩); (try simp only [go_sem]))) | ((first | (refine bsp ?_ ?_) | (refine csp ?_ ?_)); all_goals (intro hb; (fail_if_success (cases hb; done)); (try simp only [decide_eq_true_eq, decide_eq_false_iff_not, beq_iff_eq, bne_iff_ne, ne_eq, beq_eq_false_iff_ne, bne_eq_false_iff_eq, Bool.not_eq_true', Bool.not_eq_false', Bool.and_eq_true, Bool.or_eq_true, Decidable.not_not] at hb); (try simp only [go_sem]))))
  refine ⟨by first | exact .inr rfl | exact .inl rfl, .inl ⟨[], _, (by dsimp only [Tryd.f53]; exact sv), ?_, by simp⟩⟩
  rfl
theorem rOp4_ev (a b : Int) (ha : Big a) (hb : Big b) (sto : Sto) (lo : Nat) (hlo : lo ≤ sto.length) : CallEv Tryd.prog tab B0 53 [.v (VI 4), .v (VI a), .v (VI b)] sto lo (.v (.tup [VI (opW 4 (wrapS a) (wrapS b)), VI (codeW 4 (wrapS b))])) sto := by
  have h1 := fun sto lo hlo => refWrap_ev a ha sto lo hlo
  have h2 := fun sto lo hlo => refWrap_ev b hb sto lo hlo
  have hx := wrap_wd a
  have hy := wrap_wd b
  generalize wrapS a = x at *
  generalize wrapS b = y at *
  have hxw := mem_words hx.1 hx.2
  have hyw := mem_words hy.1 hy.2
  obtain ⟨hx1, hx2⟩ := id hx
  obtain ⟨hy1, hy2⟩ := id hy
  by_cases h0 : y = 0
  · subst h0
    rw [show opW 4 x 0 = 0 from by simp [opW], show codeW 4 0 = 2 from rfl]
    refine CallEv.intro ⟨_, _, [], Tryd.func53, rfl, by decide, ?_⟩; simp only [go_sem, Tryd.ntmps53]
    repeat' (first | (refine go ⟨?_⟩) | (first | ((refine call ?_); (refine ⟨_, h1 _ _ (by first | omega | (simp; done) | (simp; omega)), ?_⟩); (try simp only [go_sem])) | ((refine call ?_); (refine ⟨_, h2 _ _ (by first | omega | (simp; done) | (simp; omega)), ?_⟩); (try simp only [go_sem]))) | ((first | (refine bsp ?_ ?_) | (refine csp ?_ ?_)); all_goals (intro hb; (fail_if_success (cases hb; done)); (try simp only [decide_eq_true_eq, decide_eq_false_iff_not, beq_iff_eq, bne_iff_ne, ne_eq, beq_eq_false_iff_ne, bne_eq_false_iff_eq, Bool.not_eq_true', Bool.not_eq_false', Bool.and_eq_true, Bool.or_eq_true, Decidable.not_not] at hb); (try simp only [go_sem]))))
    refine ⟨by first | exact .inr rfl | exact .inl rfl, .inl ⟨[], _, (by dsimp only [Tryd.f53]; exact sv), ?_, by simp⟩⟩
    rfl
  have hq := fun sto lo hlo => quot_ev x y hx hy h0 sto lo hlo
  have hsm := div_small hx hy
  have hmo := mod_small hx hy
  have hmd : x.tmod y = x - y * x.tdiv y := Int.tmod_def x y
  rw [show opW 4 x y = wrapS (x - y * x.tdiv y) from by simp [opW, h0, hmd], show codeW 4 y = 0 from by simp [codeW, h0]]
  rw [hmd] at hmo
  have hyq : -64 ≤ y * x.tdiv y ∧ y * x.tdiv y ≤ 64 := by have h1 := hx.1; have h2 := hx.2; omega
  have hw := fun sto lo hlo => refWrap_ev (x - y * x.tdiv y) ⟨by have h1 := hx.1; have h2 := hx.2; have h3 := hy.1; have h4 := hy.2; omega, by have h1 := hx.1; have h2 := hx.2; have h3 := hy.1; have h4 := hy.2; omega⟩ sto lo hlo
  refine CallEv.intro ⟨_, _, [], Tryd.func53, rfl, by decide, ?_⟩; simp only [go_sem, Tryd.ntmps53]
  repeat' (first | (refine go ⟨?_⟩) | (first | ((refine call ?_); (refine ⟨_, h1 _ _ (by first | omega | (simp; done) | (simp; omega)), ?_⟩); (try simp only [go_sem])) | ((refine call ?_); (refine ⟨_, h2 _ _ (by first | omega | (simp; done) | (simp; omega)), ?_⟩); (try simp only [go_sem])) | ((refine call ?_); (refine ⟨_, hq _ _ (by first | omega | (simp; done) | (simp; omega)), ?_⟩); (try simp only [go_sem])) | ((refine call ?_); (refine ⟨_, hw _ _ (by first | omega | (simp; done) | (simp; omega)), ?_⟩); (try simp only [go_sem]))) | ((first | (refine bsp ?_ ?_) | (refine csp ?_ ?_)); all_goals (intro hb; (fail_if_success (cases hb; done)); (try simp only [decide_eq_true_eq, decide_eq_false_iff_not, beq_iff_eq, bne_iff_ne, ne_eq, beq_eq_false_iff_ne, bne_eq_false_iff_eq, Bool.not_eq_true', Bool.not_eq_false', Bool.and_eq_true, Bool.or_eq_true, Decidable.not_not] at hb); (try simp only [go_sem]))))
  refine ⟨by first | exact .inr rfl | exact .inl rfl, .inl ⟨[], _, (by dsimp only [Tryd.f53]; exact sv), ?_, by simp⟩⟩
  rfl
theorem rOp5_ev (a b : Int) (ha : Big a) (hb : Big b) (sto : Sto) (lo : Nat) (hlo : lo ≤ sto.length) : CallEv Tryd.prog tab B0 53 [.v (VI 5), .v (VI a), .v (VI b)] sto lo (.v (.tup [VI (opW 5 (wrapS a) (wrapS b)), VI (codeW 5 (wrapS b))])) sto := by
  have h1 := fun sto lo hlo => refWrap_ev a ha sto lo hlo
  have h2 := fun sto lo hlo => refWrap_ev b hb sto lo hlo
  have hx := wrap_wd a
  have hy := wrap_wd b
  generalize wrapS a = x at *
  generalize wrapS b = y at *
  have hxw := mem_words hx.1 hx.2
  have hyw := mem_words hy.1 hy.2
  obtain ⟨hx1, hx2⟩ := id hx
  obtain ⟨hy1, hy2⟩ := id hy
  rw [← bitw_and x hxw y hyw, show codeW 5 y = 0 from by simp [codeW]]
  have hd := fun sto lo hlo => bitw_ev x y false false true (by simp) hx hy sto lo hlo
  refine CallEv.intro ⟨_, _, [], Tryd.func53, rfl, by decide, ?_⟩; simp only [go_sem, Tryd.ntmps53]
  repeat' (first | (refine go ⟨?_⟩) | (first | ((refine call ?_); (refine ⟨_, h1 _ _ (by first | omega | (simp; done) | (simp; omega)), ?_⟩); (try simp only [go_sem])) | ((refine call ?_); (refine ⟨_, h2 _ _ (by first | omega | (simp; done) | (simp; omega)), ?_⟩); (try simp only [go_sem])) | ((refine call ?_); (refine ⟨_, hd _ _ (by first | omega | (simp; done) | (simp; omega)), ?_⟩); (try simp only [go_sem]))) | ((first | (refine bsp ?_ ?_) | (refine csp ?_ ?_)); all_goals (intro hb; (fail_if_success (cases hb; done)); (try simp only [decide_eq_true_eq, decide_eq_false_iff_not, beq_iff_eq, bne_iff_ne, ne_eq, beq_eq_false_iff_ne, bne_eq_false_iff_eq, Bool.not_eq_true', Bool.not_eq_false', Bool.and_eq_true, Bool.or_eq_true, Decidable.not_not] at hb); (try simp only [go_sem]))))
  refine ⟨by first | exact .inr rfl | exact .inl rfl, .inl ⟨[], _, (by dsimp only [Tryd.f53]; exact sv), ?_, by simp⟩⟩
  rfl
theorem rOp6_ev (a b : Int) (ha : Big a) (hb : Big b) (sto : Sto) (lo : Nat) (hlo : lo ≤ sto.length) : CallEv Tryd.prog tab B0 53 [.v (VI 6), .v (VI a), .v (VI b)] sto lo (.v (.tup [VI (opW 6 (wrapS a) (wrapS b)), VI (codeW 6 (wrapS b))])) sto := by
  have h1 := fun sto lo hlo => refWrap_ev a ha sto lo hlo
  have h2 := fun sto lo hlo => refWrap_ev b hb sto lo hlo
  have hx := wrap_wd a
  have hy := wrap_wd b
  generalize wrapS a = x at *
  generalize wrapS b = y at *
  have hxw := mem_words hx.1 hx.2
  have hyw := mem_words hy.1 hy.2
  obtain ⟨hx1, hx2⟩ := id hx
  obtain ⟨hy1, hy2⟩ := id hy
  rw [← bitw_or x hxw y hyw, show codeW 6 y = 0 from by simp [codeW]]
  have hd := fun sto lo hlo => bitw_ev x y true true true (by simp) hx hy sto lo hlo
  refine CallEv.intro ⟨_, _, [], Tryd.func53, rfl, by decide, ?_⟩; simp only [go_sem, Tryd.ntmps53]
  repeat' (first | (refine go ⟨?_⟩) | (first | ((refine call ?_); (refine ⟨_, h1 _ _ (by first | omega | (simp; done) | (simp; omega)), ?_⟩); (try simp only [go_sem])) | ((refine call ?_); (refine ⟨_, h2 _ _ (by first | omega | (simp; done) | (simp; omega)), ?_⟩); (try simp only [go_sem])) | ((refine call ?_); (refine ⟨_, hd _ _ (by first | omega | (simp; done) | (simp; omega)), ?_⟩); (try simp only [go_sem]))) | ((first | (refine bsp ?_ ?_) | (refine csp ?_ ?_)); all_goals (intro hb; (fail_if_success (cases hb; done)); (try simp only [decide_eq_true_eq, decide_eq_false_iff_not, beq_iff_eq, bne_iff_ne, ne_eq, beq_eq_false_iff_ne, bne_eq_false_iff_eq, Bool.not_eq_true', Bool.not_eq_false', Bool.and_eq_true, Bool.or_eq_true, Decidable.not_not] at hb); (try simp only [go_sem]))))
  refine ⟨by first | exact .inr rfl | exact .inl rfl, .inl ⟨[], _, (by dsimp only [Tryd.f53]; exact sv), ?_, by simp⟩⟩
  rfl
theorem rOp7_ev (a b : Int) (ha : Big a) (hb : Big b) (sto : Sto) (lo : Nat) (hlo : lo ≤ sto.length) : CallEv Tryd.prog tab B0 53 [.v (VI 7), .v (VI a), .v (VI b)] sto lo (.v (.tup [VI (opW 7 (wrapS a) (wrapS b)), VI (codeW 7 (wrapS b))])) sto := by
  have h1 := fun sto lo hlo => refWrap_ev a ha sto lo hlo
  have h2 := fun sto lo hlo => refWrap_ev b hb sto lo hlo
  have hx := wrap_wd a
  have hy := wrap_wd b
  generalize wrapS a = x at *
  generalize wrapS b = y at *
  have hxw := mem_words hx.1 hx.2
  have hyw := mem_words hy.1 hy.2
  obtain ⟨hx1, hx2⟩ := id hx
  obtain ⟨hy1, hy2⟩ := id hy
  rw [← bitw_xor x hxw y hyw, show codeW 7 y = 0 from by simp [codeW]]
  have hd := fun sto lo hlo => bitw_ev x y true true false (by simp) hx hy sto lo hlo
  refine CallEv.intro ⟨_, _, [], Tryd.func53, rfl, by decide, ?_⟩; simp only [go_sem, Tryd.ntmps53]
  repeat' (first | (refine go ⟨?_⟩) | (first | ((refine call ?_); (refine ⟨_, h1 _ _ (by first | omega | (simp; done) | (simp; omega)), ?_⟩); (try simp only [go_sem])) | ((refine call ?_); (refine ⟨_, h2 _ _ (by first | omega | (simp; done) | (simp; omega)), ?_⟩); (try simp only [go_sem])) | ((refine call ?_); (refine ⟨_, hd _ _ (by first | omega | (simp; done) | (simp; omega)), ?_⟩); (try simp only [go_sem]))) | ((first | (refine bsp ?_ ?_) | (refine csp ?_ ?_)); all_goals (intro hb; (fail_if_success (cases hb; done)); (try simp only [decide_eq_true_eq, decide_eq_false_iff_not, beq_iff_eq, bne_iff_ne, ne_eq, beq_eq_false_iff_ne, bne_eq_false_iff_eq, Bool.not_eq_true', Bool.not_eq_false', Bool.and_eq_true, Bool.or_eq_true, Decidable.not_not] at hb); (try simp only [go_sem]))))
  refine ⟨by first | exact .inr rfl | exact .inl rfl, .inl ⟨[], _, (by dsimp only [Tryd.f53]; exact sv), ?_, by simp⟩⟩
  rfl
theorem rOp8_ev (a b : Int) (ha : Big a) (hb : Big b) (sto : Sto) (lo : Nat) (hlo : lo ≤ sto.length) : CallEv Tryd.prog tab B0 53 [.v (VI 8), .v (VI a), .v (VI b)] sto lo (.v (.tup [VI (opW 8 (wrapS a) (wrapS b)), VI (codeW 8 (wrapS b))])) sto := by
  have h1 := fun sto lo hlo => refWrap_ev a ha sto lo hlo
  have h2 := fun sto lo hlo => refWrap_ev b hb sto lo hlo
  have hx := wrap_wd a
  have hy := wrap_wd b
  generalize wrapS a = x at *
  generalize wrapS b = y at *
  have hxw := mem_words hx.1 hx.2
  have hyw := mem_words hy.1 hy.2
  obtain ⟨hx1, hx2⟩ := id hx
  obtain ⟨hy1, hy2⟩ := id hy
  rw [← dbl_words x hxw y hyw, show codeW 8 y = 0 from by simp [codeW]]
  have h3 := fun sto lo hlo => refBits_ev y ⟨by have := hy.1; omega, by have := hy.2; omega⟩ sto lo hlo
  have hd := fun sto lo hlo => dbl_ev x (bitsW y % 4) hx (by omega) sto lo hlo
  have h16 : bitsW y < 16 := by have := bitsW_eq y; omega
  rw [show (((bitsW y % 4 : Nat)) : Int) = ((bitsW y : Nat) : Int).tmod 4 from by rw [Int.tmod_eq_emod_of_nonneg (by omega)]; omega] at hd
  generalize bitsW y = w at *
  refine CallEv.intro ⟨_, _, [], Tryd.func53, rfl, by decide, ?_⟩; simp only [go_sem, Tryd.ntmps53]
  repeat' (first | (refine go ⟨?_⟩) | (first | ((refine call ?_); (refine ⟨_, h1 _ _ (by first | omega | (simp; done) | (simp; omega)), ?_⟩); (try simp only [go_sem])) | ((refine call ?_); (refine ⟨_, h2 _ _ (by first | omega | (simp; done) | (simp; omega)), ?_⟩); (try simp only [go_sem])) | ((refine call ?_); (refine ⟨_, h3 _ _ (by first | omega | (simp; done) | (simp; omega)), ?_⟩); (try simp only [go_sem])) | ((refine call ?_); (refine ⟨_, hd _ _ (by first | omega | (simp; done) | (simp; omega)), ?_⟩); (try simp only [go_sem]))) | ((first | (refine bsp ?_ ?_) | (refine csp ?_ ?_)); all_goals (intro hb; (fail_if_success (cases hb; done)); (try simp only [decide_eq_true_eq, decide_eq_false_iff_not, beq_iff_eq, bne_iff_ne, ne_eq, beq_eq_false_iff_ne, bne_eq_false_iff_eq, Bool.not_eq_true', Bool.not_eq_false', Bool.and_eq_true, Bool.or_eq_true, Decidable.not_not] at hb); (try simp only [go_sem]))))
  refine ⟨by first | exact .inr rfl | exact .inl rfl, .inl ⟨[], _, (by dsimp only [Tryd.f53]; exact sv), ?_, by simp⟩⟩
  rfl
theorem rOp9_ev (a b : Int) (ha : Big a) (hb : Big b) (sto : Sto) (lo : Nat) (hlo : lo ≤ sto.length) : CallEv Tryd.prog tab B0 53 [.v (VI 9), .v (VI a), .v (VI b)] sto lo (.v (.tup [VI (opW 9 (wrapS a) (wrapS b)), VI (codeW 9 (wrapS b))])) sto := by
  have h1 := fun sto lo hlo => refWrap_ev a ha sto lo hlo
  have h2 := fun sto lo hlo => refWrap_ev b hb sto lo hlo
  have hx := wrap_wd a
  have hy := wrap_wd b
  generalize wrapS a = x at *
  generalize wrapS b = y at *
  have hxw := mem_words hx.1 hx.2
  have hyw := mem_words hy.1 hy.2
  obtain ⟨hx1, hx2⟩ := id hx
  obtain ⟨hy1, hy2⟩ := id hy
  rw [← halv_words x hxw y hyw, show codeW 9 y = 0 from by simp [codeW]]
  have h3 := fun sto lo hlo => refBits_ev y ⟨by have := hy.1; omega, by have := hy.2; omega⟩ sto lo hlo
  have hd := fun sto lo hlo => halv_ev x (bitsW y % 4) hx (by omega) sto lo hlo
  have h16 : bitsW y < 16 := by have := bitsW_eq y; omega
  rw [show (((bitsW y % 4 : Nat)) : Int) = ((bitsW y : Nat) : Int).tmod 4 from by rw [Int.tmod_eq_emod_of_nonneg (by omega)]; omega] at hd
  generalize bitsW y = w at *
  refine CallEv.intro ⟨_, _, [], Tryd.func53, rfl, by decide, ?_⟩; simp only [go_sem, Tryd.ntmps53]
  repeat' (first | (refine go ⟨?_⟩) | (first | ((refine call ?_); (refine ⟨_, h1 _ _ (by first | omega | (simp; done) | (simp; omega)), ?_⟩); (try simp only [go_sem])) | ((refine call ?_); (refine ⟨_, h2 _ _ (by first | omega | (simp; done) | (simp; omega)), ?_⟩); (try simp only [go_sem])) | ((refine call ?_); (refine ⟨_, h3 _ _ (by first | omega | (simp; done) | (simp; omega)), ?_⟩); (try simp only [go_sem])) | ((refine call ?_); (refine ⟨_, hd _ _ (by first | omega | (simp; done) | (simp; omega)), ?_⟩); (try simp only [go_sem]))) | ((first | (refine bsp ?_ ?_) | (refine csp ?_ ?_)); all_goals (intro hb; (fail_if_success (cases hb; done)); (try simp only [decide_eq_true_eq, decide_eq_false_iff_not, beq_iff_eq, bne_iff_ne, ne_eq, beq_eq_false_iff_ne, bne_eq_false_iff_eq, Bool.not_eq_true', Bool.not_eq_false', Bool.and_eq_true, Bool.or_eq_true, Decidable.not_not] at hb); (try simp only [go_sem]))))
  refine ⟨by first | exact .inr rfl | exact .inl rfl, .inl ⟨[], _, (by dsimp only [Tryd.f53]; exact sv), ?_, by simp⟩⟩
  rfl
theorem rOp10_ev (a b : Int) (ha : Big a) (hb : Big b) (sto : Sto) (lo : Nat) (hlo : lo ≤ sto.length) : CallEv Tryd.prog tab B0 53 [.v (VI 10), .v (VI a), .v (VI b)] sto lo (.v (.tup [VI (opW 10 (wrapS a) (wrapS b)), VI (codeW 10 (wrapS b))])) sto := by
  have h1 := fun sto lo hlo => refWrap_ev a ha sto lo hlo
  have h2 := fun sto lo hlo => refWrap_ev b hb sto lo hlo
  have hx := wrap_wd a
  have hy := wrap_wd b
  generalize wrapS a = x at *
  generalize wrapS b = y at *
  have hxw := mem_words hx.1 hx.2
  have hyw := mem_words hy.1 hy.2
  obtain ⟨hx1, hx2⟩ := id hx
  obtain ⟨hy1, hy2⟩ := id hy
  rw [show opW 10 x y = if decide (x < y) then 1 else 0 from by simp [opW], show codeW 10 y = 0 from by simp [codeW]]
  refine CallEv.intro ⟨_, _, [], Tryd.func53, rfl, by decide, ?_⟩; simp only [go_sem, Tryd.ntmps53]
  repeat' (first | (refine go ⟨?_⟩) | (first | ((refine call ?_); (refine ⟨_, h1 _ _ (by first | omega | (simp; done) | (simp; omega)), ?_⟩); (try simp only [go_sem])) | ((refine call ?_); (refine ⟨_, h2 _ _ (by first | omega | (simp; done) | (simp; omega)), ?_⟩); (try simp only [go_sem])) | ((refine call ?_); (refine ⟨_, refNumber_ev _ _ _ (by first | omega | (simp; done) | (simp; omega)), ?_⟩); (try simp only [go_sem]))) | ((first | (refine bsp ?_ ?_) | (refine csp ?_ ?_)); all_goals (intro hb; (fail_if_success (cases hb; done)); (try simp only [decide_eq_true_eq, decide_eq_false_iff_not, beq_iff_eq, bne_iff_ne, ne_eq, beq_eq_false_iff_ne, bne_eq_false_iff_eq, Bool.not_eq_true', Bool.not_eq_false', Bool.and_eq_true, Bool.or_eq_true, Decidable.not_not] at hb); (try simp only [go_sem]))))
  refine ⟨by first | exact .inr rfl | exact .inl rfl, .inl ⟨[], _, (by dsimp only [Tryd.f53]; exact sv), ?_, by simp⟩⟩
  rfl
theorem rOp11_ev (a b : Int) (ha : Big a) (hb : Big b) (sto : Sto) (lo : Nat) (hlo : lo ≤ sto.length) : CallEv Tryd.prog tab B0 53 [.v (VI 11), .v (VI a), .v (VI b)] sto lo (.v (.tup [VI (opW 11 (wrapS a) (wrapS b)), VI (codeW 11 (wrapS b))])) sto := by
  have h1 := fun sto lo hlo => refWrap_ev a ha sto lo hlo
  have h2 := fun sto lo hlo => refWrap_ev b hb sto lo hlo
  have hx := wrap_wd a
  have hy := wrap_wd b
  generalize wrapS a = x at *
  generalize wrapS b = y at *
  have hxw := mem_words hx.1 hx.2
  have hyw := mem_words hy.1 hy.2
  obtain ⟨hx1, hx2⟩ := id hx
  obtain ⟨hy1, hy2⟩ := id hy
  rw [show opW 11 x y = if decide (x = y) then 1 else 0 from by simp [opW], show codeW 11 y = 0 from by simp [codeW]]
  refine CallEv.intro ⟨_, _, [], Tryd.func53, rfl, by decide, ?_⟩; simp only [go_sem, Tryd.ntmps53]
  repeat' (first | (refine go ⟨?_⟩) | (first | ((refine call ?_); (refine ⟨_, h1 _ _ (by first | omega | (simp; done) | (simp; omega)), ?_⟩); (try simp only [go_sem])) | ((refine call ?_); (refine ⟨_, h2 _ _ (by first | omega | (simp; done) | (simp; omega)), ?_⟩); (try simp only [go_sem])) | ((refine call ?_); (refine ⟨_, refNumber_ev _ _ _ (by first | omega | (simp; done) | (simp; omega)), ?_⟩); (try simp only [go_sem]))) | ((first | (refine bsp ?_ ?_) | (refine csp ?_ ?_)); all_goals (intro hb; (fail_if_success (cases hb; done)); (try simp only [decide_eq_true_eq, decide_eq_false_iff_not, beq_iff_eq, bne_iff_ne, ne_eq, beq_eq_false_iff_ne, bne_eq_false_iff_eq, Bool.not_eq_true', Bool.not_eq_false', Bool.and_eq_true, Bool.or_eq_true, Decidable.not_not] at hb); (try simp only [go_sem]))))
  refine ⟨by first | exact .inr rfl | exact .inl rfl, .inl ⟨[], _, (by dsimp only [Tryd.f53]; exact sv), ?_, by simp⟩⟩
  rfl
theorem rOp12_ev (a b : Int) (ha : Big a) (hb : Big b) (sto : Sto) (lo : Nat) (hlo : lo ≤ sto.length) : CallEv Tryd.prog tab B0 53 [.v (VI 12), .v (VI a), .v (VI b)] sto lo (.v (.tup [VI (opW 12 (wrapS a) (wrapS b)), VI (codeW 12 (wrapS b))])) sto := by
  have h1 := fun sto lo hlo => refWrap_ev a ha sto lo hlo
  have h2 := fun sto lo hlo => refWrap_ev b hb sto lo hlo
  have hx := wrap_wd a
  have hy := wrap_wd b
  generalize wrapS a = x at *
  generalize wrapS b = y at *
  have hxw := mem_words hx.1 hx.2
  have hyw := mem_words hy.1 hy.2
  obtain ⟨hx1, hx2⟩ := id hx
  obtain ⟨hy1, hy2⟩ := id hy
  rw [show opW 12 x y = if x ≠ 0 ∧ y ≠ 0 then 1 else 0 from by simp [opW], show codeW 12 y = 0 from by simp [codeW]]
  by_cases c1 : x = 0
  · rw [if_neg (fun h => h.1 c1)]
    refine CallEv.intro ⟨_, _, [], Tryd.func53, rfl, by decide, ?_⟩; simp only [go_sem, Tryd.ntmps53]
    repeat' (first | (refine go ⟨?_⟩) | (first | ((refine call ?_); (refine ⟨_, h1 _ _ (by first | omega | (simp; done) | (simp; omega)), ?_⟩); (try simp only [go_sem])) | ((refine call ?_); (refine ⟨_, h2 _ _ (by first | omega | (simp; done) | (simp; omega)), ?_⟩); (try simp only [go_sem])) | ((refine call ?_); (refine ⟨_, refNumber_ev _ _ _ (by first | omega | (simp; done) | (simp; omega)), ?_⟩); (try simp only [go_sem]))) | ((first | (refine bsp ?_ ?_) | (refine csp ?_ ?_)); all_goals (intro hb; (fail_if_success (cases hb; done)); (try simp only [decide_eq_true_eq, decide_eq_false_iff_not, beq_iff_eq, bne_iff_ne, ne_eq, beq_eq_false_iff_ne, bne_eq_false_iff_eq, Bool.not_eq_true', Bool.not_eq_false', Bool.and_eq_true, Bool.or_eq_true, Decidable.not_not] at hb); (try simp only [go_sem]))))
    refine ⟨by first | exact .inr rfl | exact .inl rfl, .inl ⟨[], _, (by dsimp only [Tryd.f53]; exact sv), ?_, by simp⟩⟩
    rfl
  by_cases c2 : y = 0
  · rw [if_neg (fun h => h.2 c2)]
    refine CallEv.intro ⟨_, _, [], Tryd.func53, rfl, by decide, ?_⟩; simp only [go_sem, Tryd.ntmps53]
    repeat' (first | (refine go ⟨?_⟩) | (first | ((refine call ?_); (refine ⟨_, h1 _ _ (by first | omega | (simp; done) | (simp; omega)), ?_⟩); (try simp only [go_sem])) | ((refine call ?_); (refine ⟨_, h2 _ _ (by first | omega | (simp; done) | (simp; omega)), ?_⟩); (try simp only [go_sem])) | ((refine call ?_); (refine ⟨_, refNumber_ev _ _ _ (by first | omega | (simp; done) | (simp; omega)), ?_⟩); (try simp only [go_sem]))) | ((first | (refine bsp ?_ ?_) | (refine csp ?_ ?_)); all_goals (intro hb; (fail_if_success (cases hb; done)); (try simp only [decide_eq_true_eq, decide_eq_false_iff_not, beq_iff_eq, bne_iff_ne, ne_eq, beq_eq_false_iff_ne, bne_eq_false_iff_eq, Bool.not_eq_true', Bool.not_eq_false', Bool.and_eq_true, Bool.or_eq_true, Decidable.not_not] at hb); (try simp only [go_sem]))))
    refine ⟨by first | exact .inr rfl | exact .inl rfl, .inl ⟨[], _, (by dsimp only [Tryd.f53]; exact sv), ?_, by simp⟩⟩
    rfl
  · rw [if_pos ⟨c1, c2⟩]
    refine CallEv.intro ⟨_, _, [], Tryd.func53, rfl, by decide, ?_⟩; simp only [go_sem, Tryd.ntmps53]
    repeat' (first | (refine go ⟨?_⟩) | (first | ((refine call ?_); (refine ⟨_, h1 _ _ (by first | omega | (simp; done) | (simp; omega)), ?_⟩); (try simp only [go_sem])) | ((refine call ?_); (refine ⟨_, h2 _ _ (by first | omega | (simp; done) | (simp; omega)), ?_⟩); (try simp only [go_sem])) | ((refine call ?_); (refine ⟨_, refNumber_ev _ _ _ (by first | omega | (simp; done) | (simp; omega)), ?_⟩); (try simp only [go_sem]))) | ((first | (refine bsp ?_ ?_) | (refine csp ?_ ?_)); all_goals (intro hb; (fail_if_success (cases hb; done)); (try simp only [decide_eq_true_eq, decide_eq_false_iff_not, beq_iff_eq, bne_iff_ne, ne_eq, beq_eq_false_iff_ne, bne_eq_false_iff_eq, Bool.not_eq_true', Bool.not_eq_false', Bool.and_eq_true, Bool.or_eq_true, Decidable.not_not] at hb); (try simp only [go_sem]))))
    refine ⟨by first | exact .inr rfl | exact .inl rfl, .inl ⟨[], _, (by dsimp only [Tryd.f53]; exact sv), ?_, by simp⟩⟩
    rfl
theorem rOp13_ev (a b : Int) (ha : Big a) (hb : Big b) (sto : Sto) (lo : Nat) (hlo : lo ≤ sto.length) : CallEv Tryd.prog tab B0 53 [.v (VI 13), .v (VI a), .v (VI b)] sto lo (.v (.tup [VI (opW 13 (wrapS a) (wrapS b)), VI (codeW 13 (wrapS b))])) sto := by
  have h1 := fun sto lo hlo => refWrap_ev a ha sto lo hlo
  have h2 := fun sto lo hlo => refWrap_ev b hb sto lo hlo
  have hx := wrap_wd a
  have hy := wrap_wd b
  generalize wrapS a = x at *
  generalize wrapS b = y at *
  have hxw := mem_words hx.1 hx.2
  have hyw := mem_words hy.1 hy.2
  obtain ⟨hx1, hx2⟩ := id hx
  obtain ⟨hy1, hy2⟩ := id hy
  rw [show opW 13 x y = if x ≠ 0 ∨ y ≠ 0 then 1 else 0 from by simp [opW], show codeW 13 y = 0 from by simp [codeW]]
  by_cases c1 : x = 0
  · by_cases c2 : y = 0
    · rw [if_neg (fun h => h.elim (· c1) (· c2))]
      refine CallEv.intro ⟨_, _, [], Tryd.func53, rfl, by decide, ?_⟩; simp only [go_sem, Tryd.ntmps53]
      repeat' (first | (refine go ⟨?_⟩) | (first | ((refine call ?_); (refine ⟨_, h1 _ _ (by first | omega | (simp; done) | (simp; omega)), ?_⟩); (try simp only [go_sem])) | ((refine call ?_); (refine ⟨_, h2 _ _ (by first | omega | (simp; done) | (simp; omega)), ?_⟩); (try simp only [go_sem])) | ((refine call ?_); (refine ⟨_, refNumber_ev _ _ _ (by first | omega | (simp; done) | (simp; omega)), ?_⟩); (try simp only [go_sem]))) | ((first | (refine bsp ?_ ?_) | (refine csp ?_ ?_)); all_goals (intro hb; (fail_if_success (cases hb; done)); (try simp only [decide_eq_true_eq, decide_eq_false_iff_not, beq_iff_eq, bne_iff_ne, ne_eq, beq_eq_false_iff_ne, bne_eq_false_iff_eq, Bool.not_eq_true', Bool.not_eq_false', Bool.and_eq_true, Bool.or_eq_true, Decidable.not_not] at hb); (try simp only [go_sem]))))
      refine ⟨by first | exact .inr rfl | exact .inl rfl, .inl ⟨[], _, (by dsimp only [Tryd.f53]; exact sv), ?_, by simp⟩⟩
      rfl
    · rw [if_pos (.inr c2)]
      refine CallEv.intro ⟨_, _, [], Tryd.func53, rfl, by decide, ?_⟩; simp only [go_sem, Tryd.ntmps53]
      repeat' (first | (refine go ⟨?_⟩) | (first | ((refine call ?_); (refine ⟨_, h1 _ _ (by first | omega | (simp; done) | (simp; omega)), ?_⟩); (try simp only [go_sem])) | ((refine call ?_); (refine ⟨_, h2 _ _ (by first | omega | (simp; done) | (simp; omega)), ?_⟩); (try simp only [go_sem])) | ((refine call ?_); (refine ⟨_, refNumber_ev _ _ _ (by first | omega | (simp; done) | (simp; omega)), ?_⟩); (try simp only [go_sem]))) | ((first | (refine bsp ?_ ?_) | (refine csp ?_ ?_)); all_goals (intro hb; (fail_if_success (cases hb; done)); (try simp only [decide_eq_true_eq, decide_eq_false_iff_not, beq_iff_eq, bne_iff_ne, ne_eq, beq_eq_false_iff_ne, bne_eq_false_iff_eq, Bool.not_eq_true', Bool.not_eq_false', Bool.and_eq_true, Bool.or_eq_true, Decidable.not_not] at hb); (try simp only [go_sem]))))
      refine ⟨by first | exact .inr rfl | exact .inl rfl, .inl ⟨[], _, (by dsimp only [Tryd.f53]; exact sv), ?_, by simp⟩⟩
      rfl
  · rw [if_pos (.inl c1)]
    refine CallEv.intro ⟨_, _, [], Tryd.func53, rfl, by decide, ?_⟩; simp only [go_sem, Tryd.ntmps53]
    repeat' (first | (refine go ⟨?_⟩) | (first | ((refine call ?_); (refine ⟨_, h1 _ _ (by first | omega | (simp; done) | (simp; omega)), ?_⟩); (try simp only [go_sem])) | ((refine call ?_); (refine ⟨_, h2 _ _ (by first | omega | (simp; done) | (simp; omega)), ?_⟩); (try simp only [go_sem])) | ((refine call ?_); (refine ⟨_, refNumber_ev _ _ _ (by first | omega | (simp; done) | (simp; omega)), ?_⟩); (try simp only [go_sem]))) | ((first | (refine bsp ?_ ?_) | (refine csp ?_ ?_)); all_goals (intro hb; (fail_if_success (cases hb; done)); (try simp only [decide_eq_true_eq, decide_eq_false_iff_not, beq_iff_eq, bne_iff_ne, ne_eq, beq_eq_false_iff_ne, bne_eq_false_iff_eq, Bool.not_eq_true', Bool.not_eq_false', Bool.and_eq_true, Bool.or_eq_true, Decidable.not_not] at hb); (try simp only [go_sem]))))
    refine ⟨by first | exact .inr rfl | exact .inl rfl, .inl ⟨[], _, (by dsimp only [Tryd.f53]; exact sv), ?_, by simp⟩⟩
    rfl
theorem wOp_ev (op a b : Int) (h1 : 0 ≤ op) (h2 : op < 14) (ha : Big a) (hb : Big b) (sto : Sto) (lo : Nat) (hlo : lo ≤ sto.length) : CallEv Tryd.prog tab B0 50 [.v (VI op), .v (VI a), .v (VI b)] sto lo (.v (.tup [VI (opW op (wrapS a) (wrapS b)), VI (codeW op (wrapS b))])) sto := by
  obtain rfl | rfl | rfl | rfl | rfl | rfl | rfl | rfl | rfl | rfl | rfl | rfl | rfl | rfl : op = 0 ∨ op = 1 ∨ op = 2 ∨ op = 3 ∨ op = 4 ∨ op = 5 ∨ op = 6 ∨ op = 7 ∨ op = 8 ∨ op = 9 ∨ op = 10 ∨ op = 11 ∨ op = 12 ∨ op = 13 := by omega
  · exact wOp0_ev a b ha hb sto lo hlo
  · exact wOp1_ev a b ha hb sto lo hlo
  · exact wOp2_ev a b ha hb sto lo hlo
  · exact wOp3_ev a b ha hb sto lo hlo
  · exact wOp4_ev a b ha hb sto lo hlo
  · exact wOp5_ev a b ha hb sto lo hlo
  · exact wOp6_ev a b ha hb sto lo hlo
  · exact wOp7_ev a b ha hb sto lo hlo
  · exact wOp8_ev a b ha hb sto lo hlo
  · exact wOp9_ev a b ha hb sto lo hlo
  · exact wOp10_ev a b ha hb sto lo hlo
  · exact wOp11_ev a b ha hb sto lo hlo
  · exact wOp12_ev a b ha hb sto lo hlo
  · exact wOp13_ev a b ha hb sto lo hlo
theorem rOp_ev (op a b : Int) (h1 : 0 ≤ op) (h2 : op < 14) (ha : Big a) (hb : Big b) (sto : Sto) (lo : Nat) (hlo : lo ≤ sto.length) : CallEv Tryd.prog tab B0 53 [.v (VI op), .v (VI a), .v (VI b)] sto lo (.v (.tup [VI (opW op (wrapS a) (wrapS b)), VI (codeW op (wrapS b))])) sto := by
  obtain rfl | rfl | rfl | rfl | rfl | rfl | rfl | rfl | rfl | rfl | rfl | rfl | rfl | rfl : op = 0 ∨ op = 1 ∨ op = 2 ∨ op = 3 ∨ op = 4 ∨ op = 5 ∨ op = 6 ∨ op = 7 ∨ op = 8 ∨ op = 9 ∨ op = 10 ∨ op = 11 ∨ op = 12 ∨ op = 13 := by omega
  · exact rOp0_ev a b ha hb sto lo hlo
  · exact rOp1_ev a b ha hb sto lo hlo
  · exact rOp2_ev a b ha hb sto lo hlo
  · exact rOp3_ev a b ha hb sto lo hlo
  · exact rOp4_ev a b ha hb sto lo hlo
  · exact rOp5_ev a b ha hb sto lo hlo
  · exact rOp6_ev a b ha hb sto lo hlo
  · exact rOp7_ev a b ha hb sto lo hlo
  · exact rOp8_ev a b ha hb sto lo hlo
  · exact rOp9_ev a b ha hb sto lo hlo
  · exact rOp10_ev a b ha hb sto lo hlo
  · exact rOp11_ev a b ha hb sto lo hlo
  · exact rOp12_ev a b ha hb sto lo hlo
  · exact rOp13_ev a b ha hb sto lo hlo
end Go.Proofs.YtomameefmobnlaaDoor
namespace Go.Proofs.YtomameefmobnlaaDoor
open Go Go.RowKit

attribute [local irreducible] EvOps EvC
attribute [local go_sem] List.getElem?_toArray getS List.flatten_cons List.flatten_nil List.contains_nil cellsTs List.append_nil
set_option linter.unusedSimpArgs false
set_option linter.unusedVariables false
set_option maxRecDepth 100000
set_option maxHeartbeats 4000000
theorem tNumber_ev (b : Bool) (sto : Sto) (lo : Nat) (hlo : lo ≤ sto.length) : CallEv Tryd.prog tab B0 49 [.v (.bool b)] sto lo (.v (VI (if b then 1 else 0))) sto := by
  cases b
  all_goals
    refine CallEv.intro ⟨_, _, [], Tryd.func49, rfl, by decide, ?_⟩; simp only [go_sem, Tryd.ntmps49]
    repeat' (first | (refine go ⟨?_⟩) | (fail) | ((first | (refine bsp ?_ ?_) | (refine csp ?_ ?_)); all_goals (intro hb; (fail_if_success (cases hb; done)); (try simp only [decide_eq_true_eq, decide_eq_false_iff_not, beq_iff_eq, bne_iff_ne, ne_eq, beq_eq_false_iff_ne, bne_eq_false_iff_eq, Bool.not_eq_true', Bool.not_eq_false', Bool.and_eq_true, Bool.or_eq_true, Decidable.not_not] at hb); (try simp only [go_sem]))))
    refine ⟨by first | exact .inr rfl | exact .inl rfl, .inl ⟨[], _, (by dsimp only [Tryd.f49]; exact sv), ?_, by simp⟩⟩
    rfl
theorem valAt_lt {vals : List Int} {n : Nat} (h : n < vals.length) (m : Int) : valAt vals (n : Int) m = if m = 1 then (if vals[n] ≠ 0 then 1 else 0) else wrapS vals[n] := by
  unfold valAt
  rw [Int.toNat_natCast, show vals.getD n 0 = vals[n] from by simp [List.getD, h]]
theorem valAt_ge {vals : List Int} {n : Nat} (h : ¬ n < vals.length) (m : Int) : valAt vals (n : Int) m = 0 := by
  unfold valAt
  rw [Int.toNat_natCast, show vals.getD n 0 = 0 from by simp [List.getD, h]]
  simp [wrapS]
theorem eval_big {k : Int} {t : Tr} (h : Wt k t) (vals : List Int) : Big (evalS vals t) := by
  have := eval_range h vals
  exact ⟨by omega, by omega⟩
theorem evalBin_ev (vals : List Int) {op va vb : Int} {a b : Tr} (h1 : 0 ≤ op) (h2 : op < 14) (ha : Big va) (hb : Big vb)
    (iha : ∀ (sto : Sto) (lo : Nat), lo ≤ sto.length → CallEv Tryd.prog tab B0 20 [.v (TV a), .v (LI vals)] sto lo (.v (VI va)) sto)
    (ihb : ∀ (sto : Sto) (lo : Nat), lo ≤ sto.length → CallEv Tryd.prog tab B0 20 [.v (TV b), .v (LI vals)] sto lo (.v (VI vb)) sto) (sto : Sto) (lo : Nat) (hlo : lo ≤ sto.length) :
    CallEv Tryd.prog tab B0 20 [.v (TV (.mk 9 op 0 [a, b])), .v (LI vals)] sto lo (.v (VI (opW op (wrapS va) (wrapS vb)))) sto := by
  have ho := fun sto lo hlo => wOp_ev op va vb h1 h2 ha hb sto lo hlo
  generalize opW op (wrapS va) (wrapS vb) = r at *
  generalize codeW op (wrapS vb) = cd at *
  obtain ⟨k1, n1, m1, l1⟩ := a
  obtain ⟨k2, n2, m2, l2⟩ := b
  refine CallEv.intro ⟨_, _, [], Tryd.func20, rfl, by decide, ?_⟩; simp only [go_sem, Tryd.ntmps20]
  repeat' (first | (refine go ⟨?_⟩) | (first | ((refine call ?_); (refine ⟨_, iha _ _ (by first | omega | (simp; done) | (simp; omega)), ?_⟩); (try simp only [go_sem])) | ((refine call ?_); (refine ⟨_, ihb _ _ (by first | omega | (simp; done) | (simp; omega)), ?_⟩); (try simp only [go_sem])) | ((refine call ?_); (refine ⟨_, ho _ _ (by first | omega | (simp; done) | (simp; omega)), ?_⟩); (try simp only [go_sem]))) | ((first | (refine bsp ?_ ?_) | (refine csp ?_ ?_)); all_goals (intro hb; (fail_if_success (cases hb; done)); (try simp only [decide_eq_true_eq, decide_eq_false_iff_not, beq_iff_eq, bne_iff_ne, ne_eq, beq_eq_false_iff_ne, bne_eq_false_iff_eq, Bool.not_eq_true', Bool.not_eq_false', Bool.and_eq_true, Bool.or_eq_true, Decidable.not_not] at hb); (try simp only [go_sem]))))
  refine ⟨by first | exact .inr rfl | exact .inl rfl, .inl ⟨[], _, (by dsimp only [Tryd.f20]; exact sv), ?_, by simp⟩⟩
  rfl
theorem eval_ev (vals : List Int) (hv : ∀ x ∈ vals, Big x) (hl : vals.length < 9223372036854775808) {k : Int} {t : Tr} (h : Wt k t) : ∀ (sto : Sto) (lo : Nat), lo ≤ sto.length → CallEv Tryd.prog tab B0 20 [.v (TV t), .v (LI vals)] sto lo (.v (VI (evalS vals t))) sto := by
  induction h with
  | num h1 h2 =>
    rename_i n
    intro sto lo hlo
    rw [show evalS vals (.mk 4 n 0 []) = n from by simp [evalS]]
    refine CallEv.intro ⟨_, _, [], Tryd.func20, rfl, by decide, ?_⟩; simp only [go_sem, Tryd.ntmps20]
    repeat' (first | (refine go ⟨?_⟩) | (fail) | ((first | (refine bsp ?_ ?_) | (refine csp ?_ ?_)); all_goals (intro hb; (fail_if_success (cases hb; done)); (try simp only [decide_eq_true_eq, decide_eq_false_iff_not, beq_iff_eq, bne_iff_ne, ne_eq, beq_eq_false_iff_ne, bne_eq_false_iff_eq, Bool.not_eq_true', Bool.not_eq_false', Bool.and_eq_true, Bool.or_eq_true, Decidable.not_not] at hb); (try simp only [go_sem]))))
    refine ⟨by first | exact .inr rfl | exact .inl rfl, .inl ⟨[], _, (by dsimp only [Tryd.f20]; exact sv), ?_, by simp⟩⟩
    rfl
  | truth h1 h2 =>
    rename_i n
    intro sto lo hlo
    rw [show evalS vals (.mk 5 n 0 []) = n from by simp [evalS]]
    refine CallEv.intro ⟨_, _, [], Tryd.func20, rfl, by decide, ?_⟩; simp only [go_sem, Tryd.ntmps20]
    repeat' (first | (refine go ⟨?_⟩) | (fail) | ((first | (refine bsp ?_ ?_) | (refine csp ?_ ?_)); all_goals (intro hb; (fail_if_success (cases hb; done)); (try simp only [decide_eq_true_eq, decide_eq_false_iff_not, beq_iff_eq, bne_iff_ne, ne_eq, beq_eq_false_iff_ne, bne_eq_false_iff_eq, Bool.not_eq_true', Bool.not_eq_false', Bool.and_eq_true, Bool.or_eq_true, Decidable.not_not] at hb); (try simp only [go_sem]))))
    refine ⟨by first | exact .inr rfl | exact .inl rfl, .inl ⟨[], _, (by dsimp only [Tryd.f20]; exact sv), ?_, by simp⟩⟩
    rfl
  | var h1 h2 h3 =>
    rename_i n m
    intro sto lo hlo
    rw [show evalS vals (.mk 6 n m []) = valAt vals n m from by simp [evalS]]
    obtain ⟨n, rfl⟩ := Int.eq_ofNat_of_zero_le h1
    by_cases hn : n < vals.length
    · rw [valAt_lt hn]
      have hb := hv _ (List.getElem_mem hn)
      have hw := fun sto lo hlo => wWrap_ev vals[n] hb sto lo hlo
      by_cases hm : m = 1
      · subst hm
        rw [if_pos rfl]
        by_cases h0 : vals[n] = 0
        · rw [if_neg (fun h => h h0)]
          refine CallEv.intro ⟨_, _, [], Tryd.func20, rfl, by decide, ?_⟩; simp only [go_sem, Tryd.ntmps20]
          repeat' (first | (refine go ⟨?_⟩) | (((refine call ?_); (refine ⟨_, tNumber_ev _ _ _ (by first | omega | (simp; done) | (simp; omega)), ?_⟩); (try simp only [go_sem]))) | ((first | (refine bsp ?_ ?_) | (refine csp ?_ ?_)); all_goals (intro hb; (fail_if_success (cases hb; done)); (try simp only [decide_eq_true_eq, decide_eq_false_iff_not, beq_iff_eq, bne_iff_ne, ne_eq, beq_eq_false_iff_ne, bne_eq_false_iff_eq, Bool.not_eq_true', Bool.not_eq_false', Bool.and_eq_true, Bool.or_eq_true, Decidable.not_not] at hb); (try simp only [go_sem]))))
          refine ⟨by first | exact .inr rfl | exact .inl rfl, .inl ⟨[], _, (by dsimp only [Tryd.f20]; exact sv), ?_, by simp⟩⟩
          rfl
        · rw [if_pos h0]
          refine CallEv.intro ⟨_, _, [], Tryd.func20, rfl, by decide, ?_⟩; simp only [go_sem, Tryd.ntmps20]
          repeat' (first | (refine go ⟨?_⟩) | (((refine call ?_); (refine ⟨_, tNumber_ev _ _ _ (by first | omega | (simp; done) | (simp; omega)), ?_⟩); (try simp only [go_sem]))) | ((first | (refine bsp ?_ ?_) | (refine csp ?_ ?_)); all_goals (intro hb; (fail_if_success (cases hb; done)); (try simp only [decide_eq_true_eq, decide_eq_false_iff_not, beq_iff_eq, bne_iff_ne, ne_eq, beq_eq_false_iff_ne, bne_eq_false_iff_eq, Bool.not_eq_true', Bool.not_eq_false', Bool.and_eq_true, Bool.or_eq_true, Decidable.not_not] at hb); (try simp only [go_sem]))))
          refine ⟨by first | exact .inr rfl | exact .inl rfl, .inl ⟨[], _, (by dsimp only [Tryd.f20]; exact sv), ?_, by simp⟩⟩
          rfl
      · rw [if_neg hm]
        refine CallEv.intro ⟨_, _, [], Tryd.func20, rfl, by decide, ?_⟩; simp only [go_sem, Tryd.ntmps20]
        repeat' (first | (refine go ⟨?_⟩) | (((refine call ?_); (refine ⟨_, hw _ _ (by first | omega | (simp; done) | (simp; omega)), ?_⟩); (try simp only [go_sem]))) | ((first | (refine bsp ?_ ?_) | (refine csp ?_ ?_)); all_goals (intro hb; (fail_if_success (cases hb; done)); (try simp only [decide_eq_true_eq, decide_eq_false_iff_not, beq_iff_eq, bne_iff_ne, ne_eq, beq_eq_false_iff_ne, bne_eq_false_iff_eq, Bool.not_eq_true', Bool.not_eq_false', Bool.and_eq_true, Bool.or_eq_true, Decidable.not_not] at hb); (try simp only [go_sem]))))
        refine ⟨by first | exact .inr rfl | exact .inl rfl, .inl ⟨[], _, (by dsimp only [Tryd.f20]; exact sv), ?_, by simp⟩⟩
        rfl
    · rw [valAt_ge hn]
      have hw := fun sto lo hlo => wWrap_ev 0 ⟨by omega, by omega⟩ sto lo hlo
      rw [show wrapS 0 = 0 from by decide] at hw
      by_cases hm : m = 1
      · subst hm
        refine CallEv.intro ⟨_, _, [], Tryd.func20, rfl, by decide, ?_⟩; simp only [go_sem, Tryd.ntmps20]
        repeat' (first | (refine go ⟨?_⟩) | (((refine call ?_); (refine ⟨_, tNumber_ev _ _ _ (by first | omega | (simp; done) | (simp; omega)), ?_⟩); (try simp only [go_sem]))) | ((first | (refine bsp ?_ ?_) | (refine csp ?_ ?_)); all_goals (intro hb; (fail_if_success (cases hb; done)); (try simp only [decide_eq_true_eq, decide_eq_false_iff_not, beq_iff_eq, bne_iff_ne, ne_eq, beq_eq_false_iff_ne, bne_eq_false_iff_eq, Bool.not_eq_true', Bool.not_eq_false', Bool.and_eq_true, Bool.or_eq_true, Decidable.not_not] at hb); (try simp only [go_sem]))))
        refine ⟨by first | exact .inr rfl | exact .inl rfl, .inl ⟨[], _, (by dsimp only [Tryd.f20]; exact sv), ?_, by simp⟩⟩
        rfl
      · refine CallEv.intro ⟨_, _, [], Tryd.func20, rfl, by decide, ?_⟩; simp only [go_sem, Tryd.ntmps20]
        repeat' (first | (refine go ⟨?_⟩) | (((refine call ?_); (refine ⟨_, hw _ _ (by first | omega | (simp; done) | (simp; omega)), ?_⟩); (try simp only [go_sem]))) | ((first | (refine bsp ?_ ?_) | (refine csp ?_ ?_)); all_goals (intro hb; (fail_if_success (cases hb; done)); (try simp only [decide_eq_true_eq, decide_eq_false_iff_not, beq_iff_eq, bne_iff_ne, ne_eq, beq_eq_false_iff_ne, bne_eq_false_iff_eq, Bool.not_eq_true', Bool.not_eq_false', Bool.and_eq_true, Bool.or_eq_true, Decidable.not_not] at hb); (try simp only [go_sem]))))
        refine ⟨by first | exact .inr rfl | exact .inl rfl, .inl ⟨[], _, (by dsimp only [Tryd.f20]; exact sv), ?_, by simp⟩⟩
        rfl
  | not ha ih =>
    rename_i a
    intro sto lo hlo
    have hr := eval_range ha vals
    rw [show evalS vals (.mk 10 0 0 [a]) = 1 - evalS vals a from by
      have := hr.2.2 rfl
      simp only [evalS]
      simp
      split <;> omega]
    generalize evalS vals a = v at *
    obtain ⟨hr1, hr2, -⟩ := hr
    obtain ⟨k1, n1, m1, l1⟩ := a
    clear ha
    refine CallEv.intro ⟨_, _, [], Tryd.func20, rfl, by decide, ?_⟩; simp only [go_sem, Tryd.ntmps20]
    repeat' (first | (refine go ⟨?_⟩) | (((refine call ?_); (refine ⟨_, ih _ _ (by first | omega | (simp; done) | (simp; omega)), ?_⟩); (try simp only [go_sem]))) | ((first | (refine bsp ?_ ?_) | (refine csp ?_ ?_)); all_goals (intro hb; (fail_if_success (cases hb; done)); (try simp only [decide_eq_true_eq, decide_eq_false_iff_not, beq_iff_eq, bne_iff_ne, ne_eq, beq_eq_false_iff_ne, bne_eq_false_iff_eq, Bool.not_eq_true', Bool.not_eq_false', Bool.and_eq_true, Bool.or_eq_true, Decidable.not_not] at hb); (try simp only [go_sem]))))
    refine ⟨by first | exact .inr rfl | exact .inl rfl, .inl ⟨[], _, (by dsimp only [Tryd.f20]; exact sv), ?_, by simp⟩⟩
    rfl
  | cond hc ha hb ihc iha ihb =>
    rename_i k c a b
    intro sto lo hlo
    have hr := (eval_range hc vals).2.2 rfl
    have e : evalS vals (.mk 29 0 0 [c, a, b]) = if evalS vals c = 1 then evalS vals a else evalS vals b := by simp [evalS]
    rw [e]
    generalize evalS vals a = va at *
    generalize evalS vals b = vb at *
    generalize evalS vals c = vc at *
    obtain ⟨k0, n0, m0, l0⟩ := c
    obtain ⟨k1, n1, m1, l1⟩ := a
    obtain ⟨k2, n2, m2, l2⟩ := b
    clear hc ha hb e
    rcases hr with rfl | rfl
    · rw [if_neg (by decide)]
      refine CallEv.intro ⟨_, _, [], Tryd.func20, rfl, by decide, ?_⟩; simp only [go_sem, Tryd.ntmps20]
      repeat' (first | (refine go ⟨?_⟩) | (first | ((refine call ?_); (refine ⟨_, ihc _ _ (by first | omega | (simp; done) | (simp; omega)), ?_⟩); (try simp only [go_sem])) | ((refine call ?_); (refine ⟨_, ihb _ _ (by first | omega | (simp; done) | (simp; omega)), ?_⟩); (try simp only [go_sem]))) | ((first | (refine bsp ?_ ?_) | (refine csp ?_ ?_)); all_goals (intro hb; (fail_if_success (cases hb; done)); (try simp only [decide_eq_true_eq, decide_eq_false_iff_not, beq_iff_eq, bne_iff_ne, ne_eq, beq_eq_false_iff_ne, bne_eq_false_iff_eq, Bool.not_eq_true', Bool.not_eq_false', Bool.and_eq_true, Bool.or_eq_true, Decidable.not_not] at hb); (try simp only [go_sem]))))
      refine ⟨by first | exact .inr rfl | exact .inl rfl, .inl ⟨[], _, (by dsimp only [Tryd.f20]; exact sv), ?_, by simp⟩⟩
      rfl
    · rw [if_pos rfl]
      refine CallEv.intro ⟨_, _, [], Tryd.func20, rfl, by decide, ?_⟩; simp only [go_sem, Tryd.ntmps20]
      repeat' (first | (refine go ⟨?_⟩) | (first | ((refine call ?_); (refine ⟨_, ihc _ _ (by first | omega | (simp; done) | (simp; omega)), ?_⟩); (try simp only [go_sem])) | ((refine call ?_); (refine ⟨_, iha _ _ (by first | omega | (simp; done) | (simp; omega)), ?_⟩); (try simp only [go_sem]))) | ((first | (refine bsp ?_ ?_) | (refine csp ?_ ?_)); all_goals (intro hb; (fail_if_success (cases hb; done)); (try simp only [decide_eq_true_eq, decide_eq_false_iff_not, beq_iff_eq, bne_iff_ne, ne_eq, beq_eq_false_iff_ne, bne_eq_false_iff_eq, Bool.not_eq_true', Bool.not_eq_false', Bool.and_eq_true, Bool.or_eq_true, Decidable.not_not] at hb); (try simp only [go_sem]))))
      refine ⟨by first | exact .inr rfl | exact .inl rfl, .inl ⟨[], _, (by dsimp only [Tryd.f20]; exact sv), ?_, by simp⟩⟩
      rfl
  | word h1 h2 ha hb iha ihb =>
    rename_i op a b
    intro sto lo hlo
    rw [show evalS vals (.mk 9 op 0 [a, b]) = opW op (wrapS (evalS vals a)) (wrapS (evalS vals b)) from by simp [evalS]]
    exact evalBin_ev vals (by omega) (by omega) (eval_big ha vals) (eval_big hb vals) iha ihb sto lo hlo
  | comp h1 h2 ha hb iha ihb =>
    rename_i op a b
    intro sto lo hlo
    rw [show evalS vals (.mk 9 op 0 [a, b]) = opW op (wrapS (evalS vals a)) (wrapS (evalS vals b)) from by simp [evalS]]
    exact evalBin_ev vals (by omega) (by omega) (eval_big ha vals) (eval_big hb vals) iha ihb sto lo hlo
  | both h1 h2 ha hb iha ihb =>
    rename_i op a b
    intro sto lo hlo
    rw [show evalS vals (.mk 9 op 0 [a, b]) = opW op (wrapS (evalS vals a)) (wrapS (evalS vals b)) from by simp [evalS]]
    exact evalBin_ev vals (by omega) (by omega) (eval_big ha vals) (eval_big hb vals) iha ihb sto lo hlo
end Go.Proofs.YtomameefmobnlaaDoor
namespace Go.Proofs.YtomameefmobnlaaDoor
open Go Go.RowKit

attribute [local irreducible] EvOps EvC
attribute [local go_sem] List.getElem?_toArray getS List.flatten_cons List.flatten_nil List.contains_nil cellsTs List.append_nil
set_option linter.unusedSimpArgs false
set_option linter.unusedVariables false
set_option maxRecDepth 100000
set_option maxHeartbeats 4000000
theorem rEvalBin_ev (vals : List Int) {op va vb : Int} {a b : Tr} (h1 : 0 ≤ op) (h2 : op < 14) (ha : Big va) (hb : Big vb)
    (iha : ∀ (sto : Sto) (lo : Nat), lo ≤ sto.length → CallEv Tryd.prog tab B0 21 [.v (TV a), .v (LI vals)] sto lo (.v (VI va)) sto)
    (ihb : ∀ (sto : Sto) (lo : Nat), lo ≤ sto.length → CallEv Tryd.prog tab B0 21 [.v (TV b), .v (LI vals)] sto lo (.v (VI vb)) sto) (sto : Sto) (lo : Nat) (hlo : lo ≤ sto.length) :
    CallEv Tryd.prog tab B0 21 [.v (TV (.mk 9 op 0 [a, b])), .v (LI vals)] sto lo (.v (VI (opW op (wrapS va) (wrapS vb)))) sto := by
  have ho := fun sto lo hlo => rOp_ev op va vb h1 h2 ha hb sto lo hlo
  have hz : vb = 0 → (op = 3 ∨ op = 4) → opW op (wrapS va) (wrapS vb) = 0 := fun h h' => by
    subst h
    rcases h' with rfl | rfl
    · simp [opW, wrapS]
    · simp [opW, wrapS]
  have hzh := Lib.hid hz
  clear hz
  generalize opW op (wrapS va) (wrapS vb) = r at *
  generalize codeW op (wrapS vb) = cd at *
  obtain ⟨k1, n1, m1, l1⟩ := a
  obtain ⟨k2, n2, m2, l2⟩ := b
  refine CallEv.intro ⟨_, _, [], Tryd.func21, rfl, by decide, ?_⟩; simp only [go_sem, Tryd.ntmps21]
  repeat' (first | (refine go ⟨?_⟩) | (first | ((refine call ?_); (refine ⟨_, iha _ _ (by first | omega | (simp; done) | (simp; omega)), ?_⟩); (try simp only [go_sem])) | ((refine call ?_); (refine ⟨_, ihb _ _ (by first | omega | (simp; done) | (simp; omega)), ?_⟩); (try simp only [go_sem])) | ((refine call ?_); (refine ⟨_, ho _ _ (by first | omega | (simp; done) | (simp; omega)), ?_⟩); (try simp only [go_sem]))) | ((first | (refine bsp ?_ ?_) | (refine csp ?_ ?_)); all_goals (intro hb; (fail_if_success (cases hb; done)); (try simp only [decide_eq_true_eq, decide_eq_false_iff_not, beq_iff_eq, bne_iff_ne, ne_eq, beq_eq_false_iff_ne, bne_eq_false_iff_eq, Bool.not_eq_true', Bool.not_eq_false', Bool.and_eq_true, Bool.or_eq_true, Decidable.not_not] at hb); (try simp only [go_sem]))))
  all_goals
    refine ⟨by first | exact .inr rfl | exact .inl rfl, .inl ⟨[], _, (by dsimp only [Tryd.f21]; exact sv), ?_, by simp⟩⟩
    first
      | rfl
      | (have hz : vb = 0 → (op = 3 ∨ op = 4) → r = 0 := hzh
         rw [hz (by assumption) (by omega)])
theorem rEval_ev (vals : List Int) (hv : ∀ x ∈ vals, Big x) (hl : vals.length < 9223372036854775808) {k : Int} {t : Tr} (h : Wt k t) : ∀ (sto : Sto) (lo : Nat), lo ≤ sto.length → CallEv Tryd.prog tab B0 21 [.v (TV t), .v (LI vals)] sto lo (.v (VI (evalS vals t))) sto := by
  induction h with
  | num h1 h2 =>
    rename_i n
    intro sto lo hlo
    rw [show evalS vals (.mk 4 n 0 []) = n from by simp [evalS]]
    refine CallEv.intro ⟨_, _, [], Tryd.func21, rfl, by decide, ?_⟩; simp only [go_sem, Tryd.ntmps21]
    repeat' (first | (refine go ⟨?_⟩) | (fail) | ((first | (refine bsp ?_ ?_) | (refine csp ?_ ?_)); all_goals (intro hb; (fail_if_success (cases hb; done)); (try simp only [decide_eq_true_eq, decide_eq_false_iff_not, beq_iff_eq, bne_iff_ne, ne_eq, beq_eq_false_iff_ne, bne_eq_false_iff_eq, Bool.not_eq_true', Bool.not_eq_false', Bool.and_eq_true, Bool.or_eq_true, Decidable.not_not] at hb); (try simp only [go_sem]))))
    refine ⟨by first | exact .inr rfl | exact .inl rfl, .inl ⟨[], _, (by dsimp only [Tryd.f21]; exact sv), ?_, by simp⟩⟩
    rfl
  | truth h1 h2 =>
    rename_i n
    intro sto lo hlo
    rw [show evalS vals (.mk 5 n 0 []) = n from by simp [evalS]]
    refine CallEv.intro ⟨_, _, [], Tryd.func21, rfl, by decide, ?_⟩; simp only [go_sem, Tryd.ntmps21]
    repeat' (first | (refine go ⟨?_⟩) | (fail) | ((first | (refine bsp ?_ ?_) | (refine csp ?_ ?_)); all_goals (intro hb; (fail_if_success (cases hb; done)); (try simp only [decide_eq_true_eq, decide_eq_false_iff_not, beq_iff_eq, bne_iff_ne, ne_eq, beq_eq_false_iff_ne, bne_eq_false_iff_eq, Bool.not_eq_true', Bool.not_eq_false', Bool.and_eq_true, Bool.or_eq_true, Decidable.not_not] at hb); (try simp only [go_sem]))))
    refine ⟨by first | exact .inr rfl | exact .inl rfl, .inl ⟨[], _, (by dsimp only [Tryd.f21]; exact sv), ?_, by simp⟩⟩
    rfl
  | var h1 h2 h3 =>
    rename_i n m
    intro sto lo hlo
    rw [show evalS vals (.mk 6 n m []) = valAt vals n m from by simp [evalS]]
    obtain ⟨n, rfl⟩ := Int.eq_ofNat_of_zero_le h1
    by_cases hn : n < vals.length
    · rw [valAt_lt hn]
      have hb := hv _ (List.getElem_mem hn)
      have hw := fun sto lo hlo => refWrap_ev vals[n] hb sto lo hlo
      by_cases hm : m = 1
      · subst hm
        rw [if_pos rfl]
        by_cases h0 : vals[n] = 0
        · rw [if_neg (fun h => h h0)]
          refine CallEv.intro ⟨_, _, [], Tryd.func21, rfl, by decide, ?_⟩; simp only [go_sem, Tryd.ntmps21]
          repeat' (first | (refine go ⟨?_⟩) | (((refine call ?_); (refine ⟨_, refNumber_ev _ _ _ (by first | omega | (simp; done) | (simp; omega)), ?_⟩); (try simp only [go_sem]))) | ((first | (refine bsp ?_ ?_) | (refine csp ?_ ?_)); all_goals (intro hb; (fail_if_success (cases hb; done)); (try simp only [decide_eq_true_eq, decide_eq_false_iff_not, beq_iff_eq, bne_iff_ne, ne_eq, beq_eq_false_iff_ne, bne_eq_false_iff_eq, Bool.not_eq_true', Bool.not_eq_false', Bool.and_eq_true, Bool.or_eq_true, Decidable.not_not] at hb); (try simp only [go_sem]))))
          refine ⟨by first | exact .inr rfl | exact .inl rfl, .inl ⟨[], _, (by dsimp only [Tryd.f21]; exact sv), ?_, by simp⟩⟩
          rfl
        · rw [if_pos h0]
          refine CallEv.intro ⟨_, _, [], Tryd.func21, rfl, by decide, ?_⟩; simp only [go_sem, Tryd.ntmps21]
          repeat' (first | (refine go ⟨?_⟩) | (((refine call ?_); (refine ⟨_, refNumber_ev _ _ _ (by first | omega | (simp; done) | (simp; omega)), ?_⟩); (try simp only [go_sem]))) | ((first | (refine bsp ?_ ?_) | (refine csp ?_ ?_)); all_goals (intro hb; (fail_if_success (cases hb; done)); (try simp only [decide_eq_true_eq, decide_eq_false_iff_not, beq_iff_eq, bne_iff_ne, ne_eq, beq_eq_false_iff_ne, bne_eq_false_iff_eq, Bool.not_eq_true', Bool.not_eq_false', Bool.and_eq_true, Bool.or_eq_true, Decidable.not_not] at hb); (try simp only [go_sem]))))
          refine ⟨by first | exact .inr rfl | exact .inl rfl, .inl ⟨[], _, (by dsimp only [Tryd.f21]; exact sv), ?_, by simp⟩⟩
          rfl
      · rw [if_neg hm]
        refine CallEv.intro ⟨_, _, [], Tryd.func21, rfl, by decide, ?_⟩; simp only [go_sem, Tryd.ntmps21]
        repeat' (first | (refine go ⟨?_⟩) | (((refine call ?_); (refine ⟨_, hw _ _ (by first | omega | (simp; done) | (simp; omega)), ?_⟩); (try simp only [go_sem]))) | ((first | (refine bsp ?_ ?_) | (refine csp ?_ ?_)); all_goals (intro hb; (fail_if_success (cases hb; done)); (try simp only [decide_eq_true_eq, decide_eq_false_iff_not, beq_iff_eq, bne_iff_ne, ne_eq, beq_eq_false_iff_ne, bne_eq_false_iff_eq, Bool.not_eq_true', Bool.not_eq_false', Bool.and_eq_true, Bool.or_eq_true, Decidable.not_not] at hb); (try simp only [go_sem]))))
        refine ⟨by first | exact .inr rfl | exact .inl rfl, .inl ⟨[], _, (by dsimp only [Tryd.f21]; exact sv), ?_, by simp⟩⟩
        rfl
    · rw [valAt_ge hn]
      have hw := fun sto lo hlo => refWrap_ev 0 ⟨by omega, by omega⟩ sto lo hlo
      rw [show wrapS 0 = 0 from by decide] at hw
      by_cases hm : m = 1
      · subst hm
        refine CallEv.intro ⟨_, _, [], Tryd.func21, rfl, by decide, ?_⟩; simp only [go_sem, Tryd.ntmps21]
        repeat' (first | (refine go ⟨?_⟩) | (((refine call ?_); (refine ⟨_, refNumber_ev _ _ _ (by first | omega | (simp; done) | (simp; omega)), ?_⟩); (try simp only [go_sem]))) | ((first | (refine bsp ?_ ?_) | (refine csp ?_ ?_)); all_goals (intro hb; (fail_if_success (cases hb; done)); (try simp only [decide_eq_true_eq, decide_eq_false_iff_not, beq_iff_eq, bne_iff_ne, ne_eq, beq_eq_false_iff_ne, bne_eq_false_iff_eq, Bool.not_eq_true', Bool.not_eq_false', Bool.and_eq_true, Bool.or_eq_true, Decidable.not_not] at hb); (try simp only [go_sem]))))
        refine ⟨by first | exact .inr rfl | exact .inl rfl, .inl ⟨[], _, (by dsimp only [Tryd.f21]; exact sv), ?_, by simp⟩⟩
        rfl
      · refine CallEv.intro ⟨_, _, [], Tryd.func21, rfl, by decide, ?_⟩; simp only [go_sem, Tryd.ntmps21]
        repeat' (first | (refine go ⟨?_⟩) | (((refine call ?_); (refine ⟨_, hw _ _ (by first | omega | (simp; done) | (simp; omega)), ?_⟩); (try simp only [go_sem]))) | ((first | (refine bsp ?_ ?_) | (refine csp ?_ ?_)); all_goals (intro hb; (fail_if_success (cases hb; done)); (try simp only [decide_eq_true_eq, decide_eq_false_iff_not, beq_iff_eq, bne_iff_ne, ne_eq, beq_eq_false_iff_ne, bne_eq_false_iff_eq, Bool.not_eq_true', Bool.not_eq_false', Bool.and_eq_true, Bool.or_eq_true, Decidable.not_not] at hb); (try simp only [go_sem]))))
        refine ⟨by first | exact .inr rfl | exact .inl rfl, .inl ⟨[], _, (by dsimp only [Tryd.f21]; exact sv), ?_, by simp⟩⟩
        rfl
  | not ha ih =>
    rename_i a
    intro sto lo hlo
    have hr := (eval_range ha vals).2.2 rfl
    rw [show evalS vals (.mk 10 0 0 [a]) = if evalS vals a = 1 then 0 else 1 from by simp [evalS]]
    generalize evalS vals a = v at *
    obtain ⟨k1, n1, m1, l1⟩ := a
    clear ha
    rcases hr with rfl | rfl
    all_goals
      refine CallEv.intro ⟨_, _, [], Tryd.func21, rfl, by decide, ?_⟩; simp only [go_sem, Tryd.ntmps21]
      repeat' (first | (refine go ⟨?_⟩) | (((refine call ?_); (refine ⟨_, ih _ _ (by first | omega | (simp; done) | (simp; omega)), ?_⟩); (try simp only [go_sem]))) | ((first | (refine bsp ?_ ?_) | (refine csp ?_ ?_)); all_goals (intro hb; (fail_if_success (cases hb; done)); (try simp only [decide_eq_true_eq, decide_eq_false_iff_not, beq_iff_eq, bne_iff_ne, ne_eq, beq_eq_false_iff_ne, bne_eq_false_iff_eq, Bool.not_eq_true', Bool.not_eq_false', Bool.and_eq_true, Bool.or_eq_true, Decidable.not_not] at hb); (try simp only [go_sem]))))
      refine ⟨by first | exact .inr rfl | exact .inl rfl, .inl ⟨[], _, (by dsimp only [Tryd.f21]; exact sv), ?_, by simp⟩⟩
      rfl
  | cond hc ha hb ihc iha ihb =>
    rename_i k c a b
    intro sto lo hlo
    have hr := (eval_range hc vals).2.2 rfl
    have e : evalS vals (.mk 29 0 0 [c, a, b]) = if evalS vals c = 1 then evalS vals a else evalS vals b := by simp [evalS]
    rw [e]
    generalize evalS vals a = va at *
    generalize evalS vals b = vb at *
    generalize evalS vals c = vc at *
    obtain ⟨k0, n0, m0, l0⟩ := c
    obtain ⟨k1, n1, m1, l1⟩ := a
    obtain ⟨k2, n2, m2, l2⟩ := b
    clear hc ha hb e
    rcases hr with rfl | rfl
    · rw [if_neg (by decide)]
      refine CallEv.intro ⟨_, _, [], Tryd.func21, rfl, by decide, ?_⟩; simp only [go_sem, Tryd.ntmps21]
      repeat' (first | (refine go ⟨?_⟩) | (first | ((refine call ?_); (refine ⟨_, ihc _ _ (by first | omega | (simp; done) | (simp; omega)), ?_⟩); (try simp only [go_sem])) | ((refine call ?_); (refine ⟨_, ihb _ _ (by first | omega | (simp; done) | (simp; omega)), ?_⟩); (try simp only [go_sem]))) | ((first | (refine bsp ?_ ?_) | (refine csp ?_ ?_)); all_goals (intro hb; (fail_if_success (cases hb; done)); (try simp only [decide_eq_true_eq, decide_eq_false_iff_not, beq_iff_eq, bne_iff_ne, ne_eq, beq_eq_false_iff_ne, bne_eq_false_iff_eq, Bool.not_eq_true', Bool.not_eq_false', Bool.and_eq_true, Bool.or_eq_true, Decidable.not_not] at hb); (try simp only [go_sem]))))
      refine ⟨by first | exact .inr rfl | exact .inl rfl, .inl ⟨[], _, (by dsimp only [Tryd.f21]; exact sv), ?_, by simp⟩⟩
      rfl
    · rw [if_pos rfl]
      refine CallEv.intro ⟨_, _, [], Tryd.func21, rfl, by decide, ?_⟩; simp only [go_sem, Tryd.ntmps21]
      repeat' (first | (refine go ⟨?_⟩) | (first | ((refine call ?_); (refine ⟨_, ihc _ _ (by first | omega | (simp; done) | (simp; omega)), ?_⟩); (try simp only [go_sem])) | ((refine call ?_); (refine ⟨_, iha _ _ (by first | omega | (simp; done) | (simp; omega)), ?_⟩); (try simp only [go_sem]))) | ((first | (refine bsp ?_ ?_) | (refine csp ?_ ?_)); all_goals (intro hb; (fail_if_success (cases hb; done)); (try simp only [decide_eq_true_eq, decide_eq_false_iff_not, beq_iff_eq, bne_iff_ne, ne_eq, beq_eq_false_iff_ne, bne_eq_false_iff_eq, Bool.not_eq_true', Bool.not_eq_false', Bool.and_eq_true, Bool.or_eq_true, Decidable.not_not] at hb); (try simp only [go_sem]))))
      refine ⟨by first | exact .inr rfl | exact .inl rfl, .inl ⟨[], _, (by dsimp only [Tryd.f21]; exact sv), ?_, by simp⟩⟩
      rfl
  | word h1 h2 ha hb iha ihb =>
    rename_i op a b
    intro sto lo hlo
    rw [show evalS vals (.mk 9 op 0 [a, b]) = opW op (wrapS (evalS vals a)) (wrapS (evalS vals b)) from by simp [evalS]]
    exact rEvalBin_ev vals (by omega) (by omega) (eval_big ha vals) (eval_big hb vals) iha ihb sto lo hlo
  | comp h1 h2 ha hb iha ihb =>
    rename_i op a b
    intro sto lo hlo
    rw [show evalS vals (.mk 9 op 0 [a, b]) = opW op (wrapS (evalS vals a)) (wrapS (evalS vals b)) from by simp [evalS]]
    exact rEvalBin_ev vals (by omega) (by omega) (eval_big ha vals) (eval_big hb vals) iha ihb sto lo hlo
  | both h1 h2 ha hb iha ihb =>
    rename_i op a b
    intro sto lo hlo
    rw [show evalS vals (.mk 9 op 0 [a, b]) = opW op (wrapS (evalS vals a)) (wrapS (evalS vals b)) from by simp [evalS]]
    exact rEvalBin_ev vals (by omega) (by omega) (eval_big ha vals) (eval_big hb vals) iha ihb sto lo hlo
end Go.Proofs.YtomameefmobnlaaDoor
namespace Go.Proofs.YtomameefmobnlaaDoor
open Go Go.RowKit

attribute [local irreducible] EvOps EvC
attribute [local go_sem] List.getElem?_toArray getS List.flatten_cons List.flatten_nil List.contains_nil cellsTs List.append_nil
set_option linter.unusedSimpArgs false
set_option linter.unusedVariables false
set_option maxRecDepth 100000
set_option maxHeartbeats 4000000
theorem values_ev (n : Int) (hn : Big n) (sto : Sto) (lo : Nat) (hlo : lo ≤ sto.length) : CallEv Tryd.prog tab B0 19 [.v (VI n)] sto lo (.v (LI (valuesS n))) sto := by
  have har := fun sto lo hlo => around_ev n 1024 hn (by omega) (by omega) sto lo hlo
  have hb := aroundS_bound (n := n) (most := 1024) (by omega)
  unfold valuesS
  generalize aroundS n 1024 = k at *
  obtain ⟨k, rfl⟩ := Int.eq_ofNat_of_zero_le hb.1
  have e1 : (k : Int).tdiv 16 = ((k / 16 : Nat) : Int) := by rw [Int.tdiv_eq_ediv_of_nonneg (by omega)]; omega
  have e2 : (k : Int).tdiv 256 = ((k / 256 : Nat) : Int) := by rw [Int.tdiv_eq_ediv_of_nonneg (by omega)]; omega
  have e3 : (k : Int).tdiv 512 = ((k / 512 : Nat) : Int) := by rw [Int.tdiv_eq_ediv_of_nonneg (by omega)]; omega
  have m0 : 0 ≤ (k : Int).tmod 16 ∧ (k : Int).tmod 16 < 16 := by rw [Int.tmod_eq_emod_of_nonneg (by omega)]; omega
  have m1 : 0 ≤ ((k : Int).tdiv 16).tmod 16 ∧ ((k : Int).tdiv 16).tmod 16 < 16 := by rw [Int.tmod_eq_emod_of_nonneg (by omega)]; omega
  have d1 : 0 ≤ (k : Int).tdiv 16 ∧ (k : Int).tdiv 16 < 1024 := by omega
  have d2 : 0 ≤ (k : Int).tdiv 256 ∧ (k : Int).tdiv 256 < 1024 := by omega
  have d3 : 0 ≤ (k : Int).tdiv 512 ∧ (k : Int).tdiv 512 < 1024 := by omega
  clear e1 e2 e3
  refine CallEv.intro ⟨_, _, [], Tryd.func19, rfl, by decide, ?_⟩; simp only [go_sem, Tryd.ntmps19]
  repeat' (first | (refine go ⟨?_⟩) | (((refine call ?_); (refine ⟨_, har _ _ (by first | omega | (simp; done) | (simp; omega)), ?_⟩); (try simp only [go_sem]))) | ((first | (refine bsp ?_ ?_) | (refine csp ?_ ?_)); all_goals (intro hb; (fail_if_success (cases hb; done)); (try simp only [decide_eq_true_eq, decide_eq_false_iff_not, beq_iff_eq, bne_iff_ne, ne_eq, beq_eq_false_iff_ne, bne_eq_false_iff_eq, Bool.not_eq_true', Bool.not_eq_false', Bool.and_eq_true, Bool.or_eq_true, Decidable.not_not] at hb); (try simp only [go_sem]))))
  refine ⟨by first | exact .inr rfl | exact .inl rfl, .inl ⟨[], _, (by dsimp only [Tryd.f19]; exact sv), ?_, by simp⟩⟩
  rfl
theorem type_ev (N : Nat) : ∀ (t : Tr) (sto : Sto) (lo : Nat), tsz t ≤ N → tsz t < 1000000 → lo ≤ sto.length → CallEv Tryd.prog tab B0 23 [.v (TV t)] sto lo (.v (VI (typeR t))) sto := by
  induction N with
  | zero => intro t sto lo h; have := tsz_pos t; omega
  | succ N ih =>
    intro t sto lo hN hs hlo
    obtain ⟨k, n, m, l⟩ := t
    simp only [tsz] at hN hs
    have hll := tszs_length l
    by_cases c29 : k = 29 ∧ l.length = 3
    · obtain ⟨rfl, h3⟩ := c29
      match l, h3 with
      | [c, a, b], _ =>
        simp only [tszs] at hN hs
        have := tsz_pos c
        have iha := fun sto lo hlo => ih a sto lo (by omega) (by omega) hlo
        rw [show typeR (.mk 29 n m [c, a, b]) = typeR a from by simp [typeR]]
        generalize typeR a = r at *
        obtain ⟨k0, n0, m0, l0⟩ := c
        obtain ⟨k1, n1, m1, l1⟩ := a
        obtain ⟨k2, n2, m2, l2⟩ := b
        clear ih hN hs hll this
        refine CallEv.intro ⟨_, _, [], Tryd.func23, rfl, by decide, ?_⟩; simp only [go_sem, Tryd.ntmps23]
        repeat' (first | (refine go ⟨?_⟩) | (((refine call ?_); (refine ⟨_, iha _ _ (by first | omega | (simp; done) | (simp; omega)), ?_⟩); (try simp only [go_sem]))) | ((first | (refine bsp ?_ ?_) | (refine csp ?_ ?_)); all_goals (intro hb; (fail_if_success (cases hb; done)); (try simp only [decide_eq_true_eq, decide_eq_false_iff_not, beq_iff_eq, bne_iff_ne, ne_eq, beq_eq_false_iff_ne, bne_eq_false_iff_eq, Bool.not_eq_true', Bool.not_eq_false', Bool.and_eq_true, Bool.or_eq_true, Decidable.not_not] at hb); (try simp only [go_sem]))))
        refine ⟨by first | exact .inr rfl | exact .inl rfl, .inl ⟨[], _, (by dsimp only [Tryd.f23]; exact sv), ?_, by simp⟩⟩
        rfl
    · have e : typeR (.mk k n m l) = if k = 4 then 0 else if k = 5 then 1 else if k = 6 then m else if k = 9 then (if n ≥ 10 then 1 else 0) else if k = 10 then 1 else -1 := by
        by_cases h : k = 29
        · have h3 : l.length ≠ 3 := fun h3 => c29 ⟨h, h3⟩
          match l, h3 with
          | [], _ => simp [typeR, h]
          | [_], _ => simp [typeR, h]
          | [_, _], _ => simp [typeR, h]
          | [_, _, _], h3 => exact absurd rfl h3
          | _ :: _ :: _ :: _ :: _, _ => simp [typeR, h]
        · unfold typeR
          simp [h]
      rw [e]
      clear e ih
      have h29 : k = 29 → l.length ≠ 3 := fun h h3 => c29 ⟨h, h3⟩
      clear c29
      by_cases c1 : k = 4
      · subst c1
        refine CallEv.intro ⟨_, _, [], Tryd.func23, rfl, by decide, ?_⟩; simp only [go_sem, Tryd.ntmps23]
        repeat' (first | (refine go ⟨?_⟩) | (fail) | ((first | (refine bsp ?_ ?_) | (refine csp ?_ ?_)); all_goals (intro hb; (fail_if_success (cases hb; done)); (try simp only [decide_eq_true_eq, decide_eq_false_iff_not, beq_iff_eq, bne_iff_ne, ne_eq, beq_eq_false_iff_ne, bne_eq_false_iff_eq, Bool.not_eq_true', Bool.not_eq_false', Bool.and_eq_true, Bool.or_eq_true, Decidable.not_not] at hb); (try simp only [go_sem]))))
        refine ⟨by first | exact .inr rfl | exact .inl rfl, .inl ⟨[], _, (by dsimp only [Tryd.f23]; exact sv), ?_, by simp⟩⟩
        rfl
      by_cases c2 : k = 5
      · subst c2
        refine CallEv.intro ⟨_, _, [], Tryd.func23, rfl, by decide, ?_⟩; simp only [go_sem, Tryd.ntmps23]
        repeat' (first | (refine go ⟨?_⟩) | (fail) | ((first | (refine bsp ?_ ?_) | (refine csp ?_ ?_)); all_goals (intro hb; (fail_if_success (cases hb; done)); (try simp only [decide_eq_true_eq, decide_eq_false_iff_not, beq_iff_eq, bne_iff_ne, ne_eq, beq_eq_false_iff_ne, bne_eq_false_iff_eq, Bool.not_eq_true', Bool.not_eq_false', Bool.and_eq_true, Bool.or_eq_true, Decidable.not_not] at hb); (try simp only [go_sem]))))
        refine ⟨by first | exact .inr rfl | exact .inl rfl, .inl ⟨[], _, (by dsimp only [Tryd.f23]; exact sv), ?_, by simp⟩⟩
        rfl
      by_cases c3 : k = 6
      · subst c3
        refine CallEv.intro ⟨_, _, [], Tryd.func23, rfl, by decide, ?_⟩; simp only [go_sem, Tryd.ntmps23]
        repeat' (first | (refine go ⟨?_⟩) | (fail) | ((first | (refine bsp ?_ ?_) | (refine csp ?_ ?_)); all_goals (intro hb; (fail_if_success (cases hb; done)); (try simp only [decide_eq_true_eq, decide_eq_false_iff_not, beq_iff_eq, bne_iff_ne, ne_eq, beq_eq_false_iff_ne, bne_eq_false_iff_eq, Bool.not_eq_true', Bool.not_eq_false', Bool.and_eq_true, Bool.or_eq_true, Decidable.not_not] at hb); (try simp only [go_sem]))))
        refine ⟨by first | exact .inr rfl | exact .inl rfl, .inl ⟨[], _, (by dsimp only [Tryd.f23]; exact sv), ?_, by simp⟩⟩
        rfl
      by_cases c4 : k = 9
      · subst c4
        by_cases h10 : n ≥ 10
        · rw [if_neg (by decide), if_neg (by decide), if_neg (by decide), if_pos rfl, if_pos h10]
          refine CallEv.intro ⟨_, _, [], Tryd.func23, rfl, by decide, ?_⟩; simp only [go_sem, Tryd.ntmps23]
          repeat' (first | (refine go ⟨?_⟩) | (fail) | ((first | (refine bsp ?_ ?_) | (refine csp ?_ ?_)); all_goals (intro hb; (fail_if_success (cases hb; done)); (try simp only [decide_eq_true_eq, decide_eq_false_iff_not, beq_iff_eq, bne_iff_ne, ne_eq, beq_eq_false_iff_ne, bne_eq_false_iff_eq, Bool.not_eq_true', Bool.not_eq_false', Bool.and_eq_true, Bool.or_eq_true, Decidable.not_not] at hb); (try simp only [go_sem]))))
          refine ⟨by first | exact .inr rfl | exact .inl rfl, .inl ⟨[], _, (by dsimp only [Tryd.f23]; exact sv), ?_, by simp⟩⟩
          rfl
        · rw [if_neg (by decide), if_neg (by decide), if_neg (by decide), if_pos rfl, if_neg h10]
          refine CallEv.intro ⟨_, _, [], Tryd.func23, rfl, by decide, ?_⟩; simp only [go_sem, Tryd.ntmps23]
          repeat' (first | (refine go ⟨?_⟩) | (fail) | ((first | (refine bsp ?_ ?_) | (refine csp ?_ ?_)); all_goals (intro hb; (fail_if_success (cases hb; done)); (try simp only [decide_eq_true_eq, decide_eq_false_iff_not, beq_iff_eq, bne_iff_ne, ne_eq, beq_eq_false_iff_ne, bne_eq_false_iff_eq, Bool.not_eq_true', Bool.not_eq_false', Bool.and_eq_true, Bool.or_eq_true, Decidable.not_not] at hb); (try simp only [go_sem]))))
          refine ⟨by first | exact .inr rfl | exact .inl rfl, .inl ⟨[], _, (by dsimp only [Tryd.f23]; exact sv), ?_, by simp⟩⟩
          rfl
      by_cases c5 : k = 10
      · subst c5
        refine CallEv.intro ⟨_, _, [], Tryd.func23, rfl, by decide, ?_⟩; simp only [go_sem, Tryd.ntmps23]
        repeat' (first | (refine go ⟨?_⟩) | (fail) | ((first | (refine bsp ?_ ?_) | (refine csp ?_ ?_)); all_goals (intro hb; (fail_if_success (cases hb; done)); (try simp only [decide_eq_true_eq, decide_eq_false_iff_not, beq_iff_eq, bne_iff_ne, ne_eq, beq_eq_false_iff_ne, bne_eq_false_iff_eq, Bool.not_eq_true', Bool.not_eq_false', Bool.and_eq_true, Bool.or_eq_true, Decidable.not_not] at hb); (try simp only [go_sem]))))
        refine ⟨by first | exact .inr rfl | exact .inl rfl, .inl ⟨[], _, (by dsimp only [Tryd.f23]; exact sv), ?_, by simp⟩⟩
        rfl
      rw [if_neg c1, if_neg c2, if_neg c3, if_neg c4, if_neg c5]
      by_cases c6 : k = 29
      · have h3 := h29 c6
        subst c6
        clear h29
        refine CallEv.intro ⟨_, _, [], Tryd.func23, rfl, by decide, ?_⟩; simp only [go_sem, Tryd.ntmps23]
        repeat' (first | (refine go ⟨?_⟩) | (fail) | ((first | (refine bsp ?_ ?_) | (refine csp ?_ ?_)); all_goals (intro hb; (fail_if_success (cases hb; done)); (try simp only [decide_eq_true_eq, decide_eq_false_iff_not, beq_iff_eq, bne_iff_ne, ne_eq, beq_eq_false_iff_ne, bne_eq_false_iff_eq, Bool.not_eq_true', Bool.not_eq_false', Bool.and_eq_true, Bool.or_eq_true, Decidable.not_not] at hb); (try simp only [go_sem]))))
        refine ⟨by first | exact .inr rfl | exact .inl rfl, .inl ⟨[], _, (by dsimp only [Tryd.f23]; exact sv), ?_, by simp⟩⟩
        rfl
      · clear h29
        refine CallEv.intro ⟨_, _, [], Tryd.func23, rfl, by decide, ?_⟩; simp only [go_sem, Tryd.ntmps23]
        repeat' (first | (refine go ⟨?_⟩) | (fail) | ((first | (refine bsp ?_ ?_) | (refine csp ?_ ?_)); all_goals (intro hb; (fail_if_success (cases hb; done)); (try simp only [decide_eq_true_eq, decide_eq_false_iff_not, beq_iff_eq, bne_iff_ne, ne_eq, beq_eq_false_iff_ne, bne_eq_false_iff_eq, Bool.not_eq_true', Bool.not_eq_false', Bool.and_eq_true, Bool.or_eq_true, Decidable.not_not] at hb); (try simp only [go_sem]))))
        refine ⟨by first | exact .inr rfl | exact .inl rfl, .inl ⟨[], _, (by dsimp only [Tryd.f23]; exact sv), ?_, by simp⟩⟩
        rfl
end Go.Proofs.YtomameefmobnlaaDoor
namespace Go.Proofs.YtomameefmobnlaaDoor
open Go Go.RowKit

attribute [local irreducible] EvOps EvC
theorem mkgo {p q : Prop} (k : Later q) (h : Later q → p := by (intro k; (first | with_reducible (first | refine c_seq ?_ | refine c_block ?_ | refine c_region ?_ | refine c_skip ?_ | refine c_exit ?_ | refine c_ret ?_ | refine then_normal ?_ | refine then_exit ?_ | refine then_ret ?_ | refine block_normal ?_ | refine block_here ?_ | refine block_ret ?_ | refine block_far (by decide) ?_ | refine ops_nil ?_ | refine c_cond_t rfl ?_ | refine c_cond_f rfl ?_) | ((with_reducible apply ops_pure); rfl; (simp (disch := (first | omega | assumption | ((repeat' with_reducible apply And.intro) <;> first | omega | assumption | rfl | (apply Or.inl; rfl) | (apply Or.inr; first | rfl | trivial | fail) | fail) | fail)) only [go_sem, if_pos, if_neg, wrapI, wrapU, decide_eq_true, decide_eq_false, beqT, beqF, bneT, bneF, hp0] <;> rfl); simp only [go_sem]) | ((with_reducible apply ops_pureF); rfl; (intro _; simp (disch := (first | omega | assumption | ((repeat' with_reducible apply And.intro) <;> first | omega | assumption | rfl | (apply Or.inl; rfl) | (apply Or.inr; first | rfl | trivial | fail) | fail) | fail)) only [go_sem, if_pos, if_neg, wrapI, wrapU, decide_eq_true, decide_eq_false, beqT, beqF, bneT, bneF, hp0] <;> rfl); simp only [go_sem]) | ((with_reducible apply ops_pureD); kernel_rfl; rfl; (simp (disch := (first | omega | assumption | ((repeat' with_reducible apply And.intro) <;> first | omega | assumption | rfl | (apply Or.inl; rfl) | (apply Or.inr; first | rfl | trivial | fail) | fail) | fail)) only [go_sem, if_pos, if_neg, wrapI, wrapU, decide_eq_true, decide_eq_false, beqT, beqF, bneT, bneF, hp0] <;> rfl); simp only [go_sem]) | ((with_reducible apply ops_skip); rfl; simp only [go_sem]) | ((with_reducible apply c_regionD); kernel_rfl) | ((with_reducible apply ops_eff); decide; rfl; (simp (disch := (first | omega | assumption | ((repeat' with_reducible apply And.intro) <;> first | omega | assumption | rfl | (apply Or.inl; rfl) | (apply Or.inr; first | rfl | trivial | fail) | fail) | fail)) only [go_sem, if_pos, if_neg, wrapI, wrapU, decide_eq_true, decide_eq_false, beqT, beqF, bneT, bneF, hp0] <;> rfl); simp only [go_sem])); (repeat (first | with_reducible (first | refine c_seq ?_ | refine c_block ?_ | refine c_region ?_ | refine c_skip ?_ | refine c_exit ?_ | refine c_ret ?_ | refine then_normal ?_ | refine then_exit ?_ | refine then_ret ?_ | refine block_normal ?_ | refine block_here ?_ | refine block_ret ?_ | refine block_far (by decide) ?_ | refine ops_nil ?_ | refine c_cond_t rfl ?_ | refine c_cond_f rfl ?_) | ((with_reducible apply ops_pure); rfl; (simp (disch := (first | omega | assumption | ((repeat' with_reducible apply And.intro) <;> first | omega | assumption | rfl | (apply Or.inl; rfl) | (apply Or.inr; first | rfl | trivial | fail) | fail) | fail)) only [go_sem, if_pos, if_neg, wrapI, wrapU, decide_eq_true, decide_eq_false, beqT, beqF, bneT, bneF, hp0] <;> rfl); simp only [go_sem]) | ((with_reducible apply ops_pureF); rfl; (intro _; simp (disch := (first | omega | assumption | ((repeat' with_reducible apply And.intro) <;> first | omega | assumption | rfl | (apply Or.inl; rfl) | (apply Or.inr; first | rfl | trivial | fail) | fail) | fail)) only [go_sem, if_pos, if_neg, wrapI, wrapU, decide_eq_true, decide_eq_false, beqT, beqF, bneT, bneF, hp0] <;> rfl); simp only [go_sem]) | ((with_reducible apply ops_pureD); kernel_rfl; rfl; (simp (disch := (first | omega | assumption | ((repeat' with_reducible apply And.intro) <;> first | omega | assumption | rfl | (apply Or.inl; rfl) | (apply Or.inr; first | rfl | trivial | fail) | fail) | fail)) only [go_sem, if_pos, if_neg, wrapI, wrapU, decide_eq_true, decide_eq_false, beqT, beqF, bneT, bneF, hp0] <;> rfl); simp only [go_sem]) | ((with_reducible apply ops_skip); rfl; simp only [go_sem]) | ((with_reducible apply c_regionD); kernel_rfl) | ((with_reducible apply ops_eff); decide; rfl; (simp (disch := (first | omega | assumption | ((repeat' with_reducible apply And.intro) <;> first | omega | assumption | rfl | (apply Or.inl; rfl) | (apply Or.inr; first | rfl | trivial | fail) | fail) | fail)) only [go_sem, if_pos, if_neg, wrapI, wrapU, decide_eq_true, decide_eq_false, beqT, beqF, bneT, bneF, hp0] <;> rfl); simp only [go_sem]))); exact k.get)) : p := h k
theorem mkgoX {p q : Prop} (k : Later q) (h : Later q → p := by (intro k; (first | with_reducible (first | refine c_seq ?_ | refine c_block ?_ | refine c_skip ?_ | refine c_exit ?_ | refine c_ret ?_ | refine then_normal ?_ | refine then_exit ?_ | refine then_ret ?_ | refine block_normal ?_ | refine block_here ?_ | refine block_ret ?_ | refine block_far (by decide) ?_ | refine ops_nil ?_ | refine c_cond_t rfl ?_ | refine c_cond_f rfl ?_) | ((with_reducible apply ops_pure); rfl; (simp (disch := (first | omega | assumption | ((repeat' with_reducible apply And.intro) <;> first | omega | assumption | rfl | (apply Or.inl; rfl) | (apply Or.inr; first | rfl | trivial | fail) | fail) | fail)) only [go_sem, if_pos, if_neg, wrapI, wrapU, decide_eq_true, decide_eq_false, beqT, beqF, bneT, bneF, hp0] <;> rfl); simp only [go_sem]) | ((with_reducible apply ops_pureF); rfl; (intro _; simp (disch := (first | omega | assumption | ((repeat' with_reducible apply And.intro) <;> first | omega | assumption | rfl | (apply Or.inl; rfl) | (apply Or.inr; first | rfl | trivial | fail) | fail) | fail)) only [go_sem, if_pos, if_neg, wrapI, wrapU, decide_eq_true, decide_eq_false, beqT, beqF, bneT, bneF, hp0] <;> rfl); simp only [go_sem]) | ((with_reducible apply ops_pureD); kernel_rfl; rfl; (simp (disch := (first | omega | assumption | ((repeat' with_reducible apply And.intro) <;> first | omega | assumption | rfl | (apply Or.inl; rfl) | (apply Or.inr; first | rfl | trivial | fail) | fail) | fail)) only [go_sem, if_pos, if_neg, wrapI, wrapU, decide_eq_true, decide_eq_false, beqT, beqF, bneT, bneF, hp0] <;> rfl); simp only [go_sem]) | ((with_reducible apply ops_skip); rfl; simp only [go_sem]) | ((with_reducible apply c_regionD); kernel_rfl) | ((with_reducible apply ops_eff); decide; rfl; (simp (disch := (first | omega | assumption | ((repeat' with_reducible apply And.intro) <;> first | omega | assumption | rfl | (apply Or.inl; rfl) | (apply Or.inr; first | rfl | trivial | fail) | fail) | fail)) only [go_sem, if_pos, if_neg, wrapI, wrapU, decide_eq_true, decide_eq_false, beqT, beqF, bneT, bneF, hp0] <;> rfl); simp only [go_sem])); (repeat (first | with_reducible (first | refine c_seq ?_ | refine c_block ?_ | refine c_skip ?_ | refine c_exit ?_ | refine c_ret ?_ | refine then_normal ?_ | refine then_exit ?_ | refine then_ret ?_ | refine block_normal ?_ | refine block_here ?_ | refine block_ret ?_ | refine block_far (by decide) ?_ | refine ops_nil ?_ | refine c_cond_t rfl ?_ | refine c_cond_f rfl ?_) | ((with_reducible apply ops_pure); rfl; (simp (disch := (first | omega | assumption | ((repeat' with_reducible apply And.intro) <;> first | omega | assumption | rfl | (apply Or.inl; rfl) | (apply Or.inr; first | rfl | trivial | fail) | fail) | fail)) only [go_sem, if_pos, if_neg, wrapI, wrapU, decide_eq_true, decide_eq_false, beqT, beqF, bneT, bneF, hp0] <;> rfl); simp only [go_sem]) | ((with_reducible apply ops_pureF); rfl; (intro _; simp (disch := (first | omega | assumption | ((repeat' with_reducible apply And.intro) <;> first | omega | assumption | rfl | (apply Or.inl; rfl) | (apply Or.inr; first | rfl | trivial | fail) | fail) | fail)) only [go_sem, if_pos, if_neg, wrapI, wrapU, decide_eq_true, decide_eq_false, beqT, beqF, bneT, bneF, hp0] <;> rfl); simp only [go_sem]) | ((with_reducible apply ops_pureD); kernel_rfl; rfl; (simp (disch := (first | omega | assumption | ((repeat' with_reducible apply And.intro) <;> first | omega | assumption | rfl | (apply Or.inl; rfl) | (apply Or.inr; first | rfl | trivial | fail) | fail) | fail)) only [go_sem, if_pos, if_neg, wrapI, wrapU, decide_eq_true, decide_eq_false, beqT, beqF, bneT, bneF, hp0] <;> rfl); simp only [go_sem]) | ((with_reducible apply ops_skip); rfl; simp only [go_sem]) | ((with_reducible apply c_regionD); kernel_rfl) | ((with_reducible apply ops_eff); decide; rfl; (simp (disch := (first | omega | assumption | ((repeat' with_reducible apply And.intro) <;> first | omega | assumption | rfl | (apply Or.inl; rfl) | (apply Or.inr; first | rfl | trivial | fail) | fail) | fail)) only [go_sem, if_pos, if_neg, wrapI, wrapU, decide_eq_true, decide_eq_false, beqT, beqF, bneT, bneF, hp0] <;> rfl); simp only [go_sem]))); exact k.get)) : p := h k
theorem mksv {p : Prop} (h : p := by simp (disch := (first | omega | assumption | ((repeat' with_reducible apply And.intro) <;> first | omega | assumption | rfl | (apply Or.inl; rfl) | (apply Or.inr; first | rfl | trivial | fail) | fail) | fail)) only [go_sem, if_pos, if_neg, wrapI, wrapU, decide_eq_true, decide_eq_false, beqT, beqF, bneT, bneF, hp0] <;> rfl) : p := h
theorem mkcall {T : Tab} {X : CallP} {n0 lo : Nat} {wt : List Tmp} {draw : Bool} {ops : Array Oper} {Q : St → Prop} {rest : List Oper} {o : Oper} {env : List D} {sto : Sto} {f : FuncId} {args : List D} (k : ∃ r, X f args sto (if draw then sto.length else lo) r sto ∧ EvOps T X n0 lo wt draw ops Q rest (St.put ⟨env, sto⟩ o.dst r)) (hg : guardD ops o env = some true := by rfl) (h : evCallee (opd env) sto o = some (f, args) := by simp (disch := (first | omega | assumption | ((repeat' with_reducible apply And.intro) <;> first | omega | assumption | rfl | (apply Or.inl; rfl) | (apply Or.inr; first | rfl | trivial | fail) | fail) | fail)) only [go_sem, if_pos, if_neg, wrapI, wrapU, decide_eq_true, decide_eq_false, beqT, beqF, bneT, bneF, hp0] <;> rfl) : EvOps T X n0 lo wt draw ops Q (o :: rest) ⟨env, sto⟩ := k.elim fun _ k => ops_call hg h k.1 k.2
attribute [local go_sem] List.getElem?_toArray getS List.flatten_cons List.flatten_nil List.contains_nil cellsTs List.append_nil List.length_set Bool.and_self implies_true eq_self
set_option linter.unusedSimpArgs false
set_option linter.unusedVariables false
set_option maxRecDepth 100000
set_option maxHeartbeats 4000000
/-- The maker's box. -/
abbrev mkE (l : List Int) (a f : Int) : Ent := .cells [.v (LI l), .v (VI a), .v (VI f)]
theorem draw_ev (l : List Int) (a f n : Int) (id : Nat) (hl : l.length < 9223372036854775808) (hx : ∀ x ∈ l, Big x) (hn : 0 < n) (hn2 : n < 9223372036854775808) (ha : 0 ≤ a) (ha2 : a < 1000000000) (sto : Sto) (lo : Nat) (hp0 : sto[id]? = some (mkE l a f)) (hlid : lo ≤ id) (hlo : lo ≤ sto.length) :
    CallEv Tryd.prog tab B0 63 [.ptr id 0, .v (VI n)] sto lo (.v (VI (atS l a n))) (sto.set id (mkE l (a + 1) f)) := by
  have hid : id < sto.length := (List.getElem?_eq_some_iff.1 hp0).1
  have hat := fun sto lo hlo => at_ev l (a + 1 - 1) n hl hx hn hn2 sto lo hlo
  rw [show atS l (a + 1 - 1) n = atS l a n from by rw [show a + 1 - 1 = a from by omega]] at hat
  refine CallEv.intro ⟨_, _, [], Tryd.func63, rfl, by decide, ?_⟩; simp only [go_sem, Tryd.ntmps63]
  repeat' (first | (refine mkgo ⟨?_⟩) | (((refine mkcall ?_); (refine ⟨_, hat _ _ (by first | omega | (simp; done) | (simp; omega)), ?_⟩); (try simp only [go_sem]))) | ((first | (refine bsp ?_ ?_) | (refine csp ?_ ?_)); all_goals (intro hb; (fail_if_success (cases hb; done)); (try simp only [decide_eq_true_eq, decide_eq_false_iff_not, beq_iff_eq, bne_iff_ne, ne_eq, beq_eq_false_iff_ne, bne_eq_false_iff_eq, Bool.not_eq_true', Bool.not_eq_false', Bool.and_eq_true, Bool.or_eq_true, Decidable.not_not] at hb); (try simp only [go_sem]))))

  refine ⟨by first | exact .inr rfl | exact .inl rfl, .inl ⟨[], _, (by dsimp only [Tryd.f63]; exact mksv), ?_, ?_⟩⟩
  · rfl
  · rw [List.take_of_length_le (by simp)]
end Go.Proofs.YtomameefmobnlaaDoor
