/-
  Terms: what Valid answers, in the package's words and in the reference's. Plain Lean. No condition of its own. Terms: Valid answers as the reference. Plain Lean. No condition of its own. Terms: the variables of what the reference makes; terms in the place of variables. Plain Lean. No condition of its own. Terms: a slice of nodes in which one is set. Plain Lean. No condition of its own. Terms: the types of a list of kids, step by step. Plain Lean. No condition of its own. Terms: the variables that Vars finds. Plain Lean. No condition of its own. Trees: how the reference orders them. Plain Lean. No condition of its own. Terms: the variables in increasing order; the examples of the section. Plain Lean. No condition of its own. Terms: values that differ where it does not matter. Plain Lean. No condition of its own. Terms: what TermPut says. Plain Lean. No condition of its own. Terms: what Simplify makes of an operation. Plain Lean. No condition of its own. Terms: what Simplify makes of a term, step by step. Plain Lean. No condition of its own. Words: the package's operations and the reference's are the same. Plain Lean. No condition of its own. Package word: Wrap, the fourteen operations, Op. No condition of its own. Package word: Op. No condition of its own. Terms: the reference's makers of nodes, and its words. No condition of its own. The reference's words: quotient, bitwise, halved, doubled. No condition of its own. The reference's Op. No condition of its own. Terms: their values, in the package and in the reference. No condition of its own. Terms: their values in the reference. No condition of its own. Terms: the reference's values, and types. No condition of its own.
-/
import Derived.Test.YtomameefmobnlaaDoorS2
namespace Go.Proofs.YtomameefmobnlaaDoor
open Go
/-! The types of variables, as a list of pairs. -/
def aget : List (Int × Int) → Int → Option Int
  | [], _ => none
  | (k, v) :: r, n => if n = k then some v else aget r n
def aput : List (Int × Int) → Int → Int → List (Int × Int)
  | [], n, v => [(n, v)]
  | (k, u) :: r, n, v => if n = k then (n, v) :: r else (k, u) :: aput r n v
def mapV (mp : List (Int × Int)) : List (Int × V) := mp.map fun p => (p.1, VI p.2)
theorem mget_map : ∀ (mp : List (Int × Int)) (n : Int), mget (mapV mp) n = (aget mp n).map VI
  | [], n => rfl
  | (k, v) :: r, n => by
    show (if n = k then some (VI v) else mget (mapV r) n) = _
    rw [aget]
    split
    · rfl
    · exact mget_map r n
theorem mput_map : ∀ (mp : List (Int × Int)) (n m : Int), mput (mapV mp) n (VI m) = mapV (aput mp n m)
  | [], n, m => rfl
  | (k, v) :: r, n, m => by
    show (if n = k then (n, VI m) :: mapV r else (k, VI v) :: mput (mapV r) n (VI m)) = _
    rw [aput]
    split
    · rfl
    · rw [mput_map r n m]; rfl
def condK : List Int → Int
  | [c, a, b] => if c = 1 ∧ a = b then a else -1
  | _ => -1
/-- What a node's type is, if its kids have types ks. -/
def tyN (k n m : Int) (ks : List Int) : Int :=
  if k = 4 ∧ ks = [] ∧ -8 ≤ n ∧ n ≤ 7 then 0
  else if k = 5 ∧ ks = [] ∧ (n = 0 ∨ n = 1) then 1
  else if k = 6 ∧ ks = [] ∧ 0 ≤ n ∧ n ≤ 63 ∧ (m = 0 ∨ m = 1) then m
  else if k = 9 ∧ 0 ≤ n ∧ n < 12 ∧ ks = [0, 0] then (if n ≥ 10 then 1 else 0)
  else if k = 9 ∧ (n = 12 ∨ n = 13) ∧ ks = [1, 1] then 1
  else if k = 10 ∧ n = 0 ∧ ks = [1] then 1
  else if k = 29 ∧ n = 0 then condK ks
  else -1
mutual
/-- The package's types: the type, or -1, and the variables' types behind it. -/
def typesC : Tr → List (Int × Int) → Int × List (Int × Int)
  | .mk k n m kids, mp =>
    if m ≠ 0 ∧ k ≠ 6 then (-1, mp)
    else match (typesL kids mp).1 with
      | none => (-1, (typesL kids mp).2)
      | some ks =>
        if k = 6 ∧ tyN k n m ks ≥ 0 then
          (match aget (typesL kids mp).2 n with
            | some m' => if m' ≠ m then (-1, (typesL kids mp).2) else (m, aput (typesL kids mp).2 n m)
            | none => (m, aput (typesL kids mp).2 n m))
        else (tyN k n m ks, (typesL kids mp).2)
def typesL : List Tr → List (Int × Int) → Option (List Int) × List (Int × Int)
  | [], mp => (some [], mp)
  | t :: l, mp =>
    if (typesC t mp).1 < 0 then (none, (typesC t mp).2)
    else ((typesL l (typesC t mp).2).1.map ((typesC t mp).1 :: ·), (typesL l (typesC t mp).2).2)
end
mutual
/-- The variables, in preorder, with their types. -/
def varP : Tr → List (Int × Int)
  | .mk k n m kids => (if k = 6 then [(n, m)] else []) ++ varPs kids
def varPs : List Tr → List (Int × Int)
  | [] => []
  | t :: l => varP t ++ varPs l
end
def addAll : List (Int × Int) → List (Int × Int) → Option (List (Int × Int))
  | [], mp => some mp
  | (n, m) :: vs, mp => if (aget mp n).any (· ≠ m) then none else addAll vs (aput mp n m)
theorem addAll_append : ∀ (a b mp : List (Int × Int)), addAll (a ++ b) mp = (addAll a mp).bind (addAll b)
  | [], b, mp => rfl
  | (n, m) :: a, b, mp => by
    rw [List.cons_append, addAll, addAll]
    split
    · rfl
    · exact addAll_append a b _
/-- Of a term: its type, if its variables agree. -/
theorem types_wt {k : Int} {t : Tr} (h : Wt k t) : ∀ mp, (∀ mp', addAll (varP t) mp = some mp' → typesC t mp = (k, mp')) ∧ (addAll (varP t) mp = none → (typesC t mp).1 = -1) := by
  have one : ∀ {k : Int} {a : Tr}, Wt k a → (∀ mp, (∀ mp', addAll (varP a) mp = some mp' → typesC a mp = (k, mp')) ∧ (addAll (varP a) mp = none → (typesC a mp).1 = -1)) →
      ∀ l mp (Z : List Int), ((∀ mp2, (∀ mp', addAll (varPs l) mp2 = some mp' → typesL l mp2 = (some Z, mp')) ∧ (addAll (varPs l) mp2 = none → (typesL l mp2).1 = none))) →
      (∀ mp', addAll (varPs (a :: l)) mp = some mp' → typesL (a :: l) mp = (some (k :: Z), mp')) ∧ (addAll (varPs (a :: l)) mp = none → (typesL (a :: l) mp).1 = none) := by
    intro k a hw ih l mp Z hl
    have hk := hw.kind
    rw [varPs, addAll_append, typesL]
    cases h1 : addAll (varP a) mp with
    | none =>
      rw [(ih mp).2 h1]
      exact ⟨fun mp' h => (by cases h), fun _ => by simp⟩
    | some mp1 =>
      rw [(ih mp).1 mp1 h1]
      simp only [Option.bind_some]
      rw [if_neg (by omega)]
      refine ⟨fun mp' h => ?_, fun h => ?_⟩
      · rw [(hl mp1).1 mp' h]; rfl
      · rw [(hl mp1).2 h]; rfl
  have nil : ∀ mp, (∀ mp', addAll (varPs []) mp = some mp' → typesL [] mp = (some [], mp')) ∧ (addAll (varPs []) mp = none → (typesL [] mp).1 = none) := fun mp => by
    simp [varPs, addAll, typesL]
  -- a node that is no variable
  have node : ∀ {k n : Int} {kids : List Tr} {Z : List Int}, k ≠ 6 → (∀ mp, (∀ mp', addAll (varPs kids) mp = some mp' → typesL kids mp = (some Z, mp')) ∧ (addAll (varPs kids) mp = none → (typesL kids mp).1 = none)) →
      ∀ mp, (∀ mp', addAll (varP (.mk k n 0 kids)) mp = some mp' → typesC (.mk k n 0 kids) mp = (tyN k n 0 Z, mp')) ∧ (addAll (varP (.mk k n 0 kids)) mp = none → (typesC (.mk k n 0 kids) mp).1 = -1) := by
    intro k n kids Z h6 hl mp
    rw [varP, if_neg h6, List.nil_append, typesC, if_neg (by simp)]
    refine ⟨fun mp' h => ?_, fun h => ?_⟩
    · rw [(hl mp).1 mp' h]
      simp only [h6, false_and, if_false]
    · rw [(hl mp).2 h]
  induction h with
  | num h1 h2 =>
    rename_i n
    have := node (k := 4) (n := n) (by decide) nil
    rwa [show tyN 4 n 0 [] = 0 from by rw [tyN, if_pos ⟨rfl, rfl, h1, h2⟩]] at this
  | truth h1 h2 =>
    rename_i n
    have := node (k := 5) (n := n) (by decide) nil
    rwa [show tyN 5 n 0 [] = 1 from by rw [tyN, if_neg (fun h => absurd h.1 (by decide)), if_pos ⟨rfl, rfl, by omega⟩]] at this
  | var h1 h2 h3 =>
    rename_i n m
    intro mp
    have ht : tyN 6 n m [] = m := by rw [tyN, if_neg (fun h => absurd h.1 (by decide)), if_neg (fun h => absurd h.1 (by decide)), if_pos ⟨rfl, rfl, h1, h2, h3⟩]
    have e1 : addAll (varP (.mk 6 n m [])) mp = if (aget mp n).any (· ≠ m) then none else some (aput mp n m) := by
      rw [varP, if_pos rfl, varPs, List.append_nil, addAll, addAll]
    have e2 : typesC (.mk 6 n m []) mp = (match aget mp n with
        | some m' => if m' ≠ m then (-1, mp) else (m, aput mp n m)
        | none => (m, aput mp n m)) := by
      rw [typesC, if_neg (fun h => h.2 rfl)]
      simp only [typesL, ht]
      rw [if_pos ⟨trivial, by omega⟩]
    rw [e1, e2]
    cases hg : aget mp n with
    | none => exact ⟨fun mp' h => by simpa using h, fun h => by simp at h⟩
    | some m' =>
      by_cases e : m' = m
      · subst e; exact ⟨fun mp' h => by simpa using h, fun h => by simp at h⟩
      · exact ⟨fun mp' h => by simp [e] at h, fun _ => by simp [e]⟩
  | word h1 h2 ha hb iha ihb =>
    rename_i op a b
    have := node (k := 9) (n := op) (by decide) (fun mp => one ha iha [b] mp [0] fun mp2 => one hb ihb [] mp2 [] nil)
    rwa [show tyN 9 op 0 [0, 0] = 0 from by
      rw [tyN, if_neg (fun h => absurd h.1 (by decide)), if_neg (fun h => absurd h.1 (by decide)), if_neg (fun h => absurd h.1 (by decide)), if_pos ⟨rfl, h1, by omega, rfl⟩, if_neg (by omega)]] at this
  | comp h1 h2 ha hb iha ihb =>
    rename_i op a b
    have := node (k := 9) (n := op) (by decide) (fun mp => one ha iha [b] mp [0] fun mp2 => one hb ihb [] mp2 [] nil)
    rwa [show tyN 9 op 0 [0, 0] = 1 from by
      rw [tyN, if_neg (fun h => absurd h.1 (by decide)), if_neg (fun h => absurd h.1 (by decide)), if_neg (fun h => absurd h.1 (by decide)), if_pos ⟨rfl, by omega, by omega, rfl⟩, if_pos (by omega)]] at this
  | both h1 h2 ha hb iha ihb =>
    rename_i op a b
    have := node (k := 9) (n := op) (by decide) (fun mp => one ha iha [b] mp [1] fun mp2 => one hb ihb [] mp2 [] nil)
    rwa [show tyN 9 op 0 [1, 1] = 1 from by
      rw [tyN, if_neg (fun h => absurd h.1 (by decide)), if_neg (fun h => absurd h.1 (by decide)), if_neg (fun h => absurd h.1 (by decide)), if_neg (fun h => by have := h.2.2.1; omega), if_pos ⟨rfl, by omega, rfl⟩]] at this
  | not ha ih =>
    rename_i a
    have := node (k := 10) (n := 0) (by decide) (fun mp => one ha ih [] mp [] nil)
    rwa [show tyN 10 0 0 [1] = 1 from by decide] at this
  | cond hc ha hb ihc iha ihb =>
    rename_i k c a b
    have := node (k := 29) (n := 0) (by decide) (fun mp => one hc ihc [a, b] mp [k, k] fun mp2 => one ha iha [b] mp2 [k] fun mp3 => one hb ihb [] mp3 [] nil)
    rwa [show tyN 29 0 0 [1, k, k] = k from by
      rw [tyN, if_neg (fun h => absurd h.1 (by decide)), if_neg (fun h => absurd h.1 (by decide)), if_neg (fun h => absurd h.1 (by decide)), if_neg (fun h => absurd h.1 (by decide)), if_neg (fun h => absurd h.1 (by decide)), if_neg (fun h => absurd h.1 (by decide)), if_pos ⟨rfl, rfl⟩]
      simp [condK]] at this
end Go.Proofs.YtomameefmobnlaaDoor
namespace Go.Proofs.YtomameefmobnlaaDoor
open Go
/-- Terms of these types. -/
inductive WtL : List Int → List Tr → Prop where
  | nil : WtL [] []
  | cons {k : Int} {t : Tr} {ks : List Int} {l : List Tr} (h : Wt k t) (hl : WtL ks l) : WtL (k :: ks) (t :: l)
theorem WtL.none {l : List Tr} (h : WtL [] l) : l = [] := by cases h; rfl
theorem WtL.one {a : Int} {l : List Tr} (h : WtL [a] l) : ∃ x, l = [x] ∧ Wt a x := by
  cases h with
  | cons ha h => exact ⟨_, by rw [h.none], ha⟩
theorem WtL.two {a b : Int} {l : List Tr} (h : WtL [a, b] l) : ∃ x y, l = [x, y] ∧ Wt a x ∧ Wt b y := by
  cases h with
  | cons ha h =>
    obtain ⟨y, rfl, hb⟩ := h.one
    exact ⟨_, y, rfl, ha, hb⟩
theorem WtL.three {a b c : Int} {l : List Tr} (h : WtL [a, b, c] l) : ∃ x y z, l = [x, y, z] ∧ Wt a x ∧ Wt b y ∧ Wt c z := by
  cases h with
  | cons ha h =>
    obtain ⟨y, z, rfl, hb, hc⟩ := h.two
    exact ⟨_, y, z, rfl, ha, hb, hc⟩
theorem tyN_wt {k n m : Int} {ks : List Int} {kids : List Tr} (h : WtL ks kids) (hm : m = 0 ∨ k = 6) (hr : 0 ≤ tyN k n m ks) : Wt (tyN k n m ks) (.mk k n m kids) := by
  unfold tyN at hr ⊢
  by_cases c1 : k = 4 ∧ ks = [] ∧ -8 ≤ n ∧ n ≤ 7
  · obtain ⟨rfl, rfl, h1, h2⟩ := c1
    rw [if_pos ⟨rfl, rfl, h1, h2⟩]
    obtain rfl := h.none
    obtain rfl : m = 0 := by omega
    exact .num h1 h2
  rw [if_neg c1] at hr ⊢
  by_cases c2 : k = 5 ∧ ks = [] ∧ (n = 0 ∨ n = 1)
  · obtain ⟨rfl, rfl, h1⟩ := c2
    rw [if_pos ⟨rfl, rfl, h1⟩]
    obtain rfl := h.none
    obtain rfl : m = 0 := by omega
    exact .truth (by omega) (by omega)
  rw [if_neg c2] at hr ⊢
  by_cases c3 : k = 6 ∧ ks = [] ∧ 0 ≤ n ∧ n ≤ 63 ∧ (m = 0 ∨ m = 1)
  · obtain ⟨rfl, rfl, h1, h2, h3⟩ := c3
    rw [if_pos ⟨rfl, rfl, h1, h2, h3⟩]
    obtain rfl := h.none
    exact .var h1 h2 h3
  rw [if_neg c3] at hr ⊢
  by_cases c4 : k = 9 ∧ 0 ≤ n ∧ n < 12 ∧ ks = [0, 0]
  · obtain ⟨rfl, h1, h2, rfl⟩ := c4
    rw [if_pos ⟨rfl, h1, h2, rfl⟩]
    obtain ⟨x, y, rfl, ha, hb⟩ := h.two
    obtain rfl : m = 0 := by omega
    by_cases h10 : n ≥ 10
    · rw [if_pos h10]; exact .comp h10 (by omega) ha hb
    · rw [if_neg h10]; exact .word h1 (by omega) ha hb
  rw [if_neg c4] at hr ⊢
  by_cases c5 : k = 9 ∧ (n = 12 ∨ n = 13) ∧ ks = [1, 1]
  · obtain ⟨rfl, h1, rfl⟩ := c5
    rw [if_pos ⟨rfl, h1, rfl⟩]
    obtain ⟨x, y, rfl, ha, hb⟩ := h.two
    obtain rfl : m = 0 := by omega
    exact .both (by omega) (by omega) ha hb
  rw [if_neg c5] at hr ⊢
  by_cases c6 : k = 10 ∧ n = 0 ∧ ks = [1]
  · obtain ⟨rfl, rfl, rfl⟩ := c6
    rw [if_pos ⟨rfl, rfl, rfl⟩]
    obtain ⟨x, rfl, ha⟩ := h.one
    obtain rfl : m = 0 := by omega
    exact .not ha
  rw [if_neg c6] at hr ⊢
  by_cases c7 : k = 29 ∧ n = 0
  · obtain ⟨rfl, rfl⟩ := c7
    rw [if_pos ⟨rfl, rfl⟩] at hr ⊢
    obtain rfl : m = 0 := by omega
    cases h with
    | nil => simp [condK] at hr
    | cons ha h => cases h with
      | nil => simp [condK] at hr
      | cons hb h => cases h with
        | nil => simp [condK] at hr
        | cons hc h => cases h with
          | cons hd h => simp [condK] at hr
          | nil =>
            rename_i a _ b _ c _
            rw [condK] at hr ⊢
            split at hr
            · rename_i e
              obtain ⟨rfl, rfl⟩ := e
              rw [if_pos ⟨rfl, rfl⟩]
              exact .cond ha hb hc
            · omega
  · rw [if_neg c7] at hr; omega
mutual
theorem types_conv : ∀ (t : Tr) (mp : List (Int × Int)), 0 ≤ (typesC t mp).1 → Wt (typesC t mp).1 t
  | .mk k n m kids, mp, h => by
    rw [typesC] at h ⊢
    by_cases c0 : m ≠ 0 ∧ k ≠ 6
    · rw [if_pos c0] at h; exact absurd h (by simp)
    rw [if_neg c0] at h ⊢
    have hm : m = 0 ∨ k = 6 := by
      by_cases e : m = 0
      · exact .inl e
      · exact .inr (Decidable.not_not.1 fun h6 => c0 ⟨e, h6⟩)
    cases hl : (typesL kids mp).1 with
    | none => rw [hl] at h; exact absurd h (by simp)
    | some ks =>
      have hw := typesL_conv kids mp ks hl
      rw [hl] at h
      simp only at h ⊢
      by_cases c6 : k = 6 ∧ tyN k n m ks ≥ 0
      · rw [if_pos c6] at h ⊢
        have h2 := tyN_wt hw hm c6.2
        have h3 : tyN k n m ks = m := by
          obtain ⟨rfl, h4⟩ := c6
          unfold tyN at h4 ⊢
          rw [if_neg (fun h => absurd h.1 (by decide)), if_neg (fun h => absurd h.1 (by decide))] at h4 ⊢
          by_cases c3 : (6 : Int) = 6 ∧ ks = [] ∧ 0 ≤ n ∧ n ≤ 63 ∧ (m = 0 ∨ m = 1)
          · rw [if_pos c3]
          · rw [if_neg c3, if_neg (fun h => absurd h.1 (by decide)), if_neg (fun h => absurd h.1 (by decide)), if_neg (fun h => absurd h.1 (by decide)), if_neg (fun h => absurd h.1 (by decide))] at h4
            omega
        rw [h3] at h2
        cases hg : aget (typesL kids mp).2 n with
        | none => exact h2
        | some m' =>
          rw [hg] at h
          simp only at h ⊢
          by_cases e : m' = m
          · simp only [e, ne_eq, not_true_eq_false, if_false]; exact h2
          · simp only [ne_eq, e, not_false_eq_true, if_true] at h
            exact absurd h (by simp)
      · rw [if_neg c6] at h ⊢
        exact tyN_wt hw hm h
theorem typesL_conv : ∀ (l : List Tr) (mp : List (Int × Int)) (ks : List Int), (typesL l mp).1 = some ks → WtL ks l
  | [], mp, ks, h => by
    rw [typesL] at h
    cases h
    exact .nil
  | t :: l, mp, ks, h => by
    rw [typesL] at h
    by_cases c : (typesC t mp).1 < 0
    · rw [if_pos c] at h; cases h
    · rw [if_neg c] at h
      cases hl : (typesL l (typesC t mp).2).1 with
      | none => simp only [hl, Option.map_none] at h; cases h
      | some ks' =>
        simp only [hl, Option.map_some, Option.some.injEq] at h
        subst h
        exact .cons (types_conv t mp (by omega)) (typesL_conv l _ ks' hl)
end
/-! The reference's. -/
mutual
def shapedS : Tr → Bool
  | .mk k n m kids =>
    if k = 4 then decide (m = 0 ∧ -8 ≤ n ∧ n ≤ 7) && shapedL kids []
    else if k = 5 then decide (m = 0 ∧ 0 ≤ n ∧ n ≤ 1) && shapedL kids []
    else if k = 6 then decide (0 ≤ n ∧ n ≤ 63 ∧ 0 ≤ m ∧ m ≤ 1) && shapedL kids []
    else if k = 9 then decide (m = 0 ∧ 0 ≤ n ∧ n < 14) && shapedL kids (if n = 12 ∨ n = 13 then [1, 1] else [0, 0])
    else if k = 10 then decide (m = 0 ∧ n = 0) && shapedL kids [1]
    else if k = 29 then decide (m = 0 ∧ n = 0 ∧ kids.length = 3) && shapedL kids [1, typeR (kids.getD 1 (.mk 0 0 0 [])), typeR (kids.getD 1 (.mk 0 0 0 []))]
    else false
def shapedL : List Tr → List Int → Bool
  | [], [] => true
  | t :: l, w :: ws => shapedS t && decide (typeR t = w) && shapedL l ws
  | _, _ => false
end
theorem wt_shaped {k : Int} {t : Tr} (h : Wt k t) : shapedS t = true := by
  induction h with
  | num h1 h2 => rw [shapedS, if_pos rfl]; simp [shapedL, h1, h2]
  | truth h1 h2 => rw [shapedS, if_neg (by decide), if_pos rfl]; simp [shapedL, h1, h2]
  | var h1 h2 h3 => rw [shapedS, if_neg (by decide), if_neg (by decide), if_pos rfl]; simp [shapedL, h1, h2]; omega
  | word h1 h2 ha hb iha ihb =>
    rw [shapedS, if_neg (by decide), if_neg (by decide), if_neg (by decide), if_pos rfl, if_neg (by omega)]
    simp [shapedL, iha, ihb, ha.type, hb.type]; omega
  | comp h1 h2 ha hb iha ihb =>
    rw [shapedS, if_neg (by decide), if_neg (by decide), if_neg (by decide), if_pos rfl, if_neg (by omega)]
    simp [shapedL, iha, ihb, ha.type, hb.type]; omega
  | both h1 h2 ha hb iha ihb =>
    rw [shapedS, if_neg (by decide), if_neg (by decide), if_neg (by decide), if_pos rfl, if_pos (by omega)]
    simp [shapedL, iha, ihb, ha.type, hb.type]; omega
  | not ha ih =>
    rw [shapedS, if_neg (by decide), if_neg (by decide), if_neg (by decide), if_neg (by decide), if_pos rfl]
    simp [shapedL, ih, ha.type]
  | cond hc ha hb ihc iha ihb =>
    rw [shapedS, if_neg (by decide), if_neg (by decide), if_neg (by decide), if_neg (by decide), if_neg (by decide), if_pos rfl]
    simp [shapedL, ihc, iha, ihb, ha.type, hb.type, hc.type]
mutual
theorem shaped_wt : ∀ t : Tr, shapedS t = true → Wt (typeR t) t
  | .mk k n m kids, h => by
    rw [shapedS] at h
    by_cases c1 : k = 4
    · subst c1
      rw [if_pos rfl, Bool.and_eq_true, decide_eq_true_eq] at h
      obtain ⟨⟨rfl, h1, h2⟩, hl⟩ := h
      obtain rfl := (shapedL_wt kids [] hl).none
      exact .num h1 h2
    rw [if_neg c1] at h
    by_cases c2 : k = 5
    · subst c2
      rw [if_pos rfl, Bool.and_eq_true, decide_eq_true_eq] at h
      obtain ⟨⟨rfl, h1, h2⟩, hl⟩ := h
      obtain rfl := (shapedL_wt kids [] hl).none
      exact .truth h1 h2
    rw [if_neg c2] at h
    by_cases c3 : k = 6
    · subst c3
      rw [if_pos rfl, Bool.and_eq_true, decide_eq_true_eq] at h
      obtain ⟨⟨h1, h2, h3, h4⟩, hl⟩ := h
      obtain rfl := (shapedL_wt kids [] hl).none
      have hv : Wt m (.mk 6 n m []) := .var h1 h2 (by omega)
      exact hv
    rw [if_neg c3] at h
    by_cases c4 : k = 9
    · subst c4
      rw [if_pos rfl, Bool.and_eq_true, decide_eq_true_eq] at h
      obtain ⟨⟨rfl, h1, h2⟩, hl⟩ := h
      by_cases c : n = 12 ∨ n = 13
      · rw [if_pos c] at hl
        obtain ⟨x, y, rfl, ha, hb⟩ := (shapedL_wt kids _ hl).two
        have hv : Wt 1 (.mk 9 n 0 [x, y]) := .both (by omega) (by omega) ha hb
        rw [hv.type]; exact hv
      · rw [if_neg c] at hl
        obtain ⟨x, y, rfl, ha, hb⟩ := (shapedL_wt kids _ hl).two
        by_cases h10 : n ≥ 10
        · have hv : Wt 1 (.mk 9 n 0 [x, y]) := .comp h10 (by omega) ha hb
          rw [hv.type]; exact hv
        · have hv : Wt 0 (.mk 9 n 0 [x, y]) := .word h1 (by omega) ha hb
          rw [hv.type]; exact hv
    rw [if_neg c4] at h
    by_cases c5 : k = 10
    · subst c5
      rw [if_pos rfl, Bool.and_eq_true, decide_eq_true_eq] at h
      obtain ⟨⟨rfl, rfl⟩, hl⟩ := h
      obtain ⟨x, rfl, ha⟩ := (shapedL_wt kids _ hl).one
      exact .not ha
    rw [if_neg c5] at h
    by_cases c6 : k = 29
    · subst c6
      rw [if_pos rfl, Bool.and_eq_true, decide_eq_true_eq] at h
      obtain ⟨⟨rfl, rfl, h3⟩, hl⟩ := h
      obtain ⟨c, x, y, rfl, hc, ha, hb⟩ := (shapedL_wt kids _ hl).three
      simp only [List.getD_cons_succ, List.getD_cons_zero] at ha hb
      have hv := Wt.cond hc ha hb
      rw [hv.type]; exact hv
    · rw [if_neg c6] at h; cases h
theorem shapedL_wt : ∀ (l : List Tr) (ws : List Int), shapedL l ws = true → WtL ws l
  | [], [], _ => .nil
  | t :: l, w :: ws, h => by
    rw [shapedL, Bool.and_eq_true, Bool.and_eq_true, decide_eq_true_eq] at h
    obtain ⟨⟨h1, rfl⟩, h2⟩ := h
    exact .cons (shaped_wt t h1) (shapedL_wt l ws h2)
  | [], _ :: _, h => by simp [shapedL] at h
  | _ :: _, [], h => by simp [shapedL] at h
end
/-- Whether all variables have one type each. -/
def fitS (t : Tr) : Bool := (addAll (varP t) []).isSome
def validS (t : Tr) : Int := if shapedS t && fitS t then typeR t else -1
/-- The package's Valid and the reference's. -/
theorem valid_eq (t : Tr) : max (typesC t []).1 0 = (if shapedS t && fitS t then typeR t else 0) ∧ decide ((typesC t []).1 ≥ 0) = (shapedS t && fitS t) := by
  by_cases h : 0 ≤ (typesC t []).1
  · have hw := types_conv t [] h
    have hs := wt_shaped hw
    have hf : fitS t = true := by
      unfold fitS
      cases ha : addAll (varP t) [] with
      | some _ => rfl
      | none => have := (types_wt hw []).2 ha; omega
    rw [hs, hf, hw.type]
    exact ⟨by simp; omega, by simp [h]⟩
  · have hn : (shapedS t && fitS t) = false := by
      cases hs : shapedS t with
      | false => rfl
      | true =>
        cases hf : fitS t with
        | false => rfl
        | true =>
          have hw := shaped_wt t hs
          unfold fitS at hf
          obtain ⟨mp', ha⟩ := Option.isSome_iff_exists.1 hf
          rw [(types_wt hw []).1 mp' ha] at h
          have := hw.kind
          exact absurd (by show 0 ≤ typeR t; omega) h
    rw [hn]
    exact ⟨by simp; omega, by simpa using h⟩
end Go.Proofs.YtomameefmobnlaaDoor
namespace Go.Proofs.YtomameefmobnlaaDoor
open Go
/-- Variables as Make has them: 0 and 1 of words, 2 and 3 of truth values. -/
def VarOK (t : Tr) : Prop := ∀ p ∈ varP t, 0 ≤ p.1 ∧ p.1 < 4 ∧ p.2 = p.1 / 2
theorem varOK_kids {k n m : Int} {kids : List Tr} (h6 : k ≠ 6) (h : ∀ t ∈ kids, VarOK t) : VarOK (.mk k n m kids) := by
  intro p hp
  rw [varP, if_neg h6, List.nil_append] at hp
  have : ∀ l : List Tr, (∀ t ∈ l, VarOK t) → p ∈ varPs l → 0 ≤ p.1 ∧ p.1 < 4 ∧ p.2 = p.1 / 2 := by
    intro l
    induction l with
    | nil => intro _ h; simp [varPs] at h
    | cons t l ih =>
      intro h1 h2
      rw [varPs] at h2
      rcases List.mem_append.1 h2 with h3 | h3
      · exact h1 t (by simp) p h3
      · exact ih (fun t ht => h1 t (by simp [ht])) h3
  exact this kids h hp
theorem make_vars (l : List Int) : ∀ (d : Nat) {kind : Int} (_ : kind = 0 ∨ kind = 1) (a f : Int), VarOK (makeS l d kind a f).1 := by
  have leaf : ∀ {kind : Int} (_ : kind = 0 ∨ kind = 1) (a f : Int), VarOK (leafS l kind a f).1 := by
    intro kind hk a f
    have h1 := atS_bound (l := l) (i := a + 2) (most := 2) (by omega)
    unfold leafS
    split
    · intro p hp
      simp [varP, varPs] at hp
      rw [hp]
      simp only
      omega
    · split
      · exact varOK_kids (by decide) fun t h => by cases h
      · exact varOK_kids (by decide) fun t h => by cases h
  intro d
  induction d with
  | zero => intro kind hk a f; exact leaf hk a f
  | succ d ih =>
    intro kind hk a f
    rw [makeS]
    split
    · exact leaf hk a f
    split
    · refine varOK_kids (by decide) fun t h => ?_
      simp only [List.mem_cons, List.not_mem_nil, or_false] at h
      rcases h with rfl | rfl | rfl
      · exact ih (.inr rfl) _ _
      · exact ih hk _ _
      · exact ih hk _ _
    split
    · refine varOK_kids (by decide) fun t h => ?_
      rw [List.mem_singleton.1 h]; exact ih (.inr rfl) _ _
    split
    · refine varOK_kids (by decide) fun t h => ?_
      have hs : (if atS l (a + 2) 4 ≥ 2 then (1 : Int) else 0) = 0 ∨ (if atS l (a + 2) 4 ≥ 2 then (1 : Int) else 0) = 1 := by split <;> simp
      simp only [List.mem_cons, List.not_mem_nil, or_false] at h
      rcases h with rfl | rfl
      · exact ih hs _ _
      · exact ih hs _ _
    · refine varOK_kids (by decide) fun t h => ?_
      simp only [List.mem_cons, List.not_mem_nil, or_false] at h
      rcases h with rfl | rfl
      · exact ih (.inl rfl) _ _
      · exact ih (.inl rfl) _ _
theorem term_vars (l : List Int) (kind : Int) : VarOK (termS l kind) := by
  have h := aroundS_bound (n := kind) (most := 2) (by omega)
  exact make_vars l 4 (by omega) 0 14
theorem aget_put : ∀ (mp : List (Int × Int)) (n m j : Int), aget (aput mp n m) j = if j = n then some m else aget mp j
  | [], n, m, j => by simp [aput, aget]
  | (k, v) :: r, n, m, j => by
    rw [aput]
    by_cases e : n = k
    · subst e
      rw [if_pos rfl, aget, aget]
      split <;> rfl
    · rw [if_neg e, aget, aget, aget_put r n m j]
      by_cases e2 : j = k
      · subst e2
        rw [if_pos rfl, if_pos rfl, if_neg (fun h => e h.symm)]
      · rw [if_neg e2, if_neg e2]
theorem add_ok {g : Int → Int} : ∀ (vs mp : List (Int × Int)), (∀ p ∈ vs, p.2 = g p.1) → (∀ j m, aget mp j = some m → m = g j) → ∃ mp', addAll vs mp = some mp'
  | [], mp, _, _ => ⟨mp, rfl⟩
  | (n, m) :: vs, mp, h1, h2 => by
    have hm : m = g n := h1 (n, m) (by simp)
    rw [addAll, if_neg]
    · refine add_ok vs _ (fun p hp => h1 p (by simp [hp])) fun j m' hj => ?_
      rw [aget_put] at hj
      split at hj
      · rename_i e
        cases hj
        rw [e]; exact hm
      · exact h2 j m' hj
    · cases ha : aget mp n with
      | none => simp
      | some m' => simp [h2 n m' ha, hm]
theorem fit_ok {t : Tr} (h : VarOK t) : fitS t = true := by
  obtain ⟨mp', e⟩ := add_ok (g := fun n => n / 2) (varP t) [] (fun p hp => (h p hp).2.2) (fun j m h => by simp [aget] at h)
  rw [fitS, e]; rfl
theorem valid_term {k : Int} {t : Tr} (h : Wt k t) (hv : VarOK t) : validS t = k := by
  rw [validS, wt_shaped h, fit_ok hv, h.type]; rfl
mutual
/-- Terms in the place of variables. -/
def putS (l : List Tr) : Tr → Tr
  | .mk k n m kids =>
    if k = 6 then (if n < l.length ∧ validS (l.getD n.toNat (.mk 0 0 0 [])) = m then l.getD n.toNat (.mk 0 0 0 []) else .mk k n m kids)
    else .mk k n m (putSs l kids)
def putSs (l : List Tr) : List Tr → List Tr
  | [] => []
  | t :: ts => putS l t :: putSs l ts
end
theorem valid_wt {t : Tr} {k : Int} (h : validS t = k) (hk : 0 ≤ k) : Wt k t := by
  unfold validS at h
  split at h
  · rename_i hs
    rw [Bool.and_eq_true] at hs
    have := shaped_wt t hs.1
    rw [h] at this; exact this
  · omega
theorem put_wt (l : List Tr) {k : Int} {t : Tr} (h : Wt k t) : Wt k (putS l t) := by
  induction h with
  | num h1 h2 => rw [putS, if_neg (by decide)]; exact .num h1 h2
  | truth h1 h2 => rw [putS, if_neg (by decide)]; exact .truth h1 h2
  | var h1 h2 h3 =>
    rw [putS, if_pos rfl]
    split
    · rename_i h
      exact valid_wt h.2 (by omega)
    · exact .var h1 h2 h3
  | word h1 h2 ha hb iha ihb => rw [putS, if_neg (by decide)]; exact .word h1 h2 iha ihb
  | comp h1 h2 ha hb iha ihb => rw [putS, if_neg (by decide)]; exact .comp h1 h2 iha ihb
  | both h1 h2 ha hb iha ihb => rw [putS, if_neg (by decide)]; exact .both h1 h2 iha ihb
  | not ha ih => rw [putS, if_neg (by decide)]; exact .not ih
  | cond hc ha hb ihc iha ihb => rw [putS, if_neg (by decide)]; exact .cond ihc iha ihb
/-- The value of a term depends on its variables' values alone. -/
theorem eval_congr {k : Int} {t : Tr} (h : Wt k t) {va vb : List Int} (hv : ∀ p ∈ varP t, valAt va p.1 p.2 = valAt vb p.1 p.2) : evalS va t = evalS vb t := by
  induction h with
  | num => rfl
  | truth => rfl
  | var h1 h2 h3 =>
    rename_i n m
    have e : ∀ v, evalS v (.mk 6 n m []) = valAt v n m := fun v => by simp [evalS]
    rw [e, e]
    exact hv (n, m) (by rw [varP, if_pos rfl]; simp)
  | word h1 h2 ha hb iha ihb =>
    rename_i op a b
    have e : ∀ v, evalS v (.mk 9 op 0 [a, b]) = opW op (wrapS (evalS v a)) (wrapS (evalS v b)) := fun v => by simp [evalS]
    rw [e, e, iha fun p hp => hv p (by simp [varP, varPs, hp]), ihb fun p hp => hv p (by simp [varP, varPs, hp])]
  | comp h1 h2 ha hb iha ihb =>
    rename_i op a b
    have e : ∀ v, evalS v (.mk 9 op 0 [a, b]) = opW op (wrapS (evalS v a)) (wrapS (evalS v b)) := fun v => by simp [evalS]
    rw [e, e, iha fun p hp => hv p (by simp [varP, varPs, hp]), ihb fun p hp => hv p (by simp [varP, varPs, hp])]
  | both h1 h2 ha hb iha ihb =>
    rename_i op a b
    have e : ∀ v, evalS v (.mk 9 op 0 [a, b]) = opW op (wrapS (evalS v a)) (wrapS (evalS v b)) := fun v => by simp [evalS]
    rw [e, e, iha fun p hp => hv p (by simp [varP, varPs, hp]), ihb fun p hp => hv p (by simp [varP, varPs, hp])]
  | not ha ih =>
    rename_i a
    have e : ∀ v, evalS v (.mk 10 0 0 [a]) = if evalS v a = 1 then 0 else 1 := fun v => by simp [evalS]
    rw [e, e, ih fun p hp => hv p (by simp [varP, varPs, hp])]
  | cond hc ha hb ihc iha ihb =>
    rename_i k c a b
    have e : ∀ v, evalS v (.mk 29 0 0 [c, a, b]) = if evalS v c = 1 then evalS v a else evalS v b := fun v => by simp [evalS]
    rw [e, e, ihc fun p hp => hv p (by simp [varP, varPs, hp]), iha fun p hp => hv p (by simp [varP, varPs, hp]), ihb fun p hp => hv p (by simp [varP, varPs, hp])]
/-- .. of one with terms put in. -/
theorem eval_put {k : Int} {t : Tr} (h : Wt k t) (l : List Tr) {va vb : List Int} (hv : ∀ p ∈ varP t, evalS va (putS l (.mk 6 p.1 p.2 [])) = valAt vb p.1 p.2) : evalS va (putS l t) = evalS vb t := by
  induction h with
  | num => simp [putS, putSs, evalS]
  | truth => simp [putS, putSs, evalS]
  | var h1 h2 h3 =>
    rename_i n m
    have e : ∀ v, evalS v (.mk 6 n m []) = valAt v n m := fun v => by simp [evalS]
    rw [e]
    exact hv (n, m) (by rw [varP, if_pos rfl]; simp)
  | word h1 h2 ha hb iha ihb =>
    rename_i op a b
    have e : ∀ v a b, evalS v (.mk 9 op 0 [a, b]) = opW op (wrapS (evalS v a)) (wrapS (evalS v b)) := fun v a b => by simp [evalS]
    rw [putS, if_neg (by decide), putSs, putSs, putSs, e, e, iha fun p hp => hv p (by simp [varP, varPs, hp]), ihb fun p hp => hv p (by simp [varP, varPs, hp])]
  | comp h1 h2 ha hb iha ihb =>
    rename_i op a b
    have e : ∀ v a b, evalS v (.mk 9 op 0 [a, b]) = opW op (wrapS (evalS v a)) (wrapS (evalS v b)) := fun v a b => by simp [evalS]
    rw [putS, if_neg (by decide), putSs, putSs, putSs, e, e, iha fun p hp => hv p (by simp [varP, varPs, hp]), ihb fun p hp => hv p (by simp [varP, varPs, hp])]
  | both h1 h2 ha hb iha ihb =>
    rename_i op a b
    have e : ∀ v a b, evalS v (.mk 9 op 0 [a, b]) = opW op (wrapS (evalS v a)) (wrapS (evalS v b)) := fun v a b => by simp [evalS]
    rw [putS, if_neg (by decide), putSs, putSs, putSs, e, e, iha fun p hp => hv p (by simp [varP, varPs, hp]), ihb fun p hp => hv p (by simp [varP, varPs, hp])]
  | not ha ih =>
    rename_i a
    have e : ∀ v a, evalS v (.mk 10 0 0 [a]) = if evalS v a = 1 then 0 else 1 := fun v a => by simp [evalS]
    rw [putS, if_neg (by decide), putSs, putSs, e, e, ih fun p hp => hv p (by simp [varP, varPs, hp])]
  | cond hc ha hb ihc iha ihb =>
    rename_i k c a b
    have e : ∀ v c a b, evalS v (.mk 29 0 0 [c, a, b]) = if evalS v c = 1 then evalS v a else evalS v b := fun v c a b => by simp [evalS]
    rw [putS, if_neg (by decide), putSs, putSs, putSs, putSs, e, e, ihc fun p hp => hv p (by simp [varP, varPs, hp]), iha fun p hp => hv p (by simp [varP, varPs, hp]), ihb fun p hp => hv p (by simp [varP, varPs, hp])]
end Go.Proofs.YtomameefmobnlaaDoor
namespace Go.Proofs.YtomameefmobnlaaDoor
open Go
theorem cellsTs_take : ∀ (l : List Tr) (n : Nat), (cellsTs l).take (n * 4) = cellsTs (l.take n)
  | [], n => by simp [cellsTs]
  | c :: l, 0 => by simp [cellsTs]
  | c :: l, n + 1 => by
    rw [cellsTs, List.take_succ_cons, cellsTs, show (n + 1) * 4 = (cellsT c).length + n * 4 from by rw [cellsT_length]; omega, List.take_length_add_append, cellsTs_take l n]
theorem cellsTs_drop : ∀ (l : List Tr) (n : Nat), (cellsTs l).drop (n * 4) = cellsTs (l.drop n)
  | [], n => by simp [cellsTs]
  | c :: l, 0 => by simp [cellsTs]
  | c :: l, n + 1 => by
    rw [cellsTs, List.drop_succ_cons, show (n + 1) * 4 = (cellsT c).length + n * 4 from by rw [cellsT_length]; omega, List.drop_length_add_append, cellsTs_drop l n]
theorem cellsTs_set {l : List Tr} {i : Nat} (h : i < l.length) (c : Tr) : (cellsTs l).take (i * 4) ++ (cellsT c ++ (cellsTs l).drop (i * 4 + 4)) = cellsTs (l.set i c) := by
  rw [cellsTs_take, show i * 4 + 4 = (i + 1) * 4 from by omega, cellsTs_drop, List.set_eq_take_append_cons_drop, if_pos h, cellsTs_append, cellsTs]
theorem flat_repT (n : Nat) : (List.replicate n [V.int .i64 0, V.int .i64 0, V.int .i64 0, V.sl 0 []]).flatten = cellsTs (List.replicate n (.mk 0 0 0 [])) := by
  induction n with
  | zero => rfl
  | succ n ih => rw [List.replicate_succ, List.flatten_cons, ih, List.replicate_succ]; rfl
theorem putSs_map (L : List Tr) : ∀ l : List Tr, putSs L l = l.map (putS L)
  | [] => rfl
  | t :: l => by rw [putSs, putSs_map L l]; rfl
end Go.Proofs.YtomameefmobnlaaDoor
namespace Go.Proofs.YtomameefmobnlaaDoor
open Go
theorem typesL_app : ∀ (a b : List Tr) (mp mp1 : List (Int × Int)) (ks : List Int), typesL a mp = (some ks, mp1) → typesL (a ++ b) mp = ((typesL b mp1).1.map (ks ++ ·), (typesL b mp1).2)
  | [], b, mp, mp1, ks, h => by
    rw [typesL] at h
    cases h
    rw [List.nil_append]
    cases h2 : (typesL b mp).1 <;> simp [← h2]
  | t :: a, b, mp, mp1, ks, h => by
    rw [typesL] at h
    rw [List.cons_append, typesL]
    by_cases c : (typesC t mp).1 < 0
    · rw [if_pos c] at h; cases h
    · rw [if_neg c] at h ⊢
      simp only [Prod.mk.injEq, Option.map_eq_some_iff] at h
      obtain ⟨⟨ks', h1, rfl⟩, h2⟩ := h
      have := typesL_app a b _ mp1 ks' (Prod.ext h1 h2)
      rw [this]
      simp only [Option.map_map]
      rfl
theorem typesL_snoc {l : List Tr} {i : Nat} (hi : i < l.length) {mp mp1 : List (Int × Int)} {ks : List Int} (h : typesL (l.take i) mp = (some ks, mp1)) (hp : ¬ (typesC l[i] mp1).1 < 0) : typesL (l.take (i + 1)) mp = (some (ks ++ [(typesC l[i] mp1).1]), (typesC l[i] mp1).2) := by
  rw [List.take_succ_eq_append_getElem hi, typesL_app _ _ _ _ _ h, typesL, if_neg hp]
  simp [typesL]
theorem typesL_stop {l : List Tr} {i : Nat} (hi : i < l.length) {mp mp1 : List (Int × Int)} {ks : List Int} (h : typesL (l.take i) mp = (some ks, mp1)) (hp : (typesC l[i] mp1).1 < 0) : typesL l mp = (none, (typesC l[i] mp1).2) := by
  conv => lhs; rw [← List.take_append_drop i l, List.drop_eq_getElem_cons hi]
  rw [typesL_app _ _ _ _ _ h, typesL, if_pos hp]
  rfl
def endT (k n m : Int) (ks : List Int) (mp : List (Int × Int)) : Int × List (Int × Int) :=
  if k = 6 ∧ tyN k n m ks ≥ 0 then
    (match aget mp n with
      | some m' => if m' ≠ m then (-1, mp) else (m, aput mp n m)
      | none => (m, aput mp n m))
  else (tyN k n m ks, mp)
theorem typesC_some {k n m : Int} {kids : List Tr} {mp mp1 : List (Int × Int)} {ks : List Int} (h : typesL kids mp = (some ks, mp1)) (hc : ¬ (m ≠ 0 ∧ k ≠ 6)) : typesC (.mk k n m kids) mp = endT k n m ks mp1 := by
  rw [typesC, if_neg hc, h]; rfl
theorem typesC_none {k n m : Int} {kids : List Tr} {mp mp1 : List (Int × Int)} (h : typesL kids mp = (none, mp1)) (hc : ¬ (m ≠ 0 ∧ k ≠ 6)) : typesC (.mk k n m kids) mp = (-1, mp1) := by
  rw [typesC, if_neg hc, h]
theorem endT_ne {k n m : Int} {ks : List Int} {mp : List (Int × Int)} (h : k ≠ 6) : endT k n m ks mp = (tyN k n m ks, mp) := by
  rw [endT, if_neg (fun hh => h hh.1)]
theorem tyN4 (n m : Int) (ks : List Int) : tyN 4 n m ks = if ks = [] ∧ -8 ≤ n ∧ n ≤ 7 then 0 else -1 := by simp [tyN]
theorem tyN5 (n m : Int) (ks : List Int) : tyN 5 n m ks = if ks = [] ∧ (n = 0 ∨ n = 1) then 1 else -1 := by simp [tyN]
theorem tyN6 (n m : Int) (ks : List Int) : tyN 6 n m ks = if ks = [] ∧ 0 ≤ n ∧ n ≤ 63 ∧ (m = 0 ∨ m = 1) then m else -1 := by simp [tyN]
theorem tyN9 (n m : Int) (ks : List Int) : tyN 9 n m ks = if 0 ≤ n ∧ n < 12 ∧ ks = [0, 0] then (if n ≥ 10 then 1 else 0) else if (n = 12 ∨ n = 13) ∧ ks = [1, 1] then 1 else -1 := by simp [tyN]
theorem tyN10 (n m : Int) (ks : List Int) : tyN 10 n m ks = if n = 0 ∧ ks = [1] then 1 else -1 := by simp [tyN]
theorem tyN29 (n m : Int) (ks : List Int) : tyN 29 n m ks = if n = 0 then condK ks else -1 := by simp [tyN]
theorem tyN0 {k : Int} (n m : Int) (ks : List Int) (h4 : ¬ k = 4) (h5 : ¬ k = 5) (h6 : ¬ k = 6) (h9 : ¬ k = 9) (h10 : ¬ k = 10) (h29 : ¬ k = 29) : tyN k n m ks = -1 := by simp [tyN, h4, h5, h6, h9, h10, h29]
theorem endT6 (n m : Int) (ks : List Int) (mp : List (Int × Int)) : endT 6 n m ks mp = if ks = [] ∧ 0 ≤ n ∧ n ≤ 63 ∧ (m = 0 ∨ m = 1) then (match aget mp n with
      | some m' => if m' ≠ m then (-1, mp) else (m, aput mp n m)
      | none => (m, aput mp n m)) else (-1, mp) := by
  rw [endT, tyN6]
  by_cases h : ks = [] ∧ 0 ≤ n ∧ n ≤ 63 ∧ (m = 0 ∨ m = 1)
  · rw [if_pos h, if_pos h, if_pos ⟨rfl, by omega⟩]
  · rw [if_neg h, if_neg h, if_neg (fun hh => absurd hh.2 (by decide))]
end Go.Proofs.YtomameefmobnlaaDoor
namespace Go.Proofs.YtomameefmobnlaaDoor
open Go
def addK (ns : List Int) (n : Int) : List Int := if n ∈ ns then ns else ns ++ [n]
mutual
def visK : Tr → List Int → List Int
  | .mk k n _ l, ns => visKs l (if k = 6 then addK ns n else ns)
def visKs : List Tr → List Int → List Int
  | [], ns => ns
  | t :: l, ns => visKs l (visK t ns)
end
theorem visKs_app : ∀ (a b : List Tr) (ns : List Int), visKs (a ++ b) ns = visKs b (visKs a ns)
  | [], b, ns => by rw [visKs]; rfl
  | t :: a, b, ns => by rw [List.cons_append, visKs, visKs, visKs_app a b]
theorem visKs_take {l : List Tr} {i : Nat} (h : i < l.length) (ns : List Int) : visKs (l.take (i + 1)) ns = visK l[i] (visKs (l.take i) ns) := by
  rw [List.take_succ_eq_append_getElem h, visKs_app, visKs, visKs]
/-- The map's entries. -/
def mkK (ns : List Int) : List (Int × V) := ns.map fun n => (n, V.bool true)
theorem mput_mk : ∀ (ns : List Int) (n : Int), mput (mkK ns) n (.bool true) = mkK (addK ns n)
  | [], n => rfl
  | a :: ns, n => by
    have ih := mput_mk ns n
    show (if n = a then (n, V.bool true) :: mkK ns else (a, V.bool true) :: mput (mkK ns) n (.bool true)) = _
    by_cases h : n = a
    · subst h
      rw [if_pos rfl, addK, if_pos (by simp)]
      rfl
    · rw [if_neg h, ih]
      unfold addK
      by_cases h2 : n ∈ ns
      · rw [if_pos h2, if_pos (by simp [h2])]; rfl
      · rw [if_neg h2, if_neg (by simp [h, h2])]; rfl
end Go.Proofs.YtomameefmobnlaaDoor
namespace Go.Proofs.YtomameefmobnlaaDoor
open Go
def sgn (a b : Int) : Int := if a < b then -1 else if a > b then 1 else 0
theorem sgn_zero {a b : Int} : sgn a b = 0 ↔ a = b := by unfold sgn; (repeat' split) <;> omega
mutual
def cmpT : Tr → Tr → Int
  | .mk k n m l, .mk k' n' m' l' => if k ≠ k' then sgn k k' else if n ≠ n' then sgn n n' else if m ≠ m' then sgn m m' else cmpTs l l'
def cmpTs : List Tr → List Tr → Int
  | [], [] => 0
  | [], _ :: _ => -1
  | _ :: _, [] => 1
  | t :: l, t' :: l' => if cmpT t t' ≠ 0 then cmpT t t' else cmpTs l l'
end
mutual
theorem cmpT_zero : ∀ a b : Tr, cmpT a b = 0 ↔ a = b
  | .mk k n m l, .mk k' n' m' l' => by
    rw [cmpT]
    by_cases h1 : k = k'
    · by_cases h2 : n = n'
      · by_cases h3 : m = m'
        · rw [if_neg (by simpa using h1), if_neg (by simpa using h2), if_neg (by simpa using h3), cmpTs_zero l l']
          subst h1 h2 h3
          simp
        · rw [if_neg (by simpa using h1), if_neg (by simpa using h2), if_pos h3, sgn_zero]
          simp [h3]
      · rw [if_neg (by simpa using h1), if_pos h2, sgn_zero]
        simp [h2]
    · rw [if_pos h1, sgn_zero]
      simp [h1]
theorem cmpTs_zero : ∀ l l' : List Tr, cmpTs l l' = 0 ↔ l = l'
  | [], [] => by simp [cmpTs]
  | [], _ :: _ => by simp [cmpTs]
  | _ :: _, [] => by simp [cmpTs]
  | t :: l, t' :: l' => by
    rw [cmpTs]
    by_cases h : cmpT t t' = 0
    · rw [if_neg (by simpa using h), cmpTs_zero l l']
      rw [cmpT_zero t t'] at h
      simp [h]
    · rw [if_pos h]
      have : t ≠ t' := fun e => h ((cmpT_zero t t').2 e)
      simp [h, this]
end
theorem cmpTs_drop {l l' : List Tr} {i : Nat} (h1 : i < l.length) (h2 : i < l'.length) : cmpTs (l.drop i) (l'.drop i) = if cmpT l[i] l'[i] ≠ 0 then cmpT l[i] l'[i] else cmpTs (l.drop (i + 1)) (l'.drop (i + 1)) := by
  rw [List.drop_eq_getElem_cons h1, List.drop_eq_getElem_cons h2, cmpTs]
theorem cmpTs_end {l l' : List Tr} {i : Nat} (h1 : i ≤ l.length) (h2 : i ≤ l'.length) (h : ¬ (i < l.length ∧ i < l'.length)) : cmpTs (l.drop i) (l'.drop i) = sgn l.length l'.length := by
  by_cases e1 : i = l.length
  · rw [List.drop_eq_nil_of_le (by omega : l.length ≤ i)]
    by_cases e2 : i = l'.length
    · rw [List.drop_eq_nil_of_le (by omega : l'.length ≤ i), cmpTs, sgn, if_neg (by omega), if_neg (by omega)]
    · rw [List.drop_eq_getElem_cons (by omega : i < l'.length), cmpTs, sgn, if_pos (by omega)]
  · have e2 : i = l'.length := by omega
    rw [List.drop_eq_nil_of_le (by omega : l'.length ≤ i), List.drop_eq_getElem_cons (by omega : i < l.length), cmpTs, sgn, if_neg (by omega), if_pos (by omega)]
end Go.Proofs.YtomameefmobnlaaDoor
namespace Go.Proofs.YtomameefmobnlaaDoor
open Go
theorem keys_mk (ns : List Int) : keysS (mkK ns) = ns.mergeSort leI := by
  unfold keysS mkK
  rw [List.map_map]
  congr 1
  exact List.map_id' ns
theorem addK_nodup {ns : List Int} (h : ns.Nodup) (n : Int) : (addK ns n).Nodup := by
  unfold addK
  split
  · exact h
  · rename_i hn
    exact List.nodup_append.2 ⟨h, by simp, fun a ha b hb => by simp at hb; subst hb; exact fun e => hn (e ▸ ha)⟩
theorem mem_addK {ns : List Int} {n x : Int} : x ∈ addK ns n ↔ x ∈ ns ∨ x = n := by
  unfold addK
  split
  · rename_i h; exact ⟨.inl, fun h2 => h2.elim id fun e => e ▸ h⟩
  · simp
mutual
theorem visK_ok : ∀ (t : Tr) (ns : List Int), ns.Nodup → (visK t ns).Nodup ∧ ∀ x, x ∈ visK t ns ↔ x ∈ ns ∨ ∃ p ∈ varP t, p.1 = x
  | .mk k n m l, ns, h => by
    rw [visK]
    by_cases c : k = 6
    · rw [if_pos c]
      obtain ⟨a, b⟩ := visKs_ok l (addK ns n) (addK_nodup h n)
      refine ⟨a, fun x => ?_⟩
      rw [b x, mem_addK, varP, if_pos c]
      simp only [List.mem_append, List.mem_singleton]
      constructor
      · rintro ((h | rfl) | ⟨p, hp, rfl⟩)
        · exact .inl h
        · exact .inr ⟨(x, m), .inl rfl, rfl⟩
        · exact .inr ⟨p, .inr hp, rfl⟩
      · rintro (h | ⟨p, rfl | hp, rfl⟩)
        · exact .inl (.inl h)
        · exact .inl (.inr rfl)
        · exact .inr ⟨p, hp, rfl⟩
    · rw [if_neg c, varP, if_neg c]
      exact visKs_ok l ns h
theorem visKs_ok : ∀ (l : List Tr) (ns : List Int), ns.Nodup → (visKs l ns).Nodup ∧ ∀ x, x ∈ visKs l ns ↔ x ∈ ns ∨ ∃ p ∈ varPs l, p.1 = x
  | [], ns, h => by rw [visKs, varPs]; exact ⟨h, fun x => by simp⟩
  | t :: l, ns, h => by
    rw [visKs, varPs]
    obtain ⟨a, b⟩ := visK_ok t ns h
    obtain ⟨c, d⟩ := visKs_ok l _ a
    refine ⟨c, fun x => ?_⟩
    rw [d x, b x]
    simp only [List.mem_append]
    constructor
    · rintro ((h | ⟨p, hp, rfl⟩) | ⟨p, hp, rfl⟩)
      · exact .inl h
      · exact .inr ⟨p, .inl hp, rfl⟩
      · exact .inr ⟨p, .inr hp, rfl⟩
    · rintro (h | ⟨p, hp | hp, rfl⟩)
      · exact .inl (.inl h)
      · exact .inl (.inr ⟨p, hp, rfl⟩)
      · exact .inr ⟨p, hp, rfl⟩
end
/-- The numbers from 0 to 63 that are there. -/
def upTo (P : Int → Bool) (n : Nat) : List Int := ((List.range n).map fun (i : Nat) => (i : Int)).filter P
theorem upTo_sorted (P : Int → Bool) (n : Nat) : (upTo P n).Pairwise (· < ·) := by
  refine List.Pairwise.filter _ (List.pairwise_map.2 ?_)
  exact List.pairwise_lt_range.imp fun h => by omega
theorem mem_upTo {P : Int → Bool} {n : Nat} {x : Int} : x ∈ upTo P n ↔ (0 ≤ x ∧ x < n) ∧ P x = true := by
  unfold upTo
  rw [List.mem_filter, List.mem_map]
  constructor
  · rintro ⟨⟨i, hi, rfl⟩, h⟩
    have := List.mem_range.1 hi
    exact ⟨by omega, h⟩
  · rintro ⟨⟨h1, h2⟩, h⟩
    exact ⟨⟨x.toNat, List.mem_range.2 (by omega), by omega⟩, h⟩
/-- What the reference's Vars answers. -/
def refVars (t : Tr) : List Int := upTo (fun n => decide (∃ p ∈ varP t, p.1 = n)) 64
theorem vars_eq {t : Tr} (h : ∀ p ∈ varP t, 0 ≤ p.1 ∧ p.1 < 64) : keysS (mkK (visK t [])) = refVars t := by
  obtain ⟨a, b⟩ := visK_ok t [] List.nodup_nil
  have hs := upTo_sorted (fun n => decide (∃ p ∈ varP t, p.1 = n)) 64
  have hp : (visK t []).Perm (refVars t) := by
    refine (List.perm_ext_iff_of_nodup a (hs.imp fun h => by omega)).2 fun x => ?_
    rw [b x, mem_upTo, decide_eq_true_eq]
    simp only [List.not_mem_nil, false_or]
    exact ⟨fun ⟨p, hp, e⟩ => ⟨by have := h p hp; omega, p, hp, e⟩, fun h => h.2⟩
  rw [keys_mk, mergeSort_of_perm_i hp]
  refine List.mergeSort_of_pairwise ?_
  exact hs.imp fun h => by simp only [leI, decide_eq_true_eq]; omega
abbrev lx : Tr := .mk 6 0 0 []
abbrev lc : Tr := .mk 6 1 1 []
abbrev lnum : Tr := .mk 4 7 0 []
abbrev lsum : Tr := .mk 9 0 0 [lx, lnum]
abbrev lzero : Tr := .mk 9 3 0 [lx, .mk 4 0 0 []]
abbrev lchoice : Tr := .mk 29 0 0 [lc, lx, .mk 4 2 0 []]
abbrev llt : Tr := .mk 9 10 0 [lx, .mk 4 3 0 []]
abbrev lless : Tr := .mk 10 0 0 [llt]
theorem wx : Wt 0 lx := .var (by decide) (by decide) (.inl rfl)
theorem wsum : Wt 0 lsum := .word (by decide) (by decide) wx (.num (by decide) (by decide))
theorem wzero : Wt 0 lzero := .word (by decide) (by decide) wx (.num (by decide) (by decide))
theorem wchoice : Wt 0 lchoice := .cond (.var (by decide) (by decide) (.inr rfl)) wx (.num (by decide) (by decide))
theorem wless : Wt 1 lless := .not (.comp (by decide) (by decide) wx (.num (by decide) (by decide)))
theorem e1 : evalS [3] lsum = -6 := by decide
theorem e2 : evalS [3] lzero = 0 := by decide
theorem e3 : evalS [5, 1] lchoice = 5 := by decide
theorem e4 : evalS [5] lchoice = 2 := by decide
theorem e5 : evalS [19] lless = 1 := by decide
theorem e6 : validS lchoice = 0 := by decide
theorem e7 : validS (.mk 29 0 0 [lx, lx, lnum]) = -1 := by decide
theorem e8 : keysS (mkK (visK lchoice [])) = [0, 1] := by
  rw [vars_eq (by decide)]
  decide
theorem e9 : putS [lnum] lsum = .mk 9 0 0 [lnum, lnum] := by rfl
theorem e10 : cmpT (.mk 9 0 0 [lnum, lnum]) (.mk 9 0 0 [lnum, lnum]) = 0 := by decide
end Go.Proofs.YtomameefmobnlaaDoor
namespace Go.Proofs.YtomameefmobnlaaDoor
open Go
/-- The value of a variable is the same. -/
def goodAt (vals xs : List Int) (k : Int) : Prop := valAt xs k (k / 2) = valAt vals k (k / 2)
theorem valAt_set_ne {xs : List Int} {kk : Nat} {v j m : Int} (hj : 0 ≤ j) (h : j ≠ kk) : valAt (xs.set kk v) j m = valAt xs j m := by
  have : kk ≠ j.toNat := by omega
  have e : (xs.set kk v).getD j.toNat 0 = xs.getD j.toNat 0 := by simp only [List.getD, List.getElem?_set_ne this]
  unfold valAt
  rw [e]
theorem valAt_set {xs : List Int} {kk : Nat} (h : kk < xs.length) {v m : Int} : valAt (xs.set kk v) kk m = if m = 1 then (if v ≠ 0 then 1 else 0) else wrapS v := by
  unfold valAt
  simp only [Int.toNat_natCast, List.getD, List.getElem?_set_self h, Option.getD_some]
theorem valAt_get {xs : List Int} {kk : Nat} (h : kk < xs.length) {m : Int} : valAt xs kk m = if m = 1 then (if xs[kk] ≠ 0 then 1 else 0) else wrapS xs[kk] := by
  unfold valAt
  simp only [Int.toNat_natCast, List.getD, List.getElem?_eq_getElem h, Option.getD_some]
theorem good_word {vals xs : List Int} {kk : Nat} (hk : kk < 2) (h1 : vals.length = 4) (h2 : xs.length = 4) (b : Int) : goodAt vals (xs.set kk (vals[kk] + 16 * b)) kk := by
  unfold goodAt
  rw [valAt_set (by omega), valAt_get (by omega), if_neg (by omega), if_neg (by omega), wrapS_eq, wrapS_eq]
  omega
theorem good_truth {vals xs : List Int} {kk : Nat} (hk : 2 ≤ kk) (hk4 : kk < 4) (h1 : vals.length = 4) (h2 : xs.length = 4) {v : Int} (hv : v ≠ 0) (hv2 : vals[kk] ≠ 0) : goodAt vals (xs.set kk v) kk := by
  unfold goodAt
  rw [valAt_set (by omega), valAt_get (by omega), if_pos (by omega), if_pos hv, if_pos (by omega), if_pos hv2]
theorem good_same {vals xs : List Int} {kk : Nat} (hk4 : kk < 4) (h1 : vals.length = 4) (h2 : xs.length = 4) : goodAt vals (xs.set kk vals[kk]) kk := by
  unfold goodAt
  rw [valAt_set (by omega), valAt_get (by omega)]
/-- One more. -/
theorem good_step {vals xs : List Int} {vs : List Int} {i kk : Nat} (hi : i < vs.length) (hv : vs[i] = kk) (hp : ∀ k ∈ vs, 0 ≤ k) {v : Int} (hg : goodAt vals (xs.set kk v) kk) (h : ∀ k ∈ vs.take i, goodAt vals xs k) : ∀ k ∈ vs.take (i + 1), goodAt vals (xs.set kk v) k := by
  intro k hk
  by_cases e : k = kk
  · rw [e]; exact hg
  · rw [List.take_succ_eq_append_getElem hi, List.mem_append, List.mem_singleton] at hk
    rcases hk with hk | hk
    · have := h k hk
      unfold goodAt at this ⊢
      rw [valAt_set_ne (hp k (List.mem_of_mem_take hk)) e]
      exact this
    · exact absurd (hk.trans hv) e
theorem valuesS_length (n : Int) : (valuesS n).length = 4 := rfl
theorem valuesS_bound (n : Int) : ∀ x ∈ valuesS n, -8 ≤ x ∧ x ≤ 7 := by
  intro x hx
  have hb := aroundS_bound (n := n) (most := 1024) (by omega)
  unfold valuesS at hx
  generalize aroundS n 1024 = k at *
  obtain ⟨k, rfl⟩ := Int.eq_ofNat_of_zero_le hb.1
  have e1 : (k : Int).tdiv 16 = ((k / 16 : Nat) : Int) := by rw [Int.tdiv_eq_ediv_of_nonneg (by omega)]; omega
  have e2 : (k : Int).tdiv 256 = ((k / 256 : Nat) : Int) := by rw [Int.tdiv_eq_ediv_of_nonneg (by omega)]; omega
  have e3 : (k : Int).tdiv 512 = ((k / 512 : Nat) : Int) := by rw [Int.tdiv_eq_ediv_of_nonneg (by omega)]; omega
  rw [e1, e2, e3] at hx
  simp only [List.mem_cons, List.not_mem_nil, or_false] at hx
  rw [Int.tmod_eq_emod_of_nonneg (by omega), Int.tmod_eq_emod_of_nonneg (by omega), Int.tmod_eq_emod_of_nonneg (by omega)] at hx
  omega
theorem varsS_range {t : Tr} (h : VarOK t) : ∀ k ∈ keysS (mkK (visK t [])), 0 ≤ k ∧ k < 4 := by
  intro k hk
  rw [vars_eq (fun p hp => ⟨(h p hp).1, by have := (h p hp).2.1; omega⟩), refVars, mem_upTo, decide_eq_true_eq] at hk
  obtain ⟨_, p, hp, rfl⟩ := hk
  exact ⟨(h p hp).1, (h p hp).2.1⟩
theorem varsS_mem {t : Tr} (h : VarOK t) {p : Int × Int} (hp : p ∈ varP t) : p.1 ∈ keysS (mkK (visK t [])) := by
  rw [vars_eq (fun p hp => ⟨(h p hp).1, by have := (h p hp).2.1; omega⟩), refVars, mem_upTo, decide_eq_true_eq]
  exact ⟨⟨(h p hp).1, by have := (h p hp).2.1; omega⟩, p, hp, rfl⟩
/-- The same value. -/
theorem eval_good {k : Int} {t : Tr} (hw : Wt k t) (h : VarOK t) {vals xs : List Int} (hg : ∀ k ∈ keysS (mkK (visK t [])), goodAt vals xs k) : evalS vals t = evalS xs t := by
  refine eval_congr hw fun p hp => ?_
  have := hg p.1 (varsS_mem h hp)
  unfold goodAt at this
  rw [(h p hp).2.2]
  exact this.symm
end Go.Proofs.YtomameefmobnlaaDoor
namespace Go.Proofs.YtomameefmobnlaaDoor
open Go
mutual
theorem tsz_put (L : List Tr) (M : Nat) (hM : 1 ≤ M) (hL : ∀ x ∈ L, tsz x ≤ M) : ∀ t : Tr, tsz (putS L t) ≤ tsz t * M
  | .mk k n m l => by
    have hk := tsz_puts L M hM hL l
    rw [putS]
    by_cases k6 : k = 6
    · rw [if_pos k6]
      split
      · rename_i h
        have hd : tsz (L.getD n.toNat (.mk 0 0 0 [])) ≤ M := by
          by_cases hn : n.toNat < L.length
          · rw [show L.getD n.toNat (.mk 0 0 0 []) = L[n.toNat] from by simp [List.getD, hn]]
            exact hL _ (List.getElem_mem hn)
          · rw [show L.getD n.toNat (.mk 0 0 0 []) = .mk 0 0 0 [] from by simp [List.getD, List.getElem?_eq_none (Nat.le_of_not_lt hn)]]
            simp only [tsz, tszs]; omega
        refine Nat.le_trans hd ?_
        exact Nat.le_mul_of_pos_left M (tsz_pos _)
      · exact Nat.le_mul_of_pos_right _ hM
    · rw [if_neg k6, tsz, tsz, Nat.add_mul, Nat.one_mul]
      omega
theorem tsz_puts (L : List Tr) (M : Nat) (hM : 1 ≤ M) (hL : ∀ x ∈ L, tsz x ≤ M) : ∀ l : List Tr, tszs (putSs L l) ≤ tszs l * M
  | [] => by simp [putSs, tszs]
  | t :: l => by
    have h1 := tsz_put L M hM hL t
    have h2 := tsz_puts L M hM hL l
    rw [putSs, tszs, tszs, Nat.add_mul]
    omega
end
theorem tszs_le (M : Nat) : ∀ (L : List Tr), (∀ x ∈ L, tsz x ≤ M) → tszs L ≤ L.length * M
  | [], _ => by simp [tszs]
  | t :: L, h => by
    have h1 := h t (by simp)
    have h2 := tszs_le M L fun x hx => h x (by simp [hx])
    rw [tszs, List.length_cons, Nat.add_mul]
    omega
/-- What stands at a place of the changed values. -/
def pV (L : List Tr) (vals : List Int) (j : Nat) : Int := if j < L.length ∧ typeR (L.getD j (.mk 0 0 0 [])) = ((j / 2 : Nat) : Int) then evalS vals (L.getD j (.mk 0 0 0 [])) else vals.getD j 0
theorem put_value {k : Int} {t : Tr} (hw : Wt k t) (hok : VarOK t) (L : List Tr) (hL : ∀ x ∈ L, ∃ k, Wt k x ∧ VarOK x) (vals xs : List Int) (hx : ∀ j, j < 4 → xs.getD j 0 = pV L vals j) : evalS vals (putS L t) = evalS xs t := by
  refine eval_put hw L fun p hp => ?_
  obtain ⟨h0, h4, hm⟩ := hok p hp
  obtain ⟨n, m⟩ := p
  simp only at h0 h4 hm ⊢
  obtain ⟨j, rfl⟩ := Int.eq_ofNat_of_zero_le h0
  have hj : j < 4 := by omega
  have hxj := hx j hj
  have hm2 : m = ((j / 2 : Nat) : Int) := by omega
  rw [putS, if_pos rfl, Int.toNat_natCast]
  by_cases c : ((j : Int) < L.length ∧ validS (L.getD j (.mk 0 0 0 [])) = m)
  · rw [if_pos c]
    have hjl : j < L.length := by omega
    have hget : L.getD j (.mk 0 0 0 []) = L[j] := by simp [List.getD, hjl]
    obtain ⟨kk, hwt, hvo⟩ := hL L[j] (List.getElem_mem hjl)
    have hc2 := c.2
    rw [hget, valid_term hwt hvo] at hc2
    rw [pV, if_pos ⟨hjl, by rw [hget, hwt.type, hc2, hm2]⟩] at hxj
    have hr := eval_range hwt vals
    unfold valAt
    rw [Int.toNat_natCast, hxj, hget]
    by_cases h1 : m = 1
    · rw [if_pos h1]
      have := hr.2.2 (by omega)
      rcases this with h | h <;> rw [h] <;> decide
    · rw [if_neg h1, wrapS_id hr.1 hr.2.1]
  · rw [if_neg c]
    have e : evalS vals (.mk 6 (j : Int) m []) = valAt vals (j : Int) m := by simp [evalS]
    rw [e]
    have hxe : xs.getD j 0 = vals.getD j 0 := by
      rw [hxj, pV, if_neg]
      rintro ⟨hjl, ht⟩
      apply c
      have hget : L.getD j (.mk 0 0 0 []) = L[j] := by simp [List.getD, hjl]
      obtain ⟨kk, hwt, hvo⟩ := hL L[j] (List.getElem_mem hjl)
      rw [hget, hwt.type] at ht
      exact ⟨by omega, by rw [hget, valid_term hwt hvo, ht, hm2]⟩
    unfold valAt
    rw [Int.toNat_natCast, hxe]
theorem pV_step {L : List Tr} {vals xs : List Int} {i : Nat} (hx : ∀ j, j < 4 → xs.getD j 0 = if j < i then pV L vals j else vals.getD j 0) (hl : xs.length = 4) (hi : i < 4) : ∀ j, j < 4 → (xs.set i (pV L vals i)).getD j 0 = if j < i + 1 then pV L vals j else vals.getD j 0 := by
  intro j hj
  rcases Nat.decEq i j with e | e
  · have : (xs.set i (pV L vals i)).getD j 0 = xs.getD j 0 := by simp only [List.getD, List.getElem?_set_ne e]
    rw [this, hx j hj]
    by_cases h : j < i
    · rw [if_pos h, if_pos (by omega)]
    · rw [if_neg h, if_neg (by omega)]
  · subst e
    rw [if_pos (by omega)]
    simp only [List.getD, List.getElem?_set_self (show i < xs.length by omega), Option.getD_some]
theorem pV_skip {L : List Tr} {vals xs : List Int} {i : Nat} (hx : ∀ j, j < 4 → xs.getD j 0 = if j < i then pV L vals j else vals.getD j 0) (he : pV L vals i = vals.getD i 0) : ∀ j, j < 4 → xs.getD j 0 = if j < i + 1 then pV L vals j else vals.getD j 0 := by
  intro j hj
  rw [hx j hj]
  by_cases h : j < i
  · rw [if_pos h, if_pos (by omega)]
  · rw [if_neg h]
    by_cases h2 : j = i
    · subst h2; rw [if_pos (by omega), he]
    · rw [if_neg (by omega)]
theorem pV_end {L : List Tr} {vals xs : List Int} (hx : ∀ j, j < 4 → xs.getD j 0 = if j < L.length then pV L vals j else vals.getD j 0) : ∀ j, j < 4 → xs.getD j 0 = pV L vals j := by
  intro j hj
  rw [hx j hj]
  by_cases h : j < L.length
  · rw [if_pos h]
  · rw [if_neg h, pV, if_neg (fun hh => h hh.1)]
end Go.Proofs.YtomameefmobnlaaDoor
namespace Go.Proofs.YtomameefmobnlaaDoor
open Go
def isT (t : Tr) (c : Int) : Bool := (t.k == 4 || t.k == 5) && t.n == c
def smT (a b : Tr) : Bool := decide (cmpT a b = 0)
theorem smT_eq {a b : Tr} (h : smT a b = true) : a = b := (cmpT_zero a b).1 (of_decide_eq_true h)
abbrev opT (op : Int) (a b : Tr) : Tr := .mk 9 op 0 [a, b]
abbrev n0T : Tr := .mk 4 0 0 []
abbrev tT (c : Int) : Tr := .mk 5 c 0 []
/-- What is left of an operation whose kids are simple. -/
def binS (op : Int) (a b : Tr) : Tr :=
  if op = 0 then (if isT a 0 then b else if isT b 0 then a else opT 0 a b)
  else if op = 1 then (if isT b 0 then a else if smT a b then n0T else opT 1 a b)
  else if op = 2 then (if isT a 1 then b else if isT b 1 then a else if isT a 0 then n0T else if isT b 0 then n0T else opT 2 a b)
  else if op = 3 then (if isT b 1 then a else opT 3 a b)
  else if op = 4 then opT 4 a b
  else if op = 5 then (if isT a (-1) then b else if isT b (-1) then a else if isT a 0 then n0T else if isT b 0 then n0T else if smT a b then a else opT 5 a b)
  else if op = 6 then (if isT a 0 then b else if isT b 0 then a else if smT a b then a else opT 6 a b)
  else if op = 7 then (if isT a 0 then b else if isT b 0 then a else if smT a b then n0T else opT 7 a b)
  else if op = 8 then (if isT b 0 then a else opT 8 a b)
  else if op = 9 then (if isT b 0 then a else opT 9 a b)
  else if op = 10 then (if smT a b then tT 0 else opT 10 a b)
  else if op = 11 then (if smT a b then tT 1 else opT 11 a b)
  else if op = 12 then (if isT a 1 then b else if isT b 1 then a else if isT a 0 then tT 0 else if isT b 0 then tT 0 else if smT a b then a else opT 12 a b)
  else (if isT a 0 then b else if isT b 0 then a else if isT a 1 then tT 1 else if isT b 1 then tT 1 else if smT a b then a else opT 13 a b)
/-- What must hold of what takes a term's place. -/
structure Sim (k : Int) (t s : Tr) : Prop where
  wt : Wt k s
  sz : tsz s ≤ tsz t
  vars : ∀ p ∈ varP s, p ∈ varP t
  ev : ∀ vals, evalS vals s = evalS vals t
theorem Sim.refl {k : Int} {t : Tr} (h : Wt k t) : Sim k t t := ⟨h, Nat.le_refl _, fun _ h => h, fun _ => rfl⟩
theorem Sim.trans {k : Int} {a b c : Tr} (h : Sim k a b) (g : Sim k b c) : Sim k a c := ⟨g.wt, Nat.le_trans g.sz h.sz, fun p hp => h.vars p (g.vars p hp), fun v => (g.ev v).trans (h.ev v)⟩
theorem is_eval {k : Int} {a : Tr} (h : Wt k a) {c : Int} (hi : isT a c = true) (vals : List Int) : evalS vals a = c := by
  unfold isT at hi
  simp only [Bool.and_eq_true, Bool.or_eq_true, beq_iff_eq] at hi
  obtain ⟨hk, hn⟩ := hi
  cases h <;> simp only [Tr.k, Tr.n] at hk hn <;> first | omega | (subst hn; simp [evalS])
theorem op_eval (vals : List Int) (op : Int) (a b : Tr) : evalS vals (opT op a b) = opW op (wrapS (evalS vals a)) (wrapS (evalS vals b)) := by simp [evalS]
theorem op_left {op : Int} {a b : Tr} : tsz a ≤ tsz (opT op a b) ∧ (∀ p ∈ varP a, p ∈ varP (opT op a b)) := by
  refine ⟨by simp only [tsz, tszs]; omega, fun p hp => by simp [varP, varPs, hp]⟩
theorem op_right {op : Int} {a b : Tr} : tsz b ≤ tsz (opT op a b) ∧ (∀ p ∈ varP b, p ∈ varP (opT op a b)) := by
  refine ⟨by simp only [tsz, tszs]; omega, fun p hp => by simp [varP, varPs, hp]⟩
theorem words16 {P : Int → Prop} (h : ∀ i : Fin 16, P ((i : Nat) - 8 : Int)) {v : Int} (h1 : -8 ≤ v) (h2 : v ≤ 7) : P v := by
  have := h ⟨(v + 8).toNat, by omega⟩
  have e : (((⟨(v + 8).toNat, by omega⟩ : Fin 16) : Nat) - 8 : Int) = v := by simp; omega
  rwa [e] at this
theorem to_left {k : Int} {op : Int} {a b : Tr} (hw : Wt k a) (h : ∀ vals, opW op (wrapS (evalS vals a)) (wrapS (evalS vals b)) = evalS vals a) : Sim k (opT op a b) a := ⟨hw, op_left.1, op_left.2, fun v => by rw [op_eval, h]⟩
theorem to_right {k : Int} {op : Int} {a b : Tr} (hw : Wt k b) (h : ∀ vals, opW op (wrapS (evalS vals a)) (wrapS (evalS vals b)) = evalS vals b) : Sim k (opT op a b) b := ⟨hw, op_right.1, op_right.2, fun v => by rw [op_eval, h]⟩
theorem to_num {op : Int} {a b : Tr} (h : ∀ vals, opW op (wrapS (evalS vals a)) (wrapS (evalS vals b)) = 0) : Sim 0 (opT op a b) n0T := ⟨.num (by decide) (by decide), by simp only [tsz, tszs]; have := tsz_pos a; omega, fun p hp => by simp [varP, varPs] at hp, fun v => by rw [op_eval, h]; simp [evalS]⟩
theorem to_truth {op c : Int} {a b : Tr} (hc : c = 0 ∨ c = 1) (h : ∀ vals, opW op (wrapS (evalS vals a)) (wrapS (evalS vals b)) = c) : Sim 1 (opT op a b) (tT c) := ⟨.truth (by omega) (by omega), by simp only [tsz, tszs]; have := tsz_pos a; omega, fun p hp => by simp [varP, varPs] at hp, fun v => by rw [op_eval, h]; simp [evalS]⟩
theorem bin_word {op : Int} {a b : Tr} (h1 : 0 ≤ op) (h2 : op ≤ 9) (ha : Wt 0 a) (hb : Wt 0 b) : Sim 0 (opT op a b) (binS op a b) := by
  have hw : Wt 0 (opT op a b) := .word h1 h2 ha hb
  obtain rfl | rfl | rfl | rfl | rfl | rfl | rfl | rfl | rfl | rfl : op = 0 ∨ op = 1 ∨ op = 2 ∨ op = 3 ∨ op = 4 ∨ op = 5 ∨ op = 6 ∨ op = 7 ∨ op = 8 ∨ op = 9 := by omega
  · show Sim 0 _ (if isT a 0 then b else if isT b 0 then a else opT 0 a b)
    by_cases c1 : isT a 0 = true
    · rw [if_pos c1]
      refine to_right hb fun vals => ?_
      have rb := eval_range hb vals
      rw [is_eval ha c1 vals]
      exact words16 (P := fun v => opW 0 (wrapS 0) (wrapS v) = v) (by decide) rb.1 rb.2.1
    rw [if_neg c1]
    by_cases c1 : isT b 0 = true
    · rw [if_pos c1]
      refine to_left ha fun vals => ?_
      have ra := eval_range ha vals
      rw [is_eval hb c1 vals]
      exact words16 (P := fun v => opW 0 (wrapS v) (wrapS 0) = v) (by decide) ra.1 ra.2.1
    rw [if_neg c1]
    exact .refl hw
  · show Sim 0 _ (if isT b 0 then a else if smT a b then n0T else opT 1 a b)
    by_cases c1 : isT b 0 = true
    · rw [if_pos c1]
      refine to_left ha fun vals => ?_
      have ra := eval_range ha vals
      rw [is_eval hb c1 vals]
      exact words16 (P := fun v => opW 1 (wrapS v) (wrapS 0) = v) (by decide) ra.1 ra.2.1
    rw [if_neg c1]
    by_cases c1 : smT a b = true
    · rw [if_pos c1]
      obtain rfl := smT_eq c1
      refine to_num fun vals => ?_
      have ra := eval_range ha vals
      exact words16 (P := fun v => opW 1 (wrapS v) (wrapS v) = 0) (by decide) ra.1 ra.2.1
    rw [if_neg c1]
    exact .refl hw
  · show Sim 0 _ (if isT a 1 then b else if isT b 1 then a else if isT a 0 then n0T else if isT b 0 then n0T else opT 2 a b)
    by_cases c1 : isT a 1 = true
    · rw [if_pos c1]
      refine to_right hb fun vals => ?_
      have rb := eval_range hb vals
      rw [is_eval ha c1 vals]
      exact words16 (P := fun v => opW 2 (wrapS 1) (wrapS v) = v) (by decide) rb.1 rb.2.1
    rw [if_neg c1]
    by_cases c1 : isT b 1 = true
    · rw [if_pos c1]
      refine to_left ha fun vals => ?_
      have ra := eval_range ha vals
      rw [is_eval hb c1 vals]
      exact words16 (P := fun v => opW 2 (wrapS v) (wrapS 1) = v) (by decide) ra.1 ra.2.1
    rw [if_neg c1]
    by_cases c1 : isT a 0 = true
    · rw [if_pos c1]
      refine to_num fun vals => ?_
      have rb := eval_range hb vals
      rw [is_eval ha c1 vals]
      exact words16 (P := fun v => opW 2 (wrapS 0) (wrapS v) = 0) (by decide) rb.1 rb.2.1
    rw [if_neg c1]
    by_cases c1 : isT b 0 = true
    · rw [if_pos c1]
      refine to_num fun vals => ?_
      have ra := eval_range ha vals
      rw [is_eval hb c1 vals]
      exact words16 (P := fun v => opW 2 (wrapS v) (wrapS 0) = 0) (by decide) ra.1 ra.2.1
    rw [if_neg c1]
    exact .refl hw
  · show Sim 0 _ (if isT b 1 then a else opT 3 a b)
    by_cases c1 : isT b 1 = true
    · rw [if_pos c1]
      refine to_left ha fun vals => ?_
      have ra := eval_range ha vals
      rw [is_eval hb c1 vals]
      exact words16 (P := fun v => opW 3 (wrapS v) (wrapS 1) = v) (by decide) ra.1 ra.2.1
    rw [if_neg c1]
    exact .refl hw
  · show Sim 0 _ (opT 4 a b)
    exact .refl hw
  · show Sim 0 _ (if isT a (-1) then b else if isT b (-1) then a else if isT a 0 then n0T else if isT b 0 then n0T else if smT a b then a else opT 5 a b)
    by_cases c1 : isT a (-1) = true
    · rw [if_pos c1]
      refine to_right hb fun vals => ?_
      have rb := eval_range hb vals
      rw [is_eval ha c1 vals]
      exact words16 (P := fun v => opW 5 (wrapS (-1)) (wrapS v) = v) (by decide) rb.1 rb.2.1
    rw [if_neg c1]
    by_cases c1 : isT b (-1) = true
    · rw [if_pos c1]
      refine to_left ha fun vals => ?_
      have ra := eval_range ha vals
      rw [is_eval hb c1 vals]
      exact words16 (P := fun v => opW 5 (wrapS v) (wrapS (-1)) = v) (by decide) ra.1 ra.2.1
    rw [if_neg c1]
    by_cases c1 : isT a 0 = true
    · rw [if_pos c1]
      refine to_num fun vals => ?_
      have rb := eval_range hb vals
      rw [is_eval ha c1 vals]
      exact words16 (P := fun v => opW 5 (wrapS 0) (wrapS v) = 0) (by decide) rb.1 rb.2.1
    rw [if_neg c1]
    by_cases c1 : isT b 0 = true
    · rw [if_pos c1]
      refine to_num fun vals => ?_
      have ra := eval_range ha vals
      rw [is_eval hb c1 vals]
      exact words16 (P := fun v => opW 5 (wrapS v) (wrapS 0) = 0) (by decide) ra.1 ra.2.1
    rw [if_neg c1]
    by_cases c1 : smT a b = true
    · rw [if_pos c1]
      obtain rfl := smT_eq c1
      refine to_left ha fun vals => ?_
      have ra := eval_range ha vals
      exact words16 (P := fun v => opW 5 (wrapS v) (wrapS v) = v) (by decide) ra.1 ra.2.1
    rw [if_neg c1]
    exact .refl hw
  · show Sim 0 _ (if isT a 0 then b else if isT b 0 then a else if smT a b then a else opT 6 a b)
    by_cases c1 : isT a 0 = true
    · rw [if_pos c1]
      refine to_right hb fun vals => ?_
      have rb := eval_range hb vals
      rw [is_eval ha c1 vals]
      exact words16 (P := fun v => opW 6 (wrapS 0) (wrapS v) = v) (by decide) rb.1 rb.2.1
    rw [if_neg c1]
    by_cases c1 : isT b 0 = true
    · rw [if_pos c1]
      refine to_left ha fun vals => ?_
      have ra := eval_range ha vals
      rw [is_eval hb c1 vals]
      exact words16 (P := fun v => opW 6 (wrapS v) (wrapS 0) = v) (by decide) ra.1 ra.2.1
    rw [if_neg c1]
    by_cases c1 : smT a b = true
    · rw [if_pos c1]
      obtain rfl := smT_eq c1
      refine to_left ha fun vals => ?_
      have ra := eval_range ha vals
      exact words16 (P := fun v => opW 6 (wrapS v) (wrapS v) = v) (by decide) ra.1 ra.2.1
    rw [if_neg c1]
    exact .refl hw
  · show Sim 0 _ (if isT a 0 then b else if isT b 0 then a else if smT a b then n0T else opT 7 a b)
    by_cases c1 : isT a 0 = true
    · rw [if_pos c1]
      refine to_right hb fun vals => ?_
      have rb := eval_range hb vals
      rw [is_eval ha c1 vals]
      exact words16 (P := fun v => opW 7 (wrapS 0) (wrapS v) = v) (by decide) rb.1 rb.2.1
    rw [if_neg c1]
    by_cases c1 : isT b 0 = true
    · rw [if_pos c1]
      refine to_left ha fun vals => ?_
      have ra := eval_range ha vals
      rw [is_eval hb c1 vals]
      exact words16 (P := fun v => opW 7 (wrapS v) (wrapS 0) = v) (by decide) ra.1 ra.2.1
    rw [if_neg c1]
    by_cases c1 : smT a b = true
    · rw [if_pos c1]
      obtain rfl := smT_eq c1
      refine to_num fun vals => ?_
      have ra := eval_range ha vals
      exact words16 (P := fun v => opW 7 (wrapS v) (wrapS v) = 0) (by decide) ra.1 ra.2.1
    rw [if_neg c1]
    exact .refl hw
  · show Sim 0 _ (if isT b 0 then a else opT 8 a b)
    by_cases c1 : isT b 0 = true
    · rw [if_pos c1]
      refine to_left ha fun vals => ?_
      have ra := eval_range ha vals
      rw [is_eval hb c1 vals]
      exact words16 (P := fun v => opW 8 (wrapS v) (wrapS 0) = v) (by decide) ra.1 ra.2.1
    rw [if_neg c1]
    exact .refl hw
  · show Sim 0 _ (if isT b 0 then a else opT 9 a b)
    by_cases c1 : isT b 0 = true
    · rw [if_pos c1]
      refine to_left ha fun vals => ?_
      have ra := eval_range ha vals
      rw [is_eval hb c1 vals]
      exact words16 (P := fun v => opW 9 (wrapS v) (wrapS 0) = v) (by decide) ra.1 ra.2.1
    rw [if_neg c1]
    exact .refl hw
theorem bin_comp {op : Int} {a b : Tr} (h1 : 10 ≤ op) (h2 : op ≤ 11) (ha : Wt 0 a) (hb : Wt 0 b) : Sim 1 (opT op a b) (binS op a b) := by
  have hw : Wt 1 (opT op a b) := .comp h1 h2 ha hb
  obtain rfl | rfl : op = 10 ∨ op = 11 := by omega
  · show Sim 1 _ (if smT a b then tT 0 else opT 10 a b)
    by_cases c1 : smT a b = true
    · rw [if_pos c1]
      obtain rfl := smT_eq c1
      refine to_truth (.inl rfl) fun vals => ?_
      have ra := eval_range ha vals
      exact words16 (P := fun v => opW 10 (wrapS v) (wrapS v) = 0) (by decide) ra.1 ra.2.1
    rw [if_neg c1]
    exact .refl hw
  · show Sim 1 _ (if smT a b then tT 1 else opT 11 a b)
    by_cases c1 : smT a b = true
    · rw [if_pos c1]
      obtain rfl := smT_eq c1
      refine to_truth (.inr rfl) fun vals => ?_
      have ra := eval_range ha vals
      exact words16 (P := fun v => opW 11 (wrapS v) (wrapS v) = 1) (by decide) ra.1 ra.2.1
    rw [if_neg c1]
    exact .refl hw
theorem bin_both {op : Int} {a b : Tr} (h1 : 12 ≤ op) (h2 : op ≤ 13) (ha : Wt 1 a) (hb : Wt 1 b) : Sim 1 (opT op a b) (binS op a b) := by
  have hw : Wt 1 (opT op a b) := .both h1 h2 ha hb
  obtain rfl | rfl : op = 12 ∨ op = 13 := by omega
  · show Sim 1 _ (if isT a 1 then b else if isT b 1 then a else if isT a 0 then tT 0 else if isT b 0 then tT 0 else if smT a b then a else opT 12 a b)
    by_cases c1 : isT a 1 = true
    · rw [if_pos c1]
      refine to_right hb fun vals => ?_
      have rb := eval_range hb vals
      rw [is_eval ha c1 vals]
      rcases rb.2.2 rfl with h | h <;> rw [h] <;> decide
    rw [if_neg c1]
    by_cases c1 : isT b 1 = true
    · rw [if_pos c1]
      refine to_left ha fun vals => ?_
      have ra := eval_range ha vals
      rw [is_eval hb c1 vals]
      rcases ra.2.2 rfl with h | h <;> rw [h] <;> decide
    rw [if_neg c1]
    by_cases c1 : isT a 0 = true
    · rw [if_pos c1]
      refine to_truth (.inl rfl) fun vals => ?_
      have rb := eval_range hb vals
      rw [is_eval ha c1 vals]
      rcases rb.2.2 rfl with h | h <;> rw [h] <;> decide
    rw [if_neg c1]
    by_cases c1 : isT b 0 = true
    · rw [if_pos c1]
      refine to_truth (.inl rfl) fun vals => ?_
      have ra := eval_range ha vals
      rw [is_eval hb c1 vals]
      rcases ra.2.2 rfl with h | h <;> rw [h] <;> decide
    rw [if_neg c1]
    by_cases c1 : smT a b = true
    · rw [if_pos c1]
      obtain rfl := smT_eq c1
      refine to_left ha fun vals => ?_
      have ra := eval_range ha vals
      rcases ra.2.2 rfl with h | h <;> rw [h] <;> decide
    rw [if_neg c1]
    exact .refl hw
  · show Sim 1 _ (if isT a 0 then b else if isT b 0 then a else if isT a 1 then tT 1 else if isT b 1 then tT 1 else if smT a b then a else opT 13 a b)
    by_cases c1 : isT a 0 = true
    · rw [if_pos c1]
      refine to_right hb fun vals => ?_
      have rb := eval_range hb vals
      rw [is_eval ha c1 vals]
      rcases rb.2.2 rfl with h | h <;> rw [h] <;> decide
    rw [if_neg c1]
    by_cases c1 : isT b 0 = true
    · rw [if_pos c1]
      refine to_left ha fun vals => ?_
      have ra := eval_range ha vals
      rw [is_eval hb c1 vals]
      rcases ra.2.2 rfl with h | h <;> rw [h] <;> decide
    rw [if_neg c1]
    by_cases c1 : isT a 1 = true
    · rw [if_pos c1]
      refine to_truth (.inr rfl) fun vals => ?_
      have rb := eval_range hb vals
      rw [is_eval ha c1 vals]
      rcases rb.2.2 rfl with h | h <;> rw [h] <;> decide
    rw [if_neg c1]
    by_cases c1 : isT b 1 = true
    · rw [if_pos c1]
      refine to_truth (.inr rfl) fun vals => ?_
      have ra := eval_range ha vals
      rw [is_eval hb c1 vals]
      rcases ra.2.2 rfl with h | h <;> rw [h] <;> decide
    rw [if_neg c1]
    by_cases c1 : smT a b = true
    · rw [if_pos c1]
      obtain rfl := smT_eq c1
      refine to_left ha fun vals => ?_
      have ra := eval_range ha vals
      rcases ra.2.2 rfl with h | h <;> rw [h] <;> decide
    rw [if_neg c1]
    exact .refl hw
end Go.Proofs.YtomameefmobnlaaDoor
namespace Go.Proofs.YtomameefmobnlaaDoor
open Go
theorem not_eval (vals : List Int) (a : Tr) : evalS vals (.mk 10 0 0 [a]) = if evalS vals a = 1 then 0 else 1 := by simp [evalS]
theorem cond_eval (vals : List Int) (c a b : Tr) : evalS vals (.mk 29 0 0 [c, a, b]) = if evalS vals c = 1 then evalS vals a else evalS vals b := by simp [evalS]
theorem sim_op {k ka op : Int} {a b a' b' : Tr} (hw : ∀ x y, Wt ka x → Wt ka y → Wt k (opT op x y)) (ha : Sim ka a a') (hb : Sim ka b b') : Sim k (opT op a b) (opT op a' b') := by
  refine ⟨hw _ _ ha.wt hb.wt, ?_, ?_, ?_⟩
  · have := ha.sz; have := hb.sz; simp only [tsz, tszs]; omega
  · intro p hp
    simp [varP, varPs] at hp ⊢
    exact hp.imp (ha.vars p) (hb.vars p)
  · intro v; rw [op_eval, op_eval, ha.ev, hb.ev]
theorem sim_not {a a' : Tr} (ha : Sim 1 a a') : Sim 1 (.mk 10 0 0 [a]) (.mk 10 0 0 [a']) := by
  refine ⟨.not ha.wt, ?_, ?_, ?_⟩
  · have := ha.sz; simp only [tsz, tszs]; omega
  · intro p hp
    simp [varP, varPs] at hp ⊢
    exact ha.vars p hp
  · intro v; rw [not_eval, not_eval, ha.ev]
theorem sim_cond {k : Int} {c a b c' a' b' : Tr} (hc : Sim 1 c c') (ha : Sim k a a') (hb : Sim k b b') : Sim k (.mk 29 0 0 [c, a, b]) (.mk 29 0 0 [c', a', b']) := by
  refine ⟨.cond hc.wt ha.wt hb.wt, ?_, ?_, ?_⟩
  · have := hc.sz; have := ha.sz; have := hb.sz; simp only [tsz, tszs]; omega
  · intro p hp
    simp [varP, varPs] at hp ⊢
    exact hp.imp (hc.vars p) (Or.imp (ha.vars p) (hb.vars p))
  · intro v; rw [cond_eval, cond_eval, hc.ev, ha.ev, hb.ev]
theorem sim_con {k : Int} {t t' : Tr} (h : Sim k t t') (hv : varP t' = []) : Sim k t (.mk (4 + k) (evalS [] t') 0 []) := by
  have hr := eval_range h.wt []
  have he : ∀ v, evalS v t' = evalS [] t' := fun v => eval_congr h.wt (by rw [hv]; intro p hp; cases hp)
  have hk := h.wt.kind
  generalize evalS [] t' = c at *
  have hw : Wt k (.mk (4 + k) c 0 []) := by
    rcases hk with rfl | rfl
    · exact .num hr.1 hr.2.1
    · have := hr.2.2 rfl
      exact .truth (by omega) (by omega)
  refine ⟨hw, ?_, ?_, ?_⟩
  · have := tsz_pos t; simp only [tsz, tszs]; omega
  · intro p hp
    have : k ≠ 2 := by omega
    rcases hk with rfl | rfl <;> simp [varP, varPs] at hp
  · intro v
    rw [← h.ev, he]
    rcases hk with rfl | rfl <;> simp [evalS]
theorem con_none {k : Int} {t : Tr} (h : Wt k t) (hc : (t.k == 4 || t.k == 5) = true) : varP t = [] := by
  cases h <;> simp [Tr.k] at hc <;> simp [varP, varPs]
theorem not_not {a : Tr} (h : Wt 1 a) : Sim 1 (.mk 10 0 0 [.mk 10 0 0 [a]]) a := by
  refine ⟨h, ?_, ?_, ?_⟩
  · simp only [tsz, tszs]; omega
  · intro p hp; simp [varP, varPs]; exact hp
  · intro v
    rw [not_eval, not_eval]
    have := (eval_range h v).2.2 rfl
    rcases this with h | h <;> rw [h] <;> simp
theorem kind_not {k : Int} {a : Tr} (h : Wt k a) (h10 : a.k = 10) : k = 1 ∧ ∃ b, a = .mk 10 0 0 [b] ∧ Wt 1 b := by
  cases h <;> simp [Tr.k] at h10
  exact ⟨rfl, _, rfl, by assumption⟩
theorem con_truth {a : Tr} (h : Wt 1 a) (hc : (a.k == 4 || a.k == 5) = true) : a = .mk 5 0 0 [] ∨ a = .mk 5 1 0 [] := by
  cases h with
  | truth h1 h2 => rename_i n; rcases (show n = 0 ∨ n = 1 by omega) with rfl | rfl <;> simp
  | var => simp [Tr.k] at hc
  | comp => simp [Tr.k] at hc
  | both => simp [Tr.k] at hc
  | not => simp [Tr.k] at hc
  | cond => simp [Tr.k] at hc
theorem cond_0 {k : Int} {a b : Tr} (hb : Wt k b) : Sim k (.mk 29 0 0 [.mk 5 0 0 [], a, b]) b := by
  refine ⟨hb, ?_, ?_, ?_⟩
  · simp only [tsz, tszs]; omega
  · intro p hp; simp [varP, varPs, hp]
  · intro v; rw [cond_eval]; simp [evalS]
theorem cond_1 {k : Int} {a b : Tr} (ha : Wt k a) : Sim k (.mk 29 0 0 [.mk 5 1 0 [], a, b]) a := by
  refine ⟨ha, ?_, ?_, ?_⟩
  · simp only [tsz, tszs]; omega
  · intro p hp; simp [varP, varPs, hp]
  · intro v; rw [cond_eval]; simp [evalS]
theorem cond_same {k : Int} {c a : Tr} (ha : Wt k a) : Sim k (.mk 29 0 0 [c, a, a]) a := by
  refine ⟨ha, ?_, ?_, ?_⟩
  · simp only [tsz, tszs]; omega
  · intro p hp; simp [varP, varPs, hp]
  · intro v; rw [cond_eval]; split <;> rfl
theorem cond_not {k : Int} {c a b : Tr} (hc : Wt 1 c) (ha : Wt k a) (hb : Wt k b) : Sim k (.mk 29 0 0 [.mk 10 0 0 [c], a, b]) (.mk 29 0 0 [c, b, a]) := by
  refine ⟨.cond hc hb ha, ?_, ?_, ?_⟩
  · simp only [tsz, tszs]; omega
  · intro p hp; simp [varP, varPs] at hp ⊢; exact hp.imp id Or.symm
  · intro v
    rw [cond_eval, cond_eval, not_eval]
    have := (eval_range hc v).2.2 rfl
    rcases this with h | h <;> rw [h] <;> simp
theorem cond_self {k : Int} {c a b : Tr} (hc : Wt 1 c) (ha : Wt k a) (hb : Wt k b) (h5 : a.k = 5) (h1 : isT a 1 = true) (h0 : isT b 0 = true) : Sim k (.mk 29 0 0 [c, a, b]) c := by
  have hk : k = 1 := by cases ha <;> simp [Tr.k] at h5; rfl
  subst hk
  refine ⟨hc, ?_, ?_, ?_⟩
  · simp only [tsz, tszs]; omega
  · intro p hp; simp [varP, varPs, hp]
  · intro v
    rw [cond_eval, is_eval ha h1, is_eval hb h0]
    have := (eval_range hc v).2.2 rfl
    rcases this with h | h <;> rw [h] <;> simp
theorem validS_none {k : Int} {t : Tr} (h : Wt k t) (hv : varP t = []) : validS t = k := valid_term h (by intro p hp; rw [hv] at hp; cases hp)
end Go.Proofs.YtomameefmobnlaaDoor
namespace Go.Proofs.YtomameefmobnlaaDoor
open Go
def words : List Int := [-8, -7, -6, -5, -4, -3, -2, -1, 0, 1, 2, 3, 4, 5, 6, 7]
theorem mem_words {a : Int} (h1 : -8 ≤ a) (h2 : a ≤ 7) : a ∈ words := by
  unfold words
  simp only [List.mem_cons, List.not_mem_nil, or_false]
  omega
theorem and15 (n : Int) : andI .i64 n 15 = n % 16 := by
  have h : (BitVec.ofInt (IntKind.bits .i64) n &&& BitVec.ofInt (IntKind.bits .i64) 15).toNat = (n % 16).toNat := by
    rw [BitVec.toNat_and]
    show (BitVec.ofInt 64 n).toNat &&& (BitVec.ofInt 64 15).toNat = _
    rw [BitVec.toNat_ofInt, BitVec.toNat_ofInt, show ((15 : Int) % ((2 ^ 64 : Nat) : Int)).toNat = 2 ^ 4 - 1 from by decide, Nat.and_two_pow_sub_one_eq_mod]
    omega
  rw [andI, h, wrapI (by omega)]
  omega
theorem and_words : ∀ a ∈ words, ∀ b ∈ words, wrapS (andI .i64 a b) = wrapS ((bitsW a &&& bitsW b : Nat) : Int) := by decide +kernel
theorem or_words : ∀ a ∈ words, ∀ b ∈ words, wrapS (orI .i64 a b) = wrapS ((bitsW a ||| bitsW b : Nat) : Int) := by decide +kernel
theorem xor_words : ∀ a ∈ words, ∀ b ∈ words, wrapS (xorI .i64 a b) = wrapS ((bitsW a ^^^ bitsW b : Nat) : Int) := by decide +kernel
theorem small_words : ∀ a ∈ words, ∀ b ∈ words, -8 ≤ andI .i64 a b ∧ andI .i64 a b ≤ 7 ∧ -8 ≤ orI .i64 a b ∧ orI .i64 a b ≤ 7 ∧ -8 ≤ xorI .i64 a b ∧ xorI .i64 a b ≤ 7 := by decide +kernel
/-- The reference's loop over four bits. -/
def bitwL (one two both : Bool) : Nat → Nat → Nat → Nat → Nat → Nat
  | 0, _, _, sum, _ => sum
  | i + 1, x, y, sum, v => bitwL one two both i (x / 2) (y / 2) (if (x % 2 == 1 && y % 2 == 1 && both) || (x % 2 == 1 && !(y % 2 == 1) && one) || (!(x % 2 == 1) && y % 2 == 1 && two) then sum + v else sum) (v * 2)
def bitwS (a b : Int) (one two both : Bool) : Int := wrapS (bitwL one two both 4 (bitsW a) (bitsW b) 0 1 : Nat)
theorem bitw_and : ∀ a ∈ words, ∀ b ∈ words, bitwS a b false false true = opW 5 a b := by decide +kernel
theorem bitw_or : ∀ a ∈ words, ∀ b ∈ words, bitwS a b true true true = opW 6 a b := by decide +kernel
theorem bitw_xor : ∀ a ∈ words, ∀ b ∈ words, bitwS a b true true false = opW 7 a b := by decide +kernel
def halvS : Nat → Int → Int
  | 0, a => a
  | n + 1, a => halvS n (if a < 0 then -((1 - a).tdiv 2) else a.tdiv 2)
def dblS : Nat → Int → Int
  | 0, a => a
  | n + 1, a => dblS n (wrapS (a + a))
theorem halv_words : ∀ a ∈ words, ∀ b ∈ words, halvS (bitsW b % 4) a = opW 9 a b := by decide +kernel
theorem dbl_words : ∀ a ∈ words, ∀ b ∈ words, dblS (bitsW b % 4) a = opW 8 a b := by decide +kernel
end Go.Proofs.YtomameefmobnlaaDoor
namespace Go.Proofs.YtomameefmobnlaaDoor
open Go Go.RowKit

attribute [local irreducible] EvOps EvC
attribute [local go_sem] List.getElem?_toArray getS List.flatten_cons List.flatten_nil List.contains_nil and15
set_option linter.unusedSimpArgs false
set_option linter.unusedVariables false
set_option maxRecDepth 100000
set_option maxHeartbeats 4000000
theorem bitsW_eq (b : Int) : ((bitsW b : Nat) : Int) = b % 16 := by
  unfold bitsW
  have := wrapS_eq b
  omega
theorem wWrap_ev (n : Int) (hn : Big n) (sto : Sto) (lo : Nat) (hlo : lo ≤ sto.length) : CallEv Tryd.prog tab B0 22 [.v (VI n)] sto lo (.v (VI (wrapS n))) sto := by
  obtain ⟨hn1, hn2⟩ := hn
  rw [wrapS_eq]
  by_cases c : n % 16 > 7
  · rw [show (n + 8) % 16 - 8 = n % 16 - 16 from by omega]
    refine CallEv.intro ⟨_, _, [], Tryd.func22, rfl, by decide, ?_⟩; simp only [go_sem, Tryd.ntmps22]
    repeat' (first | (refine go ⟨?_⟩) | (fail) | ((first | (refine bsp ?_ ?_) | (refine csp ?_ ?_)); all_goals (intro hb; (fail_if_success (cases hb; done)); (try simp only [decide_eq_true_eq, decide_eq_false_iff_not, beq_iff_eq, bne_iff_ne, ne_eq, beq_eq_false_iff_ne, bne_eq_false_iff_eq, Bool.not_eq_true', Bool.not_eq_false', Bool.and_eq_true, Bool.or_eq_true, Decidable.not_not] at hb); (try simp only [go_sem]))))
    refine ⟨by first | exact .inr rfl | exact .inl rfl, .inl ⟨[], _, (by dsimp only [Tryd.f22]; exact sv), ?_, by simp⟩⟩
    rfl
  · rw [show (n + 8) % 16 - 8 = n % 16 from by omega]
    refine CallEv.intro ⟨_, _, [], Tryd.func22, rfl, by decide, ?_⟩; simp only [go_sem, Tryd.ntmps22]
    repeat' (first | (refine go ⟨?_⟩) | (fail) | ((first | (refine bsp ?_ ?_) | (refine csp ?_ ?_)); all_goals (intro hb; (fail_if_success (cases hb; done)); (try simp only [decide_eq_true_eq, decide_eq_false_iff_not, beq_iff_eq, bne_iff_ne, ne_eq, beq_eq_false_iff_ne, bne_eq_false_iff_eq, Bool.not_eq_true', Bool.not_eq_false', Bool.and_eq_true, Bool.or_eq_true, Decidable.not_not] at hb); (try simp only [go_sem]))))
    refine ⟨by first | exact .inr rfl | exact .inl rfl, .inl ⟨[], _, (by dsimp only [Tryd.f22]; exact sv), ?_, by simp⟩⟩
    rfl
theorem wBits_ev (n : Int) (hn : Big n) (sto : Sto) (lo : Nat) (hlo : lo ≤ sto.length) : CallEv Tryd.prog tab B0 135 [.v (VI n)] sto lo (.v (VI (bitsW n))) sto := by
  rw [bitsW_eq]
  refine CallEv.intro ⟨_, _, [], Tryd.func135, rfl, by decide, ?_⟩; simp only [go_sem, Tryd.ntmps135]
  repeat' (first | (refine go ⟨?_⟩) | (fail) | ((first | (refine bsp ?_ ?_) | (refine csp ?_ ?_)); all_goals (intro hb; (fail_if_success (cases hb; done)); (try simp only [decide_eq_true_eq, decide_eq_false_iff_not, beq_iff_eq, bne_iff_ne, ne_eq, beq_eq_false_iff_ne, bne_eq_false_iff_eq, Bool.not_eq_true', Bool.not_eq_false', Bool.and_eq_true, Bool.or_eq_true, Decidable.not_not] at hb); (try simp only [go_sem]))))
  refine ⟨by first | exact .inr rfl | exact .inl rfl, .inl ⟨[], _, (by dsimp only [Tryd.f135]; exact sv), ?_, by simp⟩⟩
  rfl
theorem wShift_ev (n : Int) (hn : Big n) (sto : Sto) (lo : Nat) (hlo : lo ≤ sto.length) : CallEv Tryd.prog tab B0 128 [.v (VI n)] sto lo (.v (VU (bitsW n % 4))) sto := by
  have hb := fun sto lo hlo => wBits_ev n hn sto lo hlo
  have h16 : bitsW n < 16 := by have := bitsW_eq n; omega
  generalize bitsW n = w at *
  have e : ((w : Int)).tmod 4 = ((w % 4 : Nat) : Int) := by rw [Int.tmod_eq_emod_of_nonneg (by omega)]; omega
  refine CallEv.intro ⟨_, _, [], Tryd.func128, rfl, by decide, ?_⟩; simp only [go_sem, Tryd.ntmps128]
  repeat' (first | (refine go ⟨?_⟩) | (((refine call ?_); (refine ⟨_, hb _ _ (by first | omega | (simp; done) | (simp; omega)), ?_⟩); (try simp only [go_sem]))) | ((first | (refine bsp ?_ ?_) | (refine csp ?_ ?_)); all_goals (intro hb; (fail_if_success (cases hb; done)); (try simp only [decide_eq_true_eq, decide_eq_false_iff_not, beq_iff_eq, bne_iff_ne, ne_eq, beq_eq_false_iff_ne, bne_eq_false_iff_eq, Bool.not_eq_true', Bool.not_eq_false', Bool.and_eq_true, Bool.or_eq_true, Decidable.not_not] at hb); (try simp only [go_sem]))))
  refine ⟨by first | exact .inr rfl | exact .inl rfl, .inl ⟨[], _, (by dsimp only [Tryd.f128]; exact sv), ?_, by simp⟩⟩
  rw [e]
theorem wNumber_ev (b : Bool) (sto : Sto) (lo : Nat) (hlo : lo ≤ sto.length) : CallEv Tryd.prog tab B0 131 [.v (.bool b)] sto lo (.v (VI (if b then 1 else 0))) sto := by
  cases b
  all_goals
    refine CallEv.intro ⟨_, _, [], Tryd.func131, rfl, by decide, ?_⟩; simp only [go_sem, Tryd.ntmps131]
    repeat' (first | (refine go ⟨?_⟩) | (fail) | ((first | (refine bsp ?_ ?_) | (refine csp ?_ ?_)); all_goals (intro hb; (fail_if_success (cases hb; done)); (try simp only [decide_eq_true_eq, decide_eq_false_iff_not, beq_iff_eq, bne_iff_ne, ne_eq, beq_eq_false_iff_ne, bne_eq_false_iff_eq, Bool.not_eq_true', Bool.not_eq_false', Bool.and_eq_true, Bool.or_eq_true, Decidable.not_not] at hb); (try simp only [go_sem]))))
    refine ⟨by first | exact .inr rfl | exact .inl rfl, .inl ⟨[], _, (by dsimp only [Tryd.f131]; exact sv), ?_, by simp⟩⟩
    rfl
theorem mul_small {a b : Int} (ha : Wd a) (hb : Wd b) : -64 ≤ a * b ∧ a * b ≤ 64 := by
  have h : ∀ a ∈ words, ∀ b ∈ words, -64 ≤ a * b ∧ a * b ≤ 64 := by decide +kernel
  exact h a (mem_words ha.1 ha.2) b (mem_words hb.1 hb.2)
theorem div_small {a b : Int} (ha : Wd a) (hb : Wd b) : -8 ≤ a.tdiv b ∧ a.tdiv b ≤ 8 := by
  have h : ∀ a ∈ words, ∀ b ∈ words, -8 ≤ a.tdiv b ∧ a.tdiv b ≤ 8 := by decide +kernel
  exact h a (mem_words ha.1 ha.2) b (mem_words hb.1 hb.2)
theorem do0_ev (a b : Int) (ha : Wd a) (hb : Wd b) (sto : Sto) (lo : Nat) (hlo : lo ≤ sto.length) : CallEv Tryd.prog tab B0 119 [.v (VI a), .v (VI b)] sto lo (.v (VI (a + b))) sto := by
  obtain ⟨ha1, ha2⟩ := ha
  obtain ⟨hb1, hb2⟩ := hb
  refine CallEv.intro ⟨_, _, [], Tryd.func119, rfl, by decide, ?_⟩; simp only [go_sem, Tryd.ntmps119]
  repeat' (first | (refine go ⟨?_⟩) | (fail) | ((first | (refine bsp ?_ ?_) | (refine csp ?_ ?_)); all_goals (intro hb; (fail_if_success (cases hb; done)); (try simp only [decide_eq_true_eq, decide_eq_false_iff_not, beq_iff_eq, bne_iff_ne, ne_eq, beq_eq_false_iff_ne, bne_eq_false_iff_eq, Bool.not_eq_true', Bool.not_eq_false', Bool.and_eq_true, Bool.or_eq_true, Decidable.not_not] at hb); (try simp only [go_sem]))))
  refine ⟨by first | exact .inr rfl | exact .inl rfl, .inl ⟨[], _, (by dsimp only [Tryd.f119]; exact sv), ?_, by simp⟩⟩
  rfl
theorem do1_ev (a b : Int) (ha : Wd a) (hb : Wd b) (sto : Sto) (lo : Nat) (hlo : lo ≤ sto.length) : CallEv Tryd.prog tab B0 120 [.v (VI a), .v (VI b)] sto lo (.v (VI (a - b))) sto := by
  obtain ⟨ha1, ha2⟩ := ha
  obtain ⟨hb1, hb2⟩ := hb
  refine CallEv.intro ⟨_, _, [], Tryd.func120, rfl, by decide, ?_⟩; simp only [go_sem, Tryd.ntmps120]
  repeat' (first | (refine go ⟨?_⟩) | (fail) | ((first | (refine bsp ?_ ?_) | (refine csp ?_ ?_)); all_goals (intro hb; (fail_if_success (cases hb; done)); (try simp only [decide_eq_true_eq, decide_eq_false_iff_not, beq_iff_eq, bne_iff_ne, ne_eq, beq_eq_false_iff_ne, bne_eq_false_iff_eq, Bool.not_eq_true', Bool.not_eq_false', Bool.and_eq_true, Bool.or_eq_true, Decidable.not_not] at hb); (try simp only [go_sem]))))
  refine ⟨by first | exact .inr rfl | exact .inl rfl, .inl ⟨[], _, (by dsimp only [Tryd.f120]; exact sv), ?_, by simp⟩⟩
  rfl
theorem do2_ev (a b : Int) (ha : Wd a) (hb : Wd b) (sto : Sto) (lo : Nat) (hlo : lo ≤ sto.length) : CallEv Tryd.prog tab B0 121 [.v (VI a), .v (VI b)] sto lo (.v (VI (a * b))) sto := by
  have hm := mul_small ha hb
  obtain ⟨hm1, hm2⟩ := hm
  obtain ⟨ha1, ha2⟩ := ha
  obtain ⟨hb1, hb2⟩ := hb
  refine CallEv.intro ⟨_, _, [], Tryd.func121, rfl, by decide, ?_⟩; simp only [go_sem, Tryd.ntmps121]
  repeat' (first | (refine go ⟨?_⟩) | (fail) | ((first | (refine bsp ?_ ?_) | (refine csp ?_ ?_)); all_goals (intro hb; (fail_if_success (cases hb; done)); (try simp only [decide_eq_true_eq, decide_eq_false_iff_not, beq_iff_eq, bne_iff_ne, ne_eq, beq_eq_false_iff_ne, bne_eq_false_iff_eq, Bool.not_eq_true', Bool.not_eq_false', Bool.and_eq_true, Bool.or_eq_true, Decidable.not_not] at hb); (try simp only [go_sem]))))
  refine ⟨by first | exact .inr rfl | exact .inl rfl, .inl ⟨[], _, (by dsimp only [Tryd.f121]; exact sv), ?_, by simp⟩⟩
  rfl
theorem do3_ev (a b : Int) (ha : Wd a) (hb : Wd b) (h0 : b ≠ 0) (sto : Sto) (lo : Nat) (hlo : lo ≤ sto.length) : CallEv Tryd.prog tab B0 122 [.v (VI a), .v (VI b)] sto lo (.v (VI (a.tdiv b))) sto := by
  have hm := div_small ha hb
  obtain ⟨hm1, hm2⟩ := hm
  obtain ⟨ha1, ha2⟩ := ha
  obtain ⟨hb1, hb2⟩ := hb
  refine CallEv.intro ⟨_, _, [], Tryd.func122, rfl, by decide, ?_⟩; simp only [go_sem, Tryd.ntmps122]
  repeat' (first | (refine go ⟨?_⟩) | (fail) | ((first | (refine bsp ?_ ?_) | (refine csp ?_ ?_)); all_goals (intro hb; (fail_if_success (cases hb; done)); (try simp only [decide_eq_true_eq, decide_eq_false_iff_not, beq_iff_eq, bne_iff_ne, ne_eq, beq_eq_false_iff_ne, bne_eq_false_iff_eq, Bool.not_eq_true', Bool.not_eq_false', Bool.and_eq_true, Bool.or_eq_true, Decidable.not_not] at hb); (try simp only [go_sem]))))
  refine ⟨by first | exact .inr rfl | exact .inl rfl, .inl ⟨[], _, (by dsimp only [Tryd.f122]; exact sv), ?_, by simp⟩⟩
  rfl
theorem do4_ev (a b : Int) (ha : Wd a) (hb : Wd b) (h0 : b ≠ 0) (sto : Sto) (lo : Nat) (hlo : lo ≤ sto.length) : CallEv Tryd.prog tab B0 123 [.v (VI a), .v (VI b)] sto lo (.v (VI (a.tmod b))) sto := by
  obtain ⟨ha1, ha2⟩ := ha
  obtain ⟨hb1, hb2⟩ := hb
  refine CallEv.intro ⟨_, _, [], Tryd.func123, rfl, by decide, ?_⟩; simp only [go_sem, Tryd.ntmps123]
  repeat' (first | (refine go ⟨?_⟩) | (fail) | ((first | (refine bsp ?_ ?_) | (refine csp ?_ ?_)); all_goals (intro hb; (fail_if_success (cases hb; done)); (try simp only [decide_eq_true_eq, decide_eq_false_iff_not, beq_iff_eq, bne_iff_ne, ne_eq, beq_eq_false_iff_ne, bne_eq_false_iff_eq, Bool.not_eq_true', Bool.not_eq_false', Bool.and_eq_true, Bool.or_eq_true, Decidable.not_not] at hb); (try simp only [go_sem]))))
  refine ⟨by first | exact .inr rfl | exact .inl rfl, .inl ⟨[], _, (by dsimp only [Tryd.f123]; exact sv), ?_, by simp⟩⟩
  rfl
theorem do5_ev (a b : Int) (ha : Wd a) (hb : Wd b) (sto : Sto) (lo : Nat) (hlo : lo ≤ sto.length) : CallEv Tryd.prog tab B0 124 [.v (VI a), .v (VI b)] sto lo (.v (VI (andI .i64 a b))) sto := by
  obtain ⟨ha1, ha2⟩ := ha
  obtain ⟨hb1, hb2⟩ := hb
  refine CallEv.intro ⟨_, _, [], Tryd.func124, rfl, by decide, ?_⟩; simp only [go_sem, Tryd.ntmps124]
  repeat' (first | (refine go ⟨?_⟩) | (fail) | ((first | (refine bsp ?_ ?_) | (refine csp ?_ ?_)); all_goals (intro hb; (fail_if_success (cases hb; done)); (try simp only [decide_eq_true_eq, decide_eq_false_iff_not, beq_iff_eq, bne_iff_ne, ne_eq, beq_eq_false_iff_ne, bne_eq_false_iff_eq, Bool.not_eq_true', Bool.not_eq_false', Bool.and_eq_true, Bool.or_eq_true, Decidable.not_not] at hb); (try simp only [go_sem]))))
  refine ⟨by first | exact .inr rfl | exact .inl rfl, .inl ⟨[], _, (by dsimp only [Tryd.f124]; exact sv), ?_, by simp⟩⟩
  rfl
theorem do6_ev (a b : Int) (ha : Wd a) (hb : Wd b) (sto : Sto) (lo : Nat) (hlo : lo ≤ sto.length) : CallEv Tryd.prog tab B0 125 [.v (VI a), .v (VI b)] sto lo (.v (VI (orI .i64 a b))) sto := by
  obtain ⟨ha1, ha2⟩ := ha
  obtain ⟨hb1, hb2⟩ := hb
  refine CallEv.intro ⟨_, _, [], Tryd.func125, rfl, by decide, ?_⟩; simp only [go_sem, Tryd.ntmps125]
  repeat' (first | (refine go ⟨?_⟩) | (fail) | ((first | (refine bsp ?_ ?_) | (refine csp ?_ ?_)); all_goals (intro hb; (fail_if_success (cases hb; done)); (try simp only [decide_eq_true_eq, decide_eq_false_iff_not, beq_iff_eq, bne_iff_ne, ne_eq, beq_eq_false_iff_ne, bne_eq_false_iff_eq, Bool.not_eq_true', Bool.not_eq_false', Bool.and_eq_true, Bool.or_eq_true, Decidable.not_not] at hb); (try simp only [go_sem]))))
  refine ⟨by first | exact .inr rfl | exact .inl rfl, .inl ⟨[], _, (by dsimp only [Tryd.f125]; exact sv), ?_, by simp⟩⟩
  rfl
theorem do7_ev (a b : Int) (ha : Wd a) (hb : Wd b) (sto : Sto) (lo : Nat) (hlo : lo ≤ sto.length) : CallEv Tryd.prog tab B0 126 [.v (VI a), .v (VI b)] sto lo (.v (VI (xorI .i64 a b))) sto := by
  obtain ⟨ha1, ha2⟩ := ha
  obtain ⟨hb1, hb2⟩ := hb
  refine CallEv.intro ⟨_, _, [], Tryd.func126, rfl, by decide, ?_⟩; simp only [go_sem, Tryd.ntmps126]
  repeat' (first | (refine go ⟨?_⟩) | (fail) | ((first | (refine bsp ?_ ?_) | (refine csp ?_ ?_)); all_goals (intro hb; (fail_if_success (cases hb; done)); (try simp only [decide_eq_true_eq, decide_eq_false_iff_not, beq_iff_eq, bne_iff_ne, ne_eq, beq_eq_false_iff_ne, bne_eq_false_iff_eq, Bool.not_eq_true', Bool.not_eq_false', Bool.and_eq_true, Bool.or_eq_true, Decidable.not_not] at hb); (try simp only [go_sem]))))
  refine ⟨by first | exact .inr rfl | exact .inl rfl, .inl ⟨[], _, (by dsimp only [Tryd.f126]; exact sv), ?_, by simp⟩⟩
  rfl
theorem do10_ev (a b : Int) (sto : Sto) (lo : Nat) (hlo : lo ≤ sto.length) : CallEv Tryd.prog tab B0 130 [.v (VI a), .v (VI b)] sto lo (.v (VI (if decide (a < b) then 1 else 0))) sto := by
  refine CallEv.intro ⟨_, _, [], Tryd.func130, rfl, by decide, ?_⟩; simp only [go_sem, Tryd.ntmps130]
  repeat' (first | (refine go ⟨?_⟩) | (((refine call ?_); (refine ⟨_, wNumber_ev _ _ _ (by first | omega | (simp; done) | (simp; omega)), ?_⟩); (try simp only [go_sem]))) | ((first | (refine bsp ?_ ?_) | (refine csp ?_ ?_)); all_goals (intro hb; (fail_if_success (cases hb; done)); (try simp only [decide_eq_true_eq, decide_eq_false_iff_not, beq_iff_eq, bne_iff_ne, ne_eq, beq_eq_false_iff_ne, bne_eq_false_iff_eq, Bool.not_eq_true', Bool.not_eq_false', Bool.and_eq_true, Bool.or_eq_true, Decidable.not_not] at hb); (try simp only [go_sem]))))
  refine ⟨by first | exact .inr rfl | exact .inl rfl, .inl ⟨[], _, (by dsimp only [Tryd.f130]; exact sv), ?_, by simp⟩⟩
  rfl
theorem do11_ev (a b : Int) (sto : Sto) (lo : Nat) (hlo : lo ≤ sto.length) : CallEv Tryd.prog tab B0 132 [.v (VI a), .v (VI b)] sto lo (.v (VI (if decide (a = b) then 1 else 0))) sto := by
  refine CallEv.intro ⟨_, _, [], Tryd.func132, rfl, by decide, ?_⟩; simp only [go_sem, Tryd.ntmps132]
  repeat' (first | (refine go ⟨?_⟩) | (((refine call ?_); (refine ⟨_, wNumber_ev _ _ _ (by first | omega | (simp; done) | (simp; omega)), ?_⟩); (try simp only [go_sem]))) | ((first | (refine bsp ?_ ?_) | (refine csp ?_ ?_)); all_goals (intro hb; (fail_if_success (cases hb; done)); (try simp only [decide_eq_true_eq, decide_eq_false_iff_not, beq_iff_eq, bne_iff_ne, ne_eq, beq_eq_false_iff_ne, bne_eq_false_iff_eq, Bool.not_eq_true', Bool.not_eq_false', Bool.and_eq_true, Bool.or_eq_true, Decidable.not_not] at hb); (try simp only [go_sem]))))
  refine ⟨by first | exact .inr rfl | exact .inl rfl, .inl ⟨[], _, (by dsimp only [Tryd.f132]; exact sv), ?_, by simp⟩⟩
  rfl
end Go.Proofs.YtomameefmobnlaaDoor
namespace Go.Proofs.YtomameefmobnlaaDoor
open Go Go.RowKit

attribute [local irreducible] EvOps EvC
attribute [local go_sem] List.getElem?_toArray getS List.flatten_cons List.flatten_nil List.contains_nil opsV
set_option linter.unusedSimpArgs false
set_option linter.unusedVariables false
set_option maxRecDepth 100000
set_option maxHeartbeats 4000000
theorem wrap_wd (n : Int) : Wd (wrapS n) := wrapS_range n
theorem do8_ev (a b : Int) (ha : Wd a) (hb : Wd b) (sto : Sto) (lo : Nat) (hlo : lo ≤ sto.length) : CallEv Tryd.prog tab B0 127 [.v (VI a), .v (VI b)] sto lo (.v (VI (a * ((2 ^ (bitsW b % 4) : Nat) : Int)))) sto := by
  have hs := fun sto lo hlo => wShift_ev b ⟨by have := hb.1; omega, by have := hb.2; omega⟩ sto lo hlo
  have h4 : bitsW b % 4 < 4 := by omega
  generalize bitsW b % 4 = s at *
  obtain ⟨ha1, ha2⟩ := ha
  obtain rfl | rfl | rfl | rfl : s = 0 ∨ s = 1 ∨ s = 2 ∨ s = 3 := by omega
  all_goals
    refine CallEv.intro ⟨_, _, [], Tryd.func127, rfl, by decide, ?_⟩; simp only [go_sem, Tryd.ntmps127]
    repeat' (first | (refine go ⟨?_⟩) | (((refine call ?_); (refine ⟨_, hs _ _ (by first | omega | (simp; done) | (simp; omega)), ?_⟩); (try simp only [go_sem]))) | ((first | (refine bsp ?_ ?_) | (refine csp ?_ ?_)); all_goals (intro hb; (fail_if_success (cases hb; done)); (try simp only [decide_eq_true_eq, decide_eq_false_iff_not, beq_iff_eq, bne_iff_ne, ne_eq, beq_eq_false_iff_ne, bne_eq_false_iff_eq, Bool.not_eq_true', Bool.not_eq_false', Bool.and_eq_true, Bool.or_eq_true, Decidable.not_not] at hb); (try simp only [go_sem]))))
    refine ⟨by first | exact .inr rfl | exact .inl rfl, .inl ⟨[], _, (by dsimp only [Tryd.f127]; exact sv), ?_, by simp⟩⟩
    simp
    rw [wrapI (by omega)]
theorem do9_ev (a b : Int) (ha : Wd a) (hb : Wd b) (sto : Sto) (lo : Nat) (hlo : lo ≤ sto.length) : CallEv Tryd.prog tab B0 129 [.v (VI a), .v (VI b)] sto lo (.v (VI (a.fdiv ((2 ^ (bitsW b % 4) : Nat) : Int)))) sto := by
  have hs := fun sto lo hlo => wShift_ev b ⟨by have := hb.1; omega, by have := hb.2; omega⟩ sto lo hlo
  have h4 : bitsW b % 4 < 4 := by omega
  generalize bitsW b % 4 = s at *
  obtain ⟨ha1, ha2⟩ := ha
  obtain rfl | rfl | rfl | rfl : s = 0 ∨ s = 1 ∨ s = 2 ∨ s = 3 := by omega
  all_goals
    refine CallEv.intro ⟨_, _, [], Tryd.func129, rfl, by decide, ?_⟩; simp only [go_sem, Tryd.ntmps129]
    repeat' (first | (refine go ⟨?_⟩) | (((refine call ?_); (refine ⟨_, hs _ _ (by first | omega | (simp; done) | (simp; omega)), ?_⟩); (try simp only [go_sem]))) | ((first | (refine bsp ?_ ?_) | (refine csp ?_ ?_)); all_goals (intro hb; (fail_if_success (cases hb; done)); (try simp only [decide_eq_true_eq, decide_eq_false_iff_not, beq_iff_eq, bne_iff_ne, ne_eq, beq_eq_false_iff_ne, bne_eq_false_iff_eq, Bool.not_eq_true', Bool.not_eq_false', Bool.and_eq_true, Bool.or_eq_true, Decidable.not_not] at hb); (try simp only [go_sem]))))
    refine ⟨by first | exact .inr rfl | exact .inl rfl, .inl ⟨[], _, (by dsimp only [Tryd.f129]; exact sv), ?_, by simp⟩⟩
    rfl
theorem do12_ev (a b : Int) (sto : Sto) (lo : Nat) (hlo : lo ≤ sto.length) : CallEv Tryd.prog tab B0 133 [.v (VI a), .v (VI b)] sto lo (.v (VI (if a ≠ 0 ∧ b ≠ 0 then 1 else 0))) sto := by
  by_cases c1 : a = 0
  · rw [if_neg (fun h => h.1 c1)]
    refine CallEv.intro ⟨_, _, [], Tryd.func133, rfl, by decide, ?_⟩; simp only [go_sem, Tryd.ntmps133]
    repeat' (first | (refine go ⟨?_⟩) | (((refine call ?_); (refine ⟨_, wNumber_ev _ _ _ (by first | omega | (simp; done) | (simp; omega)), ?_⟩); (try simp only [go_sem]))) | ((first | (refine bsp ?_ ?_) | (refine csp ?_ ?_)); all_goals (intro hb; (fail_if_success (cases hb; done)); (try simp only [decide_eq_true_eq, decide_eq_false_iff_not, beq_iff_eq, bne_iff_ne, ne_eq, beq_eq_false_iff_ne, bne_eq_false_iff_eq, Bool.not_eq_true', Bool.not_eq_false', Bool.and_eq_true, Bool.or_eq_true, Decidable.not_not] at hb); (try simp only [go_sem]))))
    refine ⟨by first | exact .inr rfl | exact .inl rfl, .inl ⟨[], _, (by dsimp only [Tryd.f133]; exact sv), ?_, by simp⟩⟩
    rfl
  by_cases c2 : b = 0
  · rw [if_neg (fun h => h.2 c2)]
    refine CallEv.intro ⟨_, _, [], Tryd.func133, rfl, by decide, ?_⟩; simp only [go_sem, Tryd.ntmps133]
    repeat' (first | (refine go ⟨?_⟩) | (((refine call ?_); (refine ⟨_, wNumber_ev _ _ _ (by first | omega | (simp; done) | (simp; omega)), ?_⟩); (try simp only [go_sem]))) | ((first | (refine bsp ?_ ?_) | (refine csp ?_ ?_)); all_goals (intro hb; (fail_if_success (cases hb; done)); (try simp only [decide_eq_true_eq, decide_eq_false_iff_not, beq_iff_eq, bne_iff_ne, ne_eq, beq_eq_false_iff_ne, bne_eq_false_iff_eq, Bool.not_eq_true', Bool.not_eq_false', Bool.and_eq_true, Bool.or_eq_true, Decidable.not_not] at hb); (try simp only [go_sem]))))
    refine ⟨by first | exact .inr rfl | exact .inl rfl, .inl ⟨[], _, (by dsimp only [Tryd.f133]; exact sv), ?_, by simp⟩⟩
    rfl
  · rw [if_pos ⟨c1, c2⟩]
    refine CallEv.intro ⟨_, _, [], Tryd.func133, rfl, by decide, ?_⟩; simp only [go_sem, Tryd.ntmps133]
    repeat' (first | (refine go ⟨?_⟩) | (((refine call ?_); (refine ⟨_, wNumber_ev _ _ _ (by first | omega | (simp; done) | (simp; omega)), ?_⟩); (try simp only [go_sem]))) | ((first | (refine bsp ?_ ?_) | (refine csp ?_ ?_)); all_goals (intro hb; (fail_if_success (cases hb; done)); (try simp only [decide_eq_true_eq, decide_eq_false_iff_not, beq_iff_eq, bne_iff_ne, ne_eq, beq_eq_false_iff_ne, bne_eq_false_iff_eq, Bool.not_eq_true', Bool.not_eq_false', Bool.and_eq_true, Bool.or_eq_true, Decidable.not_not] at hb); (try simp only [go_sem]))))
    refine ⟨by first | exact .inr rfl | exact .inl rfl, .inl ⟨[], _, (by dsimp only [Tryd.f133]; exact sv), ?_, by simp⟩⟩
    rfl
theorem do13_ev (a b : Int) (sto : Sto) (lo : Nat) (hlo : lo ≤ sto.length) : CallEv Tryd.prog tab B0 134 [.v (VI a), .v (VI b)] sto lo (.v (VI (if a ≠ 0 ∨ b ≠ 0 then 1 else 0))) sto := by
  by_cases c1 : a = 0
  · by_cases c2 : b = 0
    · rw [if_neg (fun h => h.elim (· c1) (· c2))]
      refine CallEv.intro ⟨_, _, [], Tryd.func134, rfl, by decide, ?_⟩; simp only [go_sem, Tryd.ntmps134]
      repeat' (first | (refine go ⟨?_⟩) | (((refine call ?_); (refine ⟨_, wNumber_ev _ _ _ (by first | omega | (simp; done) | (simp; omega)), ?_⟩); (try simp only [go_sem]))) | ((first | (refine bsp ?_ ?_) | (refine csp ?_ ?_)); all_goals (intro hb; (fail_if_success (cases hb; done)); (try simp only [decide_eq_true_eq, decide_eq_false_iff_not, beq_iff_eq, bne_iff_ne, ne_eq, beq_eq_false_iff_ne, bne_eq_false_iff_eq, Bool.not_eq_true', Bool.not_eq_false', Bool.and_eq_true, Bool.or_eq_true, Decidable.not_not] at hb); (try simp only [go_sem]))))
      refine ⟨by first | exact .inr rfl | exact .inl rfl, .inl ⟨[], _, (by dsimp only [Tryd.f134]; exact sv), ?_, by simp⟩⟩
      rfl
    · rw [if_pos (.inr c2)]
      refine CallEv.intro ⟨_, _, [], Tryd.func134, rfl, by decide, ?_⟩; simp only [go_sem, Tryd.ntmps134]
      repeat' (first | (refine go ⟨?_⟩) | (((refine call ?_); (refine ⟨_, wNumber_ev _ _ _ (by first | omega | (simp; done) | (simp; omega)), ?_⟩); (try simp only [go_sem]))) | ((first | (refine bsp ?_ ?_) | (refine csp ?_ ?_)); all_goals (intro hb; (fail_if_success (cases hb; done)); (try simp only [decide_eq_true_eq, decide_eq_false_iff_not, beq_iff_eq, bne_iff_ne, ne_eq, beq_eq_false_iff_ne, bne_eq_false_iff_eq, Bool.not_eq_true', Bool.not_eq_false', Bool.and_eq_true, Bool.or_eq_true, Decidable.not_not] at hb); (try simp only [go_sem]))))
      refine ⟨by first | exact .inr rfl | exact .inl rfl, .inl ⟨[], _, (by dsimp only [Tryd.f134]; exact sv), ?_, by simp⟩⟩
      rfl
  · rw [if_pos (.inl c1)]
    refine CallEv.intro ⟨_, _, [], Tryd.func134, rfl, by decide, ?_⟩; simp only [go_sem, Tryd.ntmps134]
    repeat' (first | (refine go ⟨?_⟩) | (((refine call ?_); (refine ⟨_, wNumber_ev _ _ _ (by first | omega | (simp; done) | (simp; omega)), ?_⟩); (try simp only [go_sem]))) | ((first | (refine bsp ?_ ?_) | (refine csp ?_ ?_)); all_goals (intro hb; (fail_if_success (cases hb; done)); (try simp only [decide_eq_true_eq, decide_eq_false_iff_not, beq_iff_eq, bne_iff_ne, ne_eq, beq_eq_false_iff_ne, bne_eq_false_iff_eq, Bool.not_eq_true', Bool.not_eq_false', Bool.and_eq_true, Bool.or_eq_true, Decidable.not_not] at hb); (try simp only [go_sem]))))
    refine ⟨by first | exact .inr rfl | exact .inl rfl, .inl ⟨[], _, (by dsimp only [Tryd.f134]; exact sv), ?_, by simp⟩⟩
    rfl
/-- The code of an operation. -/
def codeW (op b : Int) : Int := if (op = 3 ∨ op = 4) ∧ b = 0 then 2 else 0
theorem do_small {x y : Int} (hx : Wd x) (hy : Wd y) : -64 ≤ x * ((2 ^ (bitsW y % 4) : Nat) : Int) ∧ x * ((2 ^ (bitsW y % 4) : Nat) : Int) ≤ 64 ∧ -8 ≤ x.fdiv ((2 ^ (bitsW y % 4) : Nat) : Int) ∧ x.fdiv ((2 ^ (bitsW y % 4) : Nat) : Int) ≤ 8 := by
  have h : ∀ x ∈ words, ∀ y ∈ words, -64 ≤ x * ((2 ^ (bitsW y % 4) : Nat) : Int) ∧ x * ((2 ^ (bitsW y % 4) : Nat) : Int) ≤ 64 ∧ -8 ≤ x.fdiv ((2 ^ (bitsW y % 4) : Nat) : Int) ∧ x.fdiv ((2 ^ (bitsW y % 4) : Nat) : Int) ≤ 8 := by decide +kernel
  exact h x (mem_words hx.1 hx.2) y (mem_words hy.1 hy.2)
theorem mod_small {x y : Int} (hx : Wd x) (hy : Wd y) : -8 ≤ x.tmod y ∧ x.tmod y ≤ 8 := by
  have h : ∀ x ∈ words, ∀ y ∈ words, -8 ≤ x.tmod y ∧ x.tmod y ≤ 8 := by decide +kernel
  exact h x (mem_words hx.1 hx.2) y (mem_words hy.1 hy.2)
theorem wOp0_ev (a b : Int) (ha : Big a) (hb : Big b) (sto : Sto) (lo : Nat) (hlo : lo ≤ sto.length) : CallEv Tryd.prog tab B0 50 [.v (VI 0), .v (VI a), .v (VI b)] sto lo (.v (.tup [VI (opW 0 (wrapS a) (wrapS b)), VI (codeW 0 (wrapS b))])) sto := by
  have h1 := fun sto lo hlo => wWrap_ev a ha sto lo hlo
  have h2 := fun sto lo hlo => wWrap_ev b hb sto lo hlo
  have hx := wrap_wd a
  have hy := wrap_wd b
  generalize wrapS a = x at *
  generalize wrapS b = y at *
  have e : opW 0 x y = wrapS (x + y) := by simp [opW]
  rw [e, show codeW 0 y = 0 from by simp [codeW]]
  have hd := fun sto lo hlo => do0_ev x y hx hy sto lo hlo
  have hbg : Big (x + y) := ⟨by have h1 := hx.1; have h2 := hx.2; have h3 := hy.1; have h4 := hy.2; omega, by have h1 := hx.1; have h2 := hx.2; have h3 := hy.1; have h4 := hy.2; omega⟩
  have hw := fun sto lo hlo => wWrap_ev (x + y) hbg sto lo hlo
  clear e
  refine CallEv.intro ⟨_, _, [], Tryd.func50, rfl, by decide, ?_⟩; simp only [go_sem, Tryd.ntmps50]
  repeat' (first | (refine go ⟨?_⟩) | (first | ((refine call ?_); (refine ⟨_, h1 _ _ (by first | omega | (simp; done) | (simp; omega)), ?_⟩); (try simp only [go_sem])) | ((refine call ?_); (refine ⟨_, h2 _ _ (by first | omega | (simp; done) | (simp; omega)), ?_⟩); (try simp only [go_sem])) | ((refine call ?_); (refine ⟨_, hd _ _ (by first | omega | (simp; done) | (simp; omega)), ?_⟩); (try simp only [go_sem])) | ((refine call ?_); (refine ⟨_, hw _ _ (by first | omega | (simp; done) | (simp; omega)), ?_⟩); (try simp only [go_sem]))) | ((first | (refine bsp ?_ ?_) | (refine csp ?_ ?_)); all_goals (intro hb; (fail_if_success (cases hb; done)); (try simp only [decide_eq_true_eq, decide_eq_false_iff_not, beq_iff_eq, bne_iff_ne, ne_eq, beq_eq_false_iff_ne, bne_eq_false_iff_eq, Bool.not_eq_true', Bool.not_eq_false', Bool.and_eq_true, Bool.or_eq_true, Decidable.not_not] at hb); (try simp only [go_sem]))))
  refine ⟨by first | exact .inr rfl | exact .inl rfl, .inl ⟨[], _, (by dsimp only [Tryd.f50]; exact sv), ?_, by simp⟩⟩
  rfl
theorem wOp1_ev (a b : Int) (ha : Big a) (hb : Big b) (sto : Sto) (lo : Nat) (hlo : lo ≤ sto.length) : CallEv Tryd.prog tab B0 50 [.v (VI 1), .v (VI a), .v (VI b)] sto lo (.v (.tup [VI (opW 1 (wrapS a) (wrapS b)), VI (codeW 1 (wrapS b))])) sto := by
  have h1 := fun sto lo hlo => wWrap_ev a ha sto lo hlo
  have h2 := fun sto lo hlo => wWrap_ev b hb sto lo hlo
  have hx := wrap_wd a
  have hy := wrap_wd b
  generalize wrapS a = x at *
  generalize wrapS b = y at *
  have e : opW 1 x y = wrapS (x - y) := by simp [opW]
  rw [e, show codeW 1 y = 0 from by simp [codeW]]
  have hd := fun sto lo hlo => do1_ev x y hx hy sto lo hlo
  have hbg : Big (x - y) := ⟨by have h1 := hx.1; have h2 := hx.2; have h3 := hy.1; have h4 := hy.2; omega, by have h1 := hx.1; have h2 := hx.2; have h3 := hy.1; have h4 := hy.2; omega⟩
  have hw := fun sto lo hlo => wWrap_ev (x - y) hbg sto lo hlo
  clear e
  refine CallEv.intro ⟨_, _, [], Tryd.func50, rfl, by decide, ?_⟩; simp only [go_sem, Tryd.ntmps50]
  repeat' (first | (refine go ⟨?_⟩) | (first | ((refine call ?_); (refine ⟨_, h1 _ _ (by first | omega | (simp; done) | (simp; omega)), ?_⟩); (try simp only [go_sem])) | ((refine call ?_); (refine ⟨_, h2 _ _ (by first | omega | (simp; done) | (simp; omega)), ?_⟩); (try simp only [go_sem])) | ((refine call ?_); (refine ⟨_, hd _ _ (by first | omega | (simp; done) | (simp; omega)), ?_⟩); (try simp only [go_sem])) | ((refine call ?_); (refine ⟨_, hw _ _ (by first | omega | (simp; done) | (simp; omega)), ?_⟩); (try simp only [go_sem]))) | ((first | (refine bsp ?_ ?_) | (refine csp ?_ ?_)); all_goals (intro hb; (fail_if_success (cases hb; done)); (try simp only [decide_eq_true_eq, decide_eq_false_iff_not, beq_iff_eq, bne_iff_ne, ne_eq, beq_eq_false_iff_ne, bne_eq_false_iff_eq, Bool.not_eq_true', Bool.not_eq_false', Bool.and_eq_true, Bool.or_eq_true, Decidable.not_not] at hb); (try simp only [go_sem]))))
  refine ⟨by first | exact .inr rfl | exact .inl rfl, .inl ⟨[], _, (by dsimp only [Tryd.f50]; exact sv), ?_, by simp⟩⟩
  rfl
theorem wOp2_ev (a b : Int) (ha : Big a) (hb : Big b) (sto : Sto) (lo : Nat) (hlo : lo ≤ sto.length) : CallEv Tryd.prog tab B0 50 [.v (VI 2), .v (VI a), .v (VI b)] sto lo (.v (.tup [VI (opW 2 (wrapS a) (wrapS b)), VI (codeW 2 (wrapS b))])) sto := by
  have h1 := fun sto lo hlo => wWrap_ev a ha sto lo hlo
  have h2 := fun sto lo hlo => wWrap_ev b hb sto lo hlo
  have hx := wrap_wd a
  have hy := wrap_wd b
  generalize wrapS a = x at *
  generalize wrapS b = y at *
  have e : opW 2 x y = wrapS (x * y) := by simp [opW]
  have hsm := mul_small hx hy
  rw [e, show codeW 2 y = 0 from by simp [codeW]]
  have hd := fun sto lo hlo => do2_ev x y hx hy sto lo hlo
  have hbg : Big (x * y) := ⟨by have h1 := hx.1; have h2 := hx.2; have h3 := hy.1; have h4 := hy.2; omega, by have h1 := hx.1; have h2 := hx.2; have h3 := hy.1; have h4 := hy.2; omega⟩
  have hw := fun sto lo hlo => wWrap_ev (x * y) hbg sto lo hlo
  clear e
  refine CallEv.intro ⟨_, _, [], Tryd.func50, rfl, by decide, ?_⟩; simp only [go_sem, Tryd.ntmps50]
  repeat' (first | (refine go ⟨?_⟩) | (first | ((refine call ?_); (refine ⟨_, h1 _ _ (by first | omega | (simp; done) | (simp; omega)), ?_⟩); (try simp only [go_sem])) | ((refine call ?_); (refine ⟨_, h2 _ _ (by first | omega | (simp; done) | (simp; omega)), ?_⟩); (try simp only [go_sem])) | ((refine call ?_); (refine ⟨_, hd _ _ (by first | omega | (simp; done) | (simp; omega)), ?_⟩); (try simp only [go_sem])) | ((refine call ?_); (refine ⟨_, hw _ _ (by first | omega | (simp; done) | (simp; omega)), ?_⟩); (try simp only [go_sem]))) | ((first | (refine bsp ?_ ?_) | (refine csp ?_ ?_)); all_goals (intro hb; (fail_if_success (cases hb; done)); (try simp only [decide_eq_true_eq, decide_eq_false_iff_not, beq_iff_eq, bne_iff_ne, ne_eq, beq_eq_false_iff_ne, bne_eq_false_iff_eq, Bool.not_eq_true', Bool.not_eq_false', Bool.and_eq_true, Bool.or_eq_true, Decidable.not_not] at hb); (try simp only [go_sem]))))
  refine ⟨by first | exact .inr rfl | exact .inl rfl, .inl ⟨[], _, (by dsimp only [Tryd.f50]; exact sv), ?_, by simp⟩⟩
  rfl
theorem wOp3_ev (a b : Int) (ha : Big a) (hb : Big b) (sto : Sto) (lo : Nat) (hlo : lo ≤ sto.length) : CallEv Tryd.prog tab B0 50 [.v (VI 3), .v (VI a), .v (VI b)] sto lo (.v (.tup [VI (opW 3 (wrapS a) (wrapS b)), VI (codeW 3 (wrapS b))])) sto := by
  have h1 := fun sto lo hlo => wWrap_ev a ha sto lo hlo
  have h2 := fun sto lo hlo => wWrap_ev b hb sto lo hlo
  have hx := wrap_wd a
  have hy := wrap_wd b
  generalize wrapS a = x at *
  generalize wrapS b = y at *
  by_cases h0 : y = 0
  · subst h0
    rw [show opW 3 x 0 = 0 from by simp [opW], show codeW 3 0 = 2 from rfl]
    refine CallEv.intro ⟨_, _, [], Tryd.func50, rfl, by decide, ?_⟩; simp only [go_sem, Tryd.ntmps50]
    repeat' (first | (refine go ⟨?_⟩) | (first | ((refine call ?_); (refine ⟨_, h1 _ _ (by first | omega | (simp; done) | (simp; omega)), ?_⟩); (try simp only [go_sem])) | ((refine call ?_); (refine ⟨_, h2 _ _ (by first | omega | (simp; done) | (simp; omega)), ?_⟩); (try simp only [go_sem]))) | ((first | (refine bsp ?_ ?_) | (refine csp ?_ ?_)); all_goals (intro hb; (fail_if_success (cases hb; done)); (try simp only [decide_eq_true_eq, decide_eq_false_iff_not, beq_iff_eq, bne_iff_ne, ne_eq, beq_eq_false_iff_ne, bne_eq_false_iff_eq, Bool.not_eq_true', Bool.not_eq_false', Bool.and_eq_true, Bool.or_eq_true, Decidable.not_not] at hb); (try simp only [go_sem]))))
    refine ⟨by first | exact .inr rfl | exact .inl rfl, .inl ⟨[], _, (by dsimp only [Tryd.f50]; exact sv), ?_, by simp⟩⟩
    rfl
  have e : opW 3 x y = wrapS (x.tdiv y) := by simp [opW, h0]
  rw [e, show codeW 3 y = 0 from by simp [codeW, h0]]
  have hd := fun sto lo hlo => do3_ev x y hx hy h0 sto lo hlo
  have hsm := div_small hx hy
  have hbg : Big (x.tdiv y) := ⟨by have h1 := hx.1; have h2 := hx.2; have h3 := hy.1; have h4 := hy.2; omega, by have h1 := hx.1; have h2 := hx.2; have h3 := hy.1; have h4 := hy.2; omega⟩
  have hw := fun sto lo hlo => wWrap_ev (x.tdiv y) hbg sto lo hlo
  clear e
  refine CallEv.intro ⟨_, _, [], Tryd.func50, rfl, by decide, ?_⟩; simp only [go_sem, Tryd.ntmps50]
  repeat' (first | (refine go ⟨?_⟩) | (first | ((refine call ?_); (refine ⟨_, h1 _ _ (by first | omega | (simp; done) | (simp; omega)), ?_⟩); (try simp only [go_sem])) | ((refine call ?_); (refine ⟨_, h2 _ _ (by first | omega | (simp; done) | (simp; omega)), ?_⟩); (try simp only [go_sem])) | ((refine call ?_); (refine ⟨_, hd _ _ (by first | omega | (simp; done) | (simp; omega)), ?_⟩); (try simp only [go_sem])) | ((refine call ?_); (refine ⟨_, hw _ _ (by first | omega | (simp; done) | (simp; omega)), ?_⟩); (try simp only [go_sem]))) | ((first | (refine bsp ?_ ?_) | (refine csp ?_ ?_)); all_goals (intro hb; (fail_if_success (cases hb; done)); (try simp only [decide_eq_true_eq, decide_eq_false_iff_not, beq_iff_eq, bne_iff_ne, ne_eq, beq_eq_false_iff_ne, bne_eq_false_iff_eq, Bool.not_eq_true', Bool.not_eq_false', Bool.and_eq_true, Bool.or_eq_true, Decidable.not_not] at hb); (try simp only [go_sem]))))
  refine ⟨by first | exact .inr rfl | exact .inl rfl, .inl ⟨[], _, (by dsimp only [Tryd.f50]; exact sv), ?_, by simp⟩⟩
  rfl
theorem wOp4_ev (a b : Int) (ha : Big a) (hb : Big b) (sto : Sto) (lo : Nat) (hlo : lo ≤ sto.length) : CallEv Tryd.prog tab B0 50 [.v (VI 4), .v (VI a), .v (VI b)] sto lo (.v (.tup [VI (opW 4 (wrapS a) (wrapS b)), VI (codeW 4 (wrapS b))])) sto := by
  have h1 := fun sto lo hlo => wWrap_ev a ha sto lo hlo
  have h2 := fun sto lo hlo => wWrap_ev b hb sto lo hlo
  have hx := wrap_wd a
  have hy := wrap_wd b
  generalize wrapS a = x at *
  generalize wrapS b = y at *
  by_cases h0 : y = 0
  · subst h0
    rw [show opW 4 x 0 = 0 from by simp [opW], show codeW 4 0 = 2 from rfl]
    refine CallEv.intro ⟨_, _, [], Tryd.func50, rfl, by decide, ?_⟩; simp only [go_sem, Tryd.ntmps50]
    repeat' (first | (refine go ⟨?_⟩) | (first | ((refine call ?_); (refine ⟨_, h1 _ _ (by first | omega | (simp; done) | (simp; omega)), ?_⟩); (try simp only [go_sem])) | ((refine call ?_); (refine ⟨_, h2 _ _ (by first | omega | (simp; done) | (simp; omega)), ?_⟩); (try simp only [go_sem]))) | ((first | (refine bsp ?_ ?_) | (refine csp ?_ ?_)); all_goals (intro hb; (fail_if_success (cases hb; done)); (try simp only [decide_eq_true_eq, decide_eq_false_iff_not, beq_iff_eq, bne_iff_ne, ne_eq, beq_eq_false_iff_ne, bne_eq_false_iff_eq, Bool.not_eq_true', Bool.not_eq_false', Bool.and_eq_true, Bool.or_eq_true, Decidable.not_not] at hb); (try simp only [go_sem]))))
    refine ⟨by first | exact .inr rfl | exact .inl rfl, .inl ⟨[], _, (by dsimp only [Tryd.f50]; exact sv), ?_, by simp⟩⟩
    rfl
  have e : opW 4 x y = wrapS (x.tmod y) := by simp [opW, h0]
  rw [e, show codeW 4 y = 0 from by simp [codeW, h0]]
  have hd := fun sto lo hlo => do4_ev x y hx hy h0 sto lo hlo
  have hsm := mod_small hx hy
  have hbg : Big (x.tmod y) := ⟨by have h1 := hx.1; have h2 := hx.2; have h3 := hy.1; have h4 := hy.2; omega, by have h1 := hx.1; have h2 := hx.2; have h3 := hy.1; have h4 := hy.2; omega⟩
  have hw := fun sto lo hlo => wWrap_ev (x.tmod y) hbg sto lo hlo
  clear e
  refine CallEv.intro ⟨_, _, [], Tryd.func50, rfl, by decide, ?_⟩; simp only [go_sem, Tryd.ntmps50]
  repeat' (first | (refine go ⟨?_⟩) | (first | ((refine call ?_); (refine ⟨_, h1 _ _ (by first | omega | (simp; done) | (simp; omega)), ?_⟩); (try simp only [go_sem])) | ((refine call ?_); (refine ⟨_, h2 _ _ (by first | omega | (simp; done) | (simp; omega)), ?_⟩); (try simp only [go_sem])) | ((refine call ?_); (refine ⟨_, hd _ _ (by first | omega | (simp; done) | (simp; omega)), ?_⟩); (try simp only [go_sem])) | ((refine call ?_); (refine ⟨_, hw _ _ (by first | omega | (simp; done) | (simp; omega)), ?_⟩); (try simp only [go_sem]))) | ((first | (refine bsp ?_ ?_) | (refine csp ?_ ?_)); all_goals (intro hb; (fail_if_success (cases hb; done)); (try simp only [decide_eq_true_eq, decide_eq_false_iff_not, beq_iff_eq, bne_iff_ne, ne_eq, beq_eq_false_iff_ne, bne_eq_false_iff_eq, Bool.not_eq_true', Bool.not_eq_false', Bool.and_eq_true, Bool.or_eq_true, Decidable.not_not] at hb); (try simp only [go_sem]))))
  refine ⟨by first | exact .inr rfl | exact .inl rfl, .inl ⟨[], _, (by dsimp only [Tryd.f50]; exact sv), ?_, by simp⟩⟩
  rfl
theorem wOp5_ev (a b : Int) (ha : Big a) (hb : Big b) (sto : Sto) (lo : Nat) (hlo : lo ≤ sto.length) : CallEv Tryd.prog tab B0 50 [.v (VI 5), .v (VI a), .v (VI b)] sto lo (.v (.tup [VI (opW 5 (wrapS a) (wrapS b)), VI (codeW 5 (wrapS b))])) sto := by
  have h1 := fun sto lo hlo => wWrap_ev a ha sto lo hlo
  have h2 := fun sto lo hlo => wWrap_ev b hb sto lo hlo
  have hx := wrap_wd a
  have hy := wrap_wd b
  generalize wrapS a = x at *
  generalize wrapS b = y at *
  have e : opW 5 x y = wrapS (andI .i64 x y) := (show opW 5 x y = wrapS _ from by simp [opW]).trans (and_words x (mem_words hx.1 hx.2) y (mem_words hy.1 hy.2)).symm
  have hsm := small_words x (mem_words hx.1 hx.2) y (mem_words hy.1 hy.2)
  rw [e, show codeW 5 y = 0 from by simp [codeW]]
  have hd := fun sto lo hlo => do5_ev x y hx hy sto lo hlo
  have hbg : Big (andI .i64 x y) := ⟨by have h1 := hx.1; have h2 := hx.2; have h3 := hy.1; have h4 := hy.2; omega, by have h1 := hx.1; have h2 := hx.2; have h3 := hy.1; have h4 := hy.2; omega⟩
  have hw := fun sto lo hlo => wWrap_ev (andI .i64 x y) hbg sto lo hlo
  clear e
  refine CallEv.intro ⟨_, _, [], Tryd.func50, rfl, by decide, ?_⟩; simp only [go_sem, Tryd.ntmps50]
  repeat' (first | (refine go ⟨?_⟩) | (first | ((refine call ?_); (refine ⟨_, h1 _ _ (by first | omega | (simp; done) | (simp; omega)), ?_⟩); (try simp only [go_sem])) | ((refine call ?_); (refine ⟨_, h2 _ _ (by first | omega | (simp; done) | (simp; omega)), ?_⟩); (try simp only [go_sem])) | ((refine call ?_); (refine ⟨_, hd _ _ (by first | omega | (simp; done) | (simp; omega)), ?_⟩); (try simp only [go_sem])) | ((refine call ?_); (refine ⟨_, hw _ _ (by first | omega | (simp; done) | (simp; omega)), ?_⟩); (try simp only [go_sem]))) | ((first | (refine bsp ?_ ?_) | (refine csp ?_ ?_)); all_goals (intro hb; (fail_if_success (cases hb; done)); (try simp only [decide_eq_true_eq, decide_eq_false_iff_not, beq_iff_eq, bne_iff_ne, ne_eq, beq_eq_false_iff_ne, bne_eq_false_iff_eq, Bool.not_eq_true', Bool.not_eq_false', Bool.and_eq_true, Bool.or_eq_true, Decidable.not_not] at hb); (try simp only [go_sem]))))
  refine ⟨by first | exact .inr rfl | exact .inl rfl, .inl ⟨[], _, (by dsimp only [Tryd.f50]; exact sv), ?_, by simp⟩⟩
  rfl
theorem wOp6_ev (a b : Int) (ha : Big a) (hb : Big b) (sto : Sto) (lo : Nat) (hlo : lo ≤ sto.length) : CallEv Tryd.prog tab B0 50 [.v (VI 6), .v (VI a), .v (VI b)] sto lo (.v (.tup [VI (opW 6 (wrapS a) (wrapS b)), VI (codeW 6 (wrapS b))])) sto := by
  have h1 := fun sto lo hlo => wWrap_ev a ha sto lo hlo
  have h2 := fun sto lo hlo => wWrap_ev b hb sto lo hlo
  have hx := wrap_wd a
  have hy := wrap_wd b
  generalize wrapS a = x at *
  generalize wrapS b = y at *
  have e : opW 6 x y = wrapS (orI .i64 x y) := (show opW 6 x y = wrapS _ from by simp [opW]).trans (or_words x (mem_words hx.1 hx.2) y (mem_words hy.1 hy.2)).symm
  have hsm := small_words x (mem_words hx.1 hx.2) y (mem_words hy.1 hy.2)
  rw [e, show codeW 6 y = 0 from by simp [codeW]]
  have hd := fun sto lo hlo => do6_ev x y hx hy sto lo hlo
  have hbg : Big (orI .i64 x y) := ⟨by have h1 := hx.1; have h2 := hx.2; have h3 := hy.1; have h4 := hy.2; omega, by have h1 := hx.1; have h2 := hx.2; have h3 := hy.1; have h4 := hy.2; omega⟩
  have hw := fun sto lo hlo => wWrap_ev (orI .i64 x y) hbg sto lo hlo
  clear e
  refine CallEv.intro ⟨_, _, [], Tryd.func50, rfl, by decide, ?_⟩; simp only [go_sem, Tryd.ntmps50]
  repeat' (first | (refine go ⟨?_⟩) | (first | ((refine call ?_); (refine ⟨_, h1 _ _ (by first | omega | (simp; done) | (simp; omega)), ?_⟩); (try simp only [go_sem])) | ((refine call ?_); (refine ⟨_, h2 _ _ (by first | omega | (simp; done) | (simp; omega)), ?_⟩); (try simp only [go_sem])) | ((refine call ?_); (refine ⟨_, hd _ _ (by first | omega | (simp; done) | (simp; omega)), ?_⟩); (try simp only [go_sem])) | ((refine call ?_); (refine ⟨_, hw _ _ (by first | omega | (simp; done) | (simp; omega)), ?_⟩); (try simp only [go_sem]))) | ((first | (refine bsp ?_ ?_) | (refine csp ?_ ?_)); all_goals (intro hb; (fail_if_success (cases hb; done)); (try simp only [decide_eq_true_eq, decide_eq_false_iff_not, beq_iff_eq, bne_iff_ne, ne_eq, beq_eq_false_iff_ne, bne_eq_false_iff_eq, Bool.not_eq_true', Bool.not_eq_false', Bool.and_eq_true, Bool.or_eq_true, Decidable.not_not] at hb); (try simp only [go_sem]))))
  refine ⟨by first | exact .inr rfl | exact .inl rfl, .inl ⟨[], _, (by dsimp only [Tryd.f50]; exact sv), ?_, by simp⟩⟩
  rfl
theorem wOp7_ev (a b : Int) (ha : Big a) (hb : Big b) (sto : Sto) (lo : Nat) (hlo : lo ≤ sto.length) : CallEv Tryd.prog tab B0 50 [.v (VI 7), .v (VI a), .v (VI b)] sto lo (.v (.tup [VI (opW 7 (wrapS a) (wrapS b)), VI (codeW 7 (wrapS b))])) sto := by
  have h1 := fun sto lo hlo => wWrap_ev a ha sto lo hlo
  have h2 := fun sto lo hlo => wWrap_ev b hb sto lo hlo
  have hx := wrap_wd a
  have hy := wrap_wd b
  generalize wrapS a = x at *
  generalize wrapS b = y at *
  have e : opW 7 x y = wrapS (xorI .i64 x y) := (show opW 7 x y = wrapS _ from by simp [opW]).trans (xor_words x (mem_words hx.1 hx.2) y (mem_words hy.1 hy.2)).symm
  have hsm := small_words x (mem_words hx.1 hx.2) y (mem_words hy.1 hy.2)
  rw [e, show codeW 7 y = 0 from by simp [codeW]]
  have hd := fun sto lo hlo => do7_ev x y hx hy sto lo hlo
  have hbg : Big (xorI .i64 x y) := ⟨by have h1 := hx.1; have h2 := hx.2; have h3 := hy.1; have h4 := hy.2; omega, by have h1 := hx.1; have h2 := hx.2; have h3 := hy.1; have h4 := hy.2; omega⟩
  have hw := fun sto lo hlo => wWrap_ev (xorI .i64 x y) hbg sto lo hlo
  clear e
  refine CallEv.intro ⟨_, _, [], Tryd.func50, rfl, by decide, ?_⟩; simp only [go_sem, Tryd.ntmps50]
  repeat' (first | (refine go ⟨?_⟩) | (first | ((refine call ?_); (refine ⟨_, h1 _ _ (by first | omega | (simp; done) | (simp; omega)), ?_⟩); (try simp only [go_sem])) | ((refine call ?_); (refine ⟨_, h2 _ _ (by first | omega | (simp; done) | (simp; omega)), ?_⟩); (try simp only [go_sem])) | ((refine call ?_); (refine ⟨_, hd _ _ (by first | omega | (simp; done) | (simp; omega)), ?_⟩); (try simp only [go_sem])) | ((refine call ?_); (refine ⟨_, hw _ _ (by first | omega | (simp; done) | (simp; omega)), ?_⟩); (try simp only [go_sem]))) | ((first | (refine bsp ?_ ?_) | (refine csp ?_ ?_)); all_goals (intro hb; (fail_if_success (cases hb; done)); (try simp only [decide_eq_true_eq, decide_eq_false_iff_not, beq_iff_eq, bne_iff_ne, ne_eq, beq_eq_false_iff_ne, bne_eq_false_iff_eq, Bool.not_eq_true', Bool.not_eq_false', Bool.and_eq_true, Bool.or_eq_true, Decidable.not_not] at hb); (try simp only [go_sem]))))
  refine ⟨by first | exact .inr rfl | exact .inl rfl, .inl ⟨[], _, (by dsimp only [Tryd.f50]; exact sv), ?_, by simp⟩⟩
  rfl
theorem wOp8_ev (a b : Int) (ha : Big a) (hb : Big b) (sto : Sto) (lo : Nat) (hlo : lo ≤ sto.length) : CallEv Tryd.prog tab B0 50 [.v (VI 8), .v (VI a), .v (VI b)] sto lo (.v (.tup [VI (opW 8 (wrapS a) (wrapS b)), VI (codeW 8 (wrapS b))])) sto := by
  have h1 := fun sto lo hlo => wWrap_ev a ha sto lo hlo
  have h2 := fun sto lo hlo => wWrap_ev b hb sto lo hlo
  have hx := wrap_wd a
  have hy := wrap_wd b
  generalize wrapS a = x at *
  generalize wrapS b = y at *
  have e : opW 8 x y = wrapS (x * ((2 ^ (bitsW y % 4) : Nat) : Int)) := by simp [opW]
  have hsm := do_small hx hy
  rw [e, show codeW 8 y = 0 from by simp [codeW]]
  have hd := fun sto lo hlo => do8_ev x y hx hy sto lo hlo
  have hbg : Big (x * ((2 ^ (bitsW y % 4) : Nat) : Int)) := ⟨by have h1 := hx.1; have h2 := hx.2; have h3 := hy.1; have h4 := hy.2; omega, by have h1 := hx.1; have h2 := hx.2; have h3 := hy.1; have h4 := hy.2; omega⟩
  have hw := fun sto lo hlo => wWrap_ev (x * ((2 ^ (bitsW y % 4) : Nat) : Int)) hbg sto lo hlo
  clear e
  refine CallEv.intro ⟨_, _, [], Tryd.func50, rfl, by decide, ?_⟩; simp only [go_sem, Tryd.ntmps50]
  repeat' (first | (refine go ⟨?_⟩) | (first | ((refine call ?_); (refine ⟨_, h1 _ _ (by first | omega | (simp; done) | (simp; omega)), ?_⟩); (try simp only [go_sem])) | ((refine call ?_); (refine ⟨_, h2 _ _ (by first | omega | (simp; done) | (simp; omega)), ?_⟩); (try simp only [go_sem])) | ((refine call ?_); (refine ⟨_, hd _ _ (by first | omega | (simp; done) | (simp; omega)), ?_⟩); (try simp only [go_sem])) | ((refine call ?_); (refine ⟨_, hw _ _ (by first | omega | (simp; done) | (simp; omega)), ?_⟩); (try simp only [go_sem]))) | ((first | (refine bsp ?_ ?_) | (refine csp ?_ ?_)); all_goals (intro hb; (fail_if_success (cases hb; done)); (try simp only [decide_eq_true_eq, decide_eq_false_iff_not, beq_iff_eq, bne_iff_ne, ne_eq, beq_eq_false_iff_ne, bne_eq_false_iff_eq, Bool.not_eq_true', Bool.not_eq_false', Bool.and_eq_true, Bool.or_eq_true, Decidable.not_not] at hb); (try simp only [go_sem]))))
  refine ⟨by first | exact .inr rfl | exact .inl rfl, .inl ⟨[], _, (by dsimp only [Tryd.f50]; exact sv), ?_, by simp⟩⟩
  rfl
theorem wOp9_ev (a b : Int) (ha : Big a) (hb : Big b) (sto : Sto) (lo : Nat) (hlo : lo ≤ sto.length) : CallEv Tryd.prog tab B0 50 [.v (VI 9), .v (VI a), .v (VI b)] sto lo (.v (.tup [VI (opW 9 (wrapS a) (wrapS b)), VI (codeW 9 (wrapS b))])) sto := by
  have h1 := fun sto lo hlo => wWrap_ev a ha sto lo hlo
  have h2 := fun sto lo hlo => wWrap_ev b hb sto lo hlo
  have hx := wrap_wd a
  have hy := wrap_wd b
  generalize wrapS a = x at *
  generalize wrapS b = y at *
  have e : opW 9 x y = wrapS (x.fdiv ((2 ^ (bitsW y % 4) : Nat) : Int)) := by simp [opW]
  have hsm := do_small hx hy
  rw [e, show codeW 9 y = 0 from by simp [codeW]]
  have hd := fun sto lo hlo => do9_ev x y hx hy sto lo hlo
  have hbg : Big (x.fdiv ((2 ^ (bitsW y % 4) : Nat) : Int)) := ⟨by have h1 := hx.1; have h2 := hx.2; have h3 := hy.1; have h4 := hy.2; omega, by have h1 := hx.1; have h2 := hx.2; have h3 := hy.1; have h4 := hy.2; omega⟩
  have hw := fun sto lo hlo => wWrap_ev (x.fdiv ((2 ^ (bitsW y % 4) : Nat) : Int)) hbg sto lo hlo
  clear e
  refine CallEv.intro ⟨_, _, [], Tryd.func50, rfl, by decide, ?_⟩; simp only [go_sem, Tryd.ntmps50]
  repeat' (first | (refine go ⟨?_⟩) | (first | ((refine call ?_); (refine ⟨_, h1 _ _ (by first | omega | (simp; done) | (simp; omega)), ?_⟩); (try simp only [go_sem])) | ((refine call ?_); (refine ⟨_, h2 _ _ (by first | omega | (simp; done) | (simp; omega)), ?_⟩); (try simp only [go_sem])) | ((refine call ?_); (refine ⟨_, hd _ _ (by first | omega | (simp; done) | (simp; omega)), ?_⟩); (try simp only [go_sem])) | ((refine call ?_); (refine ⟨_, hw _ _ (by first | omega | (simp; done) | (simp; omega)), ?_⟩); (try simp only [go_sem]))) | ((first | (refine bsp ?_ ?_) | (refine csp ?_ ?_)); all_goals (intro hb; (fail_if_success (cases hb; done)); (try simp only [decide_eq_true_eq, decide_eq_false_iff_not, beq_iff_eq, bne_iff_ne, ne_eq, beq_eq_false_iff_ne, bne_eq_false_iff_eq, Bool.not_eq_true', Bool.not_eq_false', Bool.and_eq_true, Bool.or_eq_true, Decidable.not_not] at hb); (try simp only [go_sem]))))
  refine ⟨by first | exact .inr rfl | exact .inl rfl, .inl ⟨[], _, (by dsimp only [Tryd.f50]; exact sv), ?_, by simp⟩⟩
  rfl
theorem wOp10_ev (a b : Int) (ha : Big a) (hb : Big b) (sto : Sto) (lo : Nat) (hlo : lo ≤ sto.length) : CallEv Tryd.prog tab B0 50 [.v (VI 10), .v (VI a), .v (VI b)] sto lo (.v (.tup [VI (opW 10 (wrapS a) (wrapS b)), VI (codeW 10 (wrapS b))])) sto := by
  have h1 := fun sto lo hlo => wWrap_ev a ha sto lo hlo
  have h2 := fun sto lo hlo => wWrap_ev b hb sto lo hlo
  have hx := wrap_wd a
  have hy := wrap_wd b
  generalize wrapS a = x at *
  generalize wrapS b = y at *
  have e : opW 10 x y = if decide (x < y) then 1 else 0 := by simp [opW]
  rw [e, show codeW 10 y = 0 from by simp [codeW]]
  have hd := fun sto lo hlo => do10_ev x y sto lo hlo
  have hr : (if decide (x < y) then 1 else 0) = (0 : Int) ∨ (if decide (x < y) then 1 else 0) = (1 : Int) := by split <;> simp
  generalize (if decide (x < y) then 1 else 0 : Int) = r at *
  have hbg : Big (r) := ⟨by have h1 := hx.1; have h2 := hx.2; have h3 := hy.1; have h4 := hy.2; omega, by have h1 := hx.1; have h2 := hx.2; have h3 := hy.1; have h4 := hy.2; omega⟩
  have hw := fun sto lo hlo => wWrap_ev (r) hbg sto lo hlo
  rw [wrapS_id (by omega) (by omega)] at hw
  clear e
  refine CallEv.intro ⟨_, _, [], Tryd.func50, rfl, by decide, ?_⟩; simp only [go_sem, Tryd.ntmps50]
  repeat' (first | (refine go ⟨?_⟩) | (first | ((refine call ?_); (refine ⟨_, h1 _ _ (by first | omega | (simp; done) | (simp; omega)), ?_⟩); (try simp only [go_sem])) | ((refine call ?_); (refine ⟨_, h2 _ _ (by first | omega | (simp; done) | (simp; omega)), ?_⟩); (try simp only [go_sem])) | ((refine call ?_); (refine ⟨_, hd _ _ (by first | omega | (simp; done) | (simp; omega)), ?_⟩); (try simp only [go_sem])) | ((refine call ?_); (refine ⟨_, hw _ _ (by first | omega | (simp; done) | (simp; omega)), ?_⟩); (try simp only [go_sem]))) | ((first | (refine bsp ?_ ?_) | (refine csp ?_ ?_)); all_goals (intro hb; (fail_if_success (cases hb; done)); (try simp only [decide_eq_true_eq, decide_eq_false_iff_not, beq_iff_eq, bne_iff_ne, ne_eq, beq_eq_false_iff_ne, bne_eq_false_iff_eq, Bool.not_eq_true', Bool.not_eq_false', Bool.and_eq_true, Bool.or_eq_true, Decidable.not_not] at hb); (try simp only [go_sem]))))
  refine ⟨by first | exact .inr rfl | exact .inl rfl, .inl ⟨[], _, (by dsimp only [Tryd.f50]; exact sv), ?_, by simp⟩⟩
  rfl
theorem wOp11_ev (a b : Int) (ha : Big a) (hb : Big b) (sto : Sto) (lo : Nat) (hlo : lo ≤ sto.length) : CallEv Tryd.prog tab B0 50 [.v (VI 11), .v (VI a), .v (VI b)] sto lo (.v (.tup [VI (opW 11 (wrapS a) (wrapS b)), VI (codeW 11 (wrapS b))])) sto := by
  have h1 := fun sto lo hlo => wWrap_ev a ha sto lo hlo
  have h2 := fun sto lo hlo => wWrap_ev b hb sto lo hlo
  have hx := wrap_wd a
  have hy := wrap_wd b
  generalize wrapS a = x at *
  generalize wrapS b = y at *
  have e : opW 11 x y = if decide (x = y) then 1 else 0 := by simp [opW]
  rw [e, show codeW 11 y = 0 from by simp [codeW]]
  have hd := fun sto lo hlo => do11_ev x y sto lo hlo
  have hr : (if decide (x = y) then 1 else 0) = (0 : Int) ∨ (if decide (x = y) then 1 else 0) = (1 : Int) := by split <;> simp
  generalize (if decide (x = y) then 1 else 0 : Int) = r at *
  have hbg : Big (r) := ⟨by have h1 := hx.1; have h2 := hx.2; have h3 := hy.1; have h4 := hy.2; omega, by have h1 := hx.1; have h2 := hx.2; have h3 := hy.1; have h4 := hy.2; omega⟩
  have hw := fun sto lo hlo => wWrap_ev (r) hbg sto lo hlo
  rw [wrapS_id (by omega) (by omega)] at hw
  clear e
  refine CallEv.intro ⟨_, _, [], Tryd.func50, rfl, by decide, ?_⟩; simp only [go_sem, Tryd.ntmps50]
  repeat' (first | (refine go ⟨?_⟩) | (first | ((refine call ?_); (refine ⟨_, h1 _ _ (by first | omega | (simp; done) | (simp; omega)), ?_⟩); (try simp only [go_sem])) | ((refine call ?_); (refine ⟨_, h2 _ _ (by first | omega | (simp; done) | (simp; omega)), ?_⟩); (try simp only [go_sem])) | ((refine call ?_); (refine ⟨_, hd _ _ (by first | omega | (simp; done) | (simp; omega)), ?_⟩); (try simp only [go_sem])) | ((refine call ?_); (refine ⟨_, hw _ _ (by first | omega | (simp; done) | (simp; omega)), ?_⟩); (try simp only [go_sem]))) | ((first | (refine bsp ?_ ?_) | (refine csp ?_ ?_)); all_goals (intro hb; (fail_if_success (cases hb; done)); (try simp only [decide_eq_true_eq, decide_eq_false_iff_not, beq_iff_eq, bne_iff_ne, ne_eq, beq_eq_false_iff_ne, bne_eq_false_iff_eq, Bool.not_eq_true', Bool.not_eq_false', Bool.and_eq_true, Bool.or_eq_true, Decidable.not_not] at hb); (try simp only [go_sem]))))
  refine ⟨by first | exact .inr rfl | exact .inl rfl, .inl ⟨[], _, (by dsimp only [Tryd.f50]; exact sv), ?_, by simp⟩⟩
  rfl
theorem wOp12_ev (a b : Int) (ha : Big a) (hb : Big b) (sto : Sto) (lo : Nat) (hlo : lo ≤ sto.length) : CallEv Tryd.prog tab B0 50 [.v (VI 12), .v (VI a), .v (VI b)] sto lo (.v (.tup [VI (opW 12 (wrapS a) (wrapS b)), VI (codeW 12 (wrapS b))])) sto := by
  have h1 := fun sto lo hlo => wWrap_ev a ha sto lo hlo
  have h2 := fun sto lo hlo => wWrap_ev b hb sto lo hlo
  have hx := wrap_wd a
  have hy := wrap_wd b
  generalize wrapS a = x at *
  generalize wrapS b = y at *
  have e : opW 12 x y = if x ≠ 0 ∧ y ≠ 0 then 1 else 0 := by simp [opW]
  rw [e, show codeW 12 y = 0 from by simp [codeW]]
  have hd := fun sto lo hlo => do12_ev x y sto lo hlo
  have hr : (if x ≠ 0 ∧ y ≠ 0 then 1 else 0) = (0 : Int) ∨ (if x ≠ 0 ∧ y ≠ 0 then 1 else 0) = (1 : Int) := by split <;> simp
  generalize (if x ≠ 0 ∧ y ≠ 0 then 1 else 0 : Int) = r at *
  have hbg : Big (r) := ⟨by have h1 := hx.1; have h2 := hx.2; have h3 := hy.1; have h4 := hy.2; omega, by have h1 := hx.1; have h2 := hx.2; have h3 := hy.1; have h4 := hy.2; omega⟩
  have hw := fun sto lo hlo => wWrap_ev (r) hbg sto lo hlo
  rw [wrapS_id (by omega) (by omega)] at hw
  clear e
  refine CallEv.intro ⟨_, _, [], Tryd.func50, rfl, by decide, ?_⟩; simp only [go_sem, Tryd.ntmps50]
  repeat' (first | (refine go ⟨?_⟩) | (first | ((refine call ?_); (refine ⟨_, h1 _ _ (by first | omega | (simp; done) | (simp; omega)), ?_⟩); (try simp only [go_sem])) | ((refine call ?_); (refine ⟨_, h2 _ _ (by first | omega | (simp; done) | (simp; omega)), ?_⟩); (try simp only [go_sem])) | ((refine call ?_); (refine ⟨_, hd _ _ (by first | omega | (simp; done) | (simp; omega)), ?_⟩); (try simp only [go_sem])) | ((refine call ?_); (refine ⟨_, hw _ _ (by first | omega | (simp; done) | (simp; omega)), ?_⟩); (try simp only [go_sem]))) | ((first | (refine bsp ?_ ?_) | (refine csp ?_ ?_)); all_goals (intro hb; (fail_if_success (cases hb; done)); (try simp only [decide_eq_true_eq, decide_eq_false_iff_not, beq_iff_eq, bne_iff_ne, ne_eq, beq_eq_false_iff_ne, bne_eq_false_iff_eq, Bool.not_eq_true', Bool.not_eq_false', Bool.and_eq_true, Bool.or_eq_true, Decidable.not_not] at hb); (try simp only [go_sem]))))
  refine ⟨by first | exact .inr rfl | exact .inl rfl, .inl ⟨[], _, (by dsimp only [Tryd.f50]; exact sv), ?_, by simp⟩⟩
  rfl
theorem wOp13_ev (a b : Int) (ha : Big a) (hb : Big b) (sto : Sto) (lo : Nat) (hlo : lo ≤ sto.length) : CallEv Tryd.prog tab B0 50 [.v (VI 13), .v (VI a), .v (VI b)] sto lo (.v (.tup [VI (opW 13 (wrapS a) (wrapS b)), VI (codeW 13 (wrapS b))])) sto := by
  have h1 := fun sto lo hlo => wWrap_ev a ha sto lo hlo
  have h2 := fun sto lo hlo => wWrap_ev b hb sto lo hlo
  have hx := wrap_wd a
  have hy := wrap_wd b
  generalize wrapS a = x at *
  generalize wrapS b = y at *
  have e : opW 13 x y = if x ≠ 0 ∨ y ≠ 0 then 1 else 0 := by simp [opW]
  rw [e, show codeW 13 y = 0 from by simp [codeW]]
  have hd := fun sto lo hlo => do13_ev x y sto lo hlo
  have hr : (if x ≠ 0 ∨ y ≠ 0 then 1 else 0) = (0 : Int) ∨ (if x ≠ 0 ∨ y ≠ 0 then 1 else 0) = (1 : Int) := by split <;> simp
  generalize (if x ≠ 0 ∨ y ≠ 0 then 1 else 0 : Int) = r at *
  have hbg : Big (r) := ⟨by have h1 := hx.1; have h2 := hx.2; have h3 := hy.1; have h4 := hy.2; omega, by have h1 := hx.1; have h2 := hx.2; have h3 := hy.1; have h4 := hy.2; omega⟩
  have hw := fun sto lo hlo => wWrap_ev (r) hbg sto lo hlo
  rw [wrapS_id (by omega) (by omega)] at hw
  clear e
  refine CallEv.intro ⟨_, _, [], Tryd.func50, rfl, by decide, ?_⟩; simp only [go_sem, Tryd.ntmps50]
  repeat' (first | (refine go ⟨?_⟩) | (first | ((refine call ?_); (refine ⟨_, h1 _ _ (by first | omega | (simp; done) | (simp; omega)), ?_⟩); (try simp only [go_sem])) | ((refine call ?_); (refine ⟨_, h2 _ _ (by first | omega | (simp; done) | (simp; omega)), ?_⟩); (try simp only [go_sem])) | ((refine call ?_); (refine ⟨_, hd _ _ (by first | omega | (simp; done) | (simp; omega)), ?_⟩); (try simp only [go_sem])) | ((refine call ?_); (refine ⟨_, hw _ _ (by first | omega | (simp; done) | (simp; omega)), ?_⟩); (try simp only [go_sem]))) | ((first | (refine bsp ?_ ?_) | (refine csp ?_ ?_)); all_goals (intro hb; (fail_if_success (cases hb; done)); (try simp only [decide_eq_true_eq, decide_eq_false_iff_not, beq_iff_eq, bne_iff_ne, ne_eq, beq_eq_false_iff_ne, bne_eq_false_iff_eq, Bool.not_eq_true', Bool.not_eq_false', Bool.and_eq_true, Bool.or_eq_true, Decidable.not_not] at hb); (try simp only [go_sem]))))
  refine ⟨by first | exact .inr rfl | exact .inl rfl, .inl ⟨[], _, (by dsimp only [Tryd.f50]; exact sv), ?_, by simp⟩⟩
  rfl
end Go.Proofs.YtomameefmobnlaaDoor
namespace Go.Proofs.YtomameefmobnlaaDoor
open Go Go.RowKit

attribute [local irreducible] EvOps EvC
attribute [local go_sem] List.getElem?_toArray getS List.flatten_cons List.flatten_nil List.contains_nil
set_option linter.unusedSimpArgs false
set_option linter.unusedVariables false
set_option maxRecDepth 100000
set_option maxHeartbeats 4000000
theorem refVar_ev (n m : Int) (sto : Sto) (lo : Nat) (hlo : lo ≤ sto.length) : CallEv Tryd.prog tab B0 39 [.v (VI n), .v (VI m)] sto lo (.v (TV (.mk 6 n m []))) sto := by
  refine CallEv.intro ⟨_, _, [], Tryd.func39, rfl, by decide, ?_⟩; simp only [go_sem, Tryd.ntmps39]
  repeat' (first | (refine go ⟨?_⟩) | (fail) | ((first | (refine bsp ?_ ?_) | (refine csp ?_ ?_)); all_goals (intro hb; (fail_if_success (cases hb; done)); (try simp only [decide_eq_true_eq, decide_eq_false_iff_not, beq_iff_eq, bne_iff_ne, ne_eq, beq_eq_false_iff_ne, bne_eq_false_iff_eq, Bool.not_eq_true', Bool.not_eq_false', Bool.and_eq_true, Bool.or_eq_true, Decidable.not_not] at hb); (try simp only [go_sem]))))
  refine ⟨by first | exact .inr rfl | exact .inl rfl, .inl ⟨[], _, (by dsimp only [Tryd.f39]; exact sv), ?_, by simp⟩⟩
  rfl
theorem refBin_ev (op : Int) (a b : Tr) (sto : Sto) (lo : Nat) (hlo : lo ≤ sto.length) : CallEv Tryd.prog tab B0 31 [.v (VI op), .v (TV a), .v (TV b)] sto lo (.v (TV (.mk 9 op 0 [a, b]))) sto := by
  obtain ⟨k1, n1, m1, l1⟩ := a
  obtain ⟨k2, n2, m2, l2⟩ := b
  refine CallEv.intro ⟨_, _, [], Tryd.func31, rfl, by decide, ?_⟩; simp only [go_sem, Tryd.ntmps31]
  repeat' (first | (refine go ⟨?_⟩) | (fail) | ((first | (refine bsp ?_ ?_) | (refine csp ?_ ?_)); all_goals (intro hb; (fail_if_success (cases hb; done)); (try simp only [decide_eq_true_eq, decide_eq_false_iff_not, beq_iff_eq, bne_iff_ne, ne_eq, beq_eq_false_iff_ne, bne_eq_false_iff_eq, Bool.not_eq_true', Bool.not_eq_false', Bool.and_eq_true, Bool.or_eq_true, Decidable.not_not] at hb); (try simp only [go_sem]))))
  refine ⟨by first | exact .inr rfl | exact .inl rfl, .inl ⟨[], _, (by dsimp only [Tryd.f31]; exact sv), ?_, by simp⟩⟩
  rfl
theorem refNot_ev (a : Tr) (sto : Sto) (lo : Nat) (hlo : lo ≤ sto.length) : CallEv Tryd.prog tab B0 32 [.v (TV a)] sto lo (.v (TV (.mk 10 0 0 [a]))) sto := by
  obtain ⟨k1, n1, m1, l1⟩ := a
  refine CallEv.intro ⟨_, _, [], Tryd.func32, rfl, by decide, ?_⟩; simp only [go_sem, Tryd.ntmps32]
  repeat' (first | (refine go ⟨?_⟩) | (fail) | ((first | (refine bsp ?_ ?_) | (refine csp ?_ ?_)); all_goals (intro hb; (fail_if_success (cases hb; done)); (try simp only [decide_eq_true_eq, decide_eq_false_iff_not, beq_iff_eq, bne_iff_ne, ne_eq, beq_eq_false_iff_ne, bne_eq_false_iff_eq, Bool.not_eq_true', Bool.not_eq_false', Bool.and_eq_true, Bool.or_eq_true, Decidable.not_not] at hb); (try simp only [go_sem]))))
  refine ⟨by first | exact .inr rfl | exact .inl rfl, .inl ⟨[], _, (by dsimp only [Tryd.f32]; exact sv), ?_, by simp⟩⟩
  rfl
theorem refCond_ev (c a b : Tr) (sto : Sto) (lo : Nat) (hlo : lo ≤ sto.length) : CallEv Tryd.prog tab B0 30 [.v (TV c), .v (TV a), .v (TV b)] sto lo (.v (TV (.mk 29 0 0 [c, a, b]))) sto := by
  obtain ⟨k0, n0, m0, l0⟩ := c
  obtain ⟨k1, n1, m1, l1⟩ := a
  obtain ⟨k2, n2, m2, l2⟩ := b
  refine CallEv.intro ⟨_, _, [], Tryd.func30, rfl, by decide, ?_⟩; simp only [go_sem, Tryd.ntmps30]
  repeat' (first | (refine go ⟨?_⟩) | (fail) | ((first | (refine bsp ?_ ?_) | (refine csp ?_ ?_)); all_goals (intro hb; (fail_if_success (cases hb; done)); (try simp only [decide_eq_true_eq, decide_eq_false_iff_not, beq_iff_eq, bne_iff_ne, ne_eq, beq_eq_false_iff_ne, bne_eq_false_iff_eq, Bool.not_eq_true', Bool.not_eq_false', Bool.and_eq_true, Bool.or_eq_true, Decidable.not_not] at hb); (try simp only [go_sem]))))
  refine ⟨by first | exact .inr rfl | exact .inl rfl, .inl ⟨[], _, (by dsimp only [Tryd.f30]; exact sv), ?_, by simp⟩⟩
  rfl
theorem refWrap_ev (n : Int) (hn : Big n) (sto : Sto) (lo : Nat) (hlo : lo ≤ sto.length) : CallEv Tryd.prog tab B0 52 [.v (VI n)] sto lo (.v (VI (wrapS n))) sto := by
  have h1 := Int.lt_tmod_of_pos n (b := 16) (by omega)
  have h2 := Int.tmod_lt_of_pos n (b := 16) (by omega)
  obtain ⟨hn1, hn2⟩ := hn
  unfold wrapS
  refine CallEv.intro ⟨_, _, [], Tryd.func52, rfl, by decide, ?_⟩; simp only [go_sem, Tryd.ntmps52]
  by_cases c1 : n.tmod 16 < -8
  · rw [if_pos c1]
    repeat' (first | (refine go ⟨?_⟩) | (fail) | ((first | (refine bsp ?_ ?_) | (refine csp ?_ ?_)); all_goals (intro hb; (fail_if_success (cases hb; done)); (try simp only [decide_eq_true_eq, decide_eq_false_iff_not, beq_iff_eq, bne_iff_ne, ne_eq, beq_eq_false_iff_ne, bne_eq_false_iff_eq, Bool.not_eq_true', Bool.not_eq_false', Bool.and_eq_true, Bool.or_eq_true, Decidable.not_not] at hb); (try simp only [go_sem]))))
    refine ⟨by first | exact .inr rfl | exact .inl rfl, .inl ⟨[], _, (by dsimp only [Tryd.f52]; exact sv), ?_, by simp⟩⟩
    rfl
  rw [if_neg c1]
  by_cases c2 : n.tmod 16 > 7
  · rw [if_pos c2]
    repeat' (first | (refine go ⟨?_⟩) | (fail) | ((first | (refine bsp ?_ ?_) | (refine csp ?_ ?_)); all_goals (intro hb; (fail_if_success (cases hb; done)); (try simp only [decide_eq_true_eq, decide_eq_false_iff_not, beq_iff_eq, bne_iff_ne, ne_eq, beq_eq_false_iff_ne, bne_eq_false_iff_eq, Bool.not_eq_true', Bool.not_eq_false', Bool.and_eq_true, Bool.or_eq_true, Decidable.not_not] at hb); (try simp only [go_sem]))))
    refine ⟨by first | exact .inr rfl | exact .inl rfl, .inl ⟨[], _, (by dsimp only [Tryd.f52]; exact sv), ?_, by simp⟩⟩
    rfl
  · rw [if_neg c2]
    repeat' (first | (refine go ⟨?_⟩) | (fail) | ((first | (refine bsp ?_ ?_) | (refine csp ?_ ?_)); all_goals (intro hb; (fail_if_success (cases hb; done)); (try simp only [decide_eq_true_eq, decide_eq_false_iff_not, beq_iff_eq, bne_iff_ne, ne_eq, beq_eq_false_iff_ne, bne_eq_false_iff_eq, Bool.not_eq_true', Bool.not_eq_false', Bool.and_eq_true, Bool.or_eq_true, Decidable.not_not] at hb); (try simp only [go_sem]))))
    refine ⟨by first | exact .inr rfl | exact .inl rfl, .inl ⟨[], _, (by dsimp only [Tryd.f52]; exact sv), ?_, by simp⟩⟩
    rfl
theorem refBits_ev (n : Int) (hn : Big n) (sto : Sto) (lo : Nat) (hlo : lo ≤ sto.length) : CallEv Tryd.prog tab B0 73 [.v (VI n)] sto lo (.v (VI (bitsW n))) sto := by
  have h := wrapS_range n
  have hw := fun sto lo hlo => refWrap_ev n hn sto lo hlo
  have e : ((bitsW n : Nat) : Int) = (wrapS n + 16).tmod 16 := by
    unfold bitsW
    rw [Int.tmod_eq_emod_of_nonneg (by omega)]; omega
  rw [e]
  generalize wrapS n = w at *
  have h1 := Int.lt_tmod_of_pos (w + 16) (b := 16) (by omega)
  have h2 := Int.tmod_lt_of_pos (w + 16) (b := 16) (by omega)
  refine CallEv.intro ⟨_, _, [], Tryd.func73, rfl, by decide, ?_⟩; simp only [go_sem, Tryd.ntmps73]
  repeat' (first | (refine go ⟨?_⟩) | (((refine call ?_); (refine ⟨_, hw _ _ (by first | omega | (simp; done) | (simp; omega)), ?_⟩); (try simp only [go_sem]))) | ((first | (refine bsp ?_ ?_) | (refine csp ?_ ?_)); all_goals (intro hb; (fail_if_success (cases hb; done)); (try simp only [decide_eq_true_eq, decide_eq_false_iff_not, beq_iff_eq, bne_iff_ne, ne_eq, beq_eq_false_iff_ne, bne_eq_false_iff_eq, Bool.not_eq_true', Bool.not_eq_false', Bool.and_eq_true, Bool.or_eq_true, Decidable.not_not] at hb); (try simp only [go_sem]))))
  refine ⟨by first | exact .inr rfl | exact .inl rfl, .inl ⟨[], _, (by dsimp only [Tryd.f73]; exact sv), ?_, by simp⟩⟩
  rfl
theorem refNumber_ev (b : Bool) (sto : Sto) (lo : Nat) (hlo : lo ≤ sto.length) : CallEv Tryd.prog tab B0 51 [.v (.bool b)] sto lo (.v (VI (if b then 1 else 0))) sto := by
  cases b
  all_goals
    refine CallEv.intro ⟨_, _, [], Tryd.func51, rfl, by decide, ?_⟩; simp only [go_sem, Tryd.ntmps51]
    repeat' (first | (refine go ⟨?_⟩) | (fail) | ((first | (refine bsp ?_ ?_) | (refine csp ?_ ?_)); all_goals (intro hb; (fail_if_success (cases hb; done)); (try simp only [decide_eq_true_eq, decide_eq_false_iff_not, beq_iff_eq, bne_iff_ne, ne_eq, beq_eq_false_iff_ne, bne_eq_false_iff_eq, Bool.not_eq_true', Bool.not_eq_false', Bool.and_eq_true, Bool.or_eq_true, Decidable.not_not] at hb); (try simp only [go_sem]))))
    refine ⟨by first | exact .inr rfl | exact .inl rfl, .inl ⟨[], _, (by dsimp only [Tryd.f51]; exact sv), ?_, by simp⟩⟩
    rfl
end Go.Proofs.YtomameefmobnlaaDoor
namespace Go.Proofs.YtomameefmobnlaaDoor
open Go Go.RowKit

attribute [local irreducible] EvOps EvC
attribute [local go_sem] List.getElem?_toArray getS List.flatten_cons List.flatten_nil List.contains_nil
set_option linter.unusedSimpArgs false
set_option linter.unusedVariables false
set_option maxRecDepth 100000
set_option maxHeartbeats 4000000
theorem quot0_ev (a b : Int) (ha : 0 ≤ a) (ha2 : a ≤ 8) (hb : 0 < b) (hb2 : b ≤ 8) (sto : Sto) (lo : Nat) (hlo : lo ≤ sto.length) : CallEv Tryd.prog tab B0 70 [.v (VI a), .v (VI b)] sto lo (.v (VI (a.tdiv b))) sto := by
  refine CallEv.intro ⟨_, _, [], Tryd.func70, rfl, by decide, ?_⟩; simp only [go_sem, Tryd.ntmps70]
  repeat' (first | (refine go ⟨?_⟩) | (fail) | ((first | (refine bsp ?_ ?_) | (refine csp ?_ ?_)); all_goals (intro hb; (fail_if_success (cases hb; done)); (try simp only [decide_eq_true_eq, decide_eq_false_iff_not, beq_iff_eq, bne_iff_ne, ne_eq, beq_eq_false_iff_ne, bne_eq_false_iff_eq, Bool.not_eq_true', Bool.not_eq_false', Bool.and_eq_true, Bool.or_eq_true, Decidable.not_not] at hb); (try simp only [go_sem]))))
  refine c_loop (fun m s => ∃ (r n : Int), (0 ≤ r ∧ r ≤ 8 ∧ 0 ≤ n ∧ n ≤ 8 - r ∧ m = r.toNat ∧ Hid (r + n * b = a)) ∧ (s.env.length = 29 ∧ s.sto = sto ∧ s.env[0]? = some (.v (VI r)) ∧ s.env[1]? = some (.v (VI b)) ∧ s.env[5]? = some (.v (VI n)))) (.refl _) ⟨a, 0, ⟨ha, ha2, by omega, by omega, rfl, Lib.hid (by simp)⟩, rfl, rfl, ?_, ?_, ?_⟩ ?_
  all_goals first | rfl | skip
  rintro m s ⟨r, n, ⟨h1, h2, h3, h4, rfl, h5⟩, hL, hT, k0, k1, k5⟩
  obtain ⟨env, st0⟩ := s; obtain ⟨J, hJ⟩ := listJ hL; rw [show (List.range 29).map J = J 0 :: J 1 :: J 2 :: J 3 :: J 4 :: J 5 :: J 6 :: J 7 :: J 8 :: J 9 :: J 10 :: J 11 :: J 12 :: J 13 :: J 14 :: J 15 :: J 16 :: J 17 :: J 18 :: J 19 :: J 20 :: J 21 :: J 22 :: J 23 :: J 24 :: J 25 :: J 26 :: J 27 :: J 28 :: [] from by kernel_rfl] at hJ; replace k0 := Option.some.inj ((congrArg (·[0]?) hJ).symm.trans k0); replace k1 := Option.some.inj ((congrArg (·[1]?) hJ).symm.trans k1); replace k5 := Option.some.inj ((congrArg (·[5]?) hJ).symm.trans k5); rw [k0, k1, k5] at hJ; dsimp only at hJ hT; subst hJ; replace hT := hT.symm; subst hT; clear hL k0 k1 k5
  by_cases hc : r ≥ b
  · repeat' (first | (refine go ⟨?_⟩) | (fail) | ((first | (refine bsp ?_ ?_) | (refine csp ?_ ?_)); all_goals (intro hb; (fail_if_success (cases hb; done)); (try simp only [decide_eq_true_eq, decide_eq_false_iff_not, beq_iff_eq, bne_iff_ne, ne_eq, beq_eq_false_iff_ne, bne_eq_false_iff_eq, Bool.not_eq_true', Bool.not_eq_false', Bool.and_eq_true, Bool.or_eq_true, Decidable.not_not] at hb); (try simp only [go_sem]))))
    refine ⟨_, _, ?_, .refl _, r - b, n + 1, ⟨by omega, by omega, by omega, by omega, rfl, Lib.hid ?_⟩, rfl, rfl, ?_, ?_, ?_⟩
    · omega
    · have h5 : r + n * b = a := h5
      rw [Int.add_mul]; omega
    all_goals rfl
  · repeat' (first | (refine go ⟨?_⟩) | (fail) | ((first | (refine bsp ?_ ?_) | (refine csp ?_ ?_)); all_goals (intro hb; (fail_if_success (cases hb; done)); (try simp only [decide_eq_true_eq, decide_eq_false_iff_not, beq_iff_eq, bne_iff_ne, ne_eq, beq_eq_false_iff_ne, bne_eq_false_iff_eq, Bool.not_eq_true', Bool.not_eq_false', Bool.and_eq_true, Bool.or_eq_true, Decidable.not_not] at hb); (try simp only [go_sem]))))
    refine ⟨by first | exact .inr rfl | exact .inl rfl, .inl ⟨[], _, (by dsimp only [Tryd.f70]; exact sv), ?_, by simp⟩⟩
    have h5 : r + n * b = a := h5
    rw [← h5, Int.tdiv_eq_ediv_of_nonneg (by rw [h5]; omega), Int.add_mul_ediv_right _ _ (by omega), Int.ediv_eq_zero_of_lt h1 (by omega), Int.zero_add]
theorem quot1_ev (a b : Int) (ha : 0 ≤ a) (ha2 : a ≤ 8) (hb : Wd b) (h0 : b ≠ 0) (sto : Sto) (lo : Nat) (hlo : lo ≤ sto.length) : CallEv Tryd.prog tab B0 70 [.v (VI a), .v (VI b)] sto lo (.v (VI (a.tdiv b))) sto := by
  obtain ⟨hb1, hb2⟩ := hb
  by_cases hc : b < 0
  · have hq := fun sto lo hlo => quot0_ev a (0 - b) ha ha2 (by omega) (by omega) sto lo hlo
    have hr : 0 ≤ a.tdiv (0 - b) ∧ a.tdiv (0 - b) ≤ a := ⟨Int.tdiv_nonneg ha (by omega), by rw [Int.tdiv_eq_ediv_of_nonneg ha]; exact Int.ediv_le_self _ ha⟩
    have e : a.tdiv b = 0 - (a.tdiv (0 - b)) := by rw [Int.zero_sub, Int.zero_sub, Int.tdiv_neg, Int.neg_neg]
    rw [e]
    generalize a.tdiv (0 - b) = q at *
    obtain ⟨hr1, hr2⟩ := hr
    refine CallEv.intro ⟨_, _, [], Tryd.func70, rfl, by decide, ?_⟩; simp only [go_sem, Tryd.ntmps70]
    repeat' (first | (refine go ⟨?_⟩) | (((refine call ?_); (refine ⟨_, hq _ _ (by first | omega | (simp; done) | (simp; omega)), ?_⟩); (try simp only [go_sem]))) | ((first | (refine bsp ?_ ?_) | (refine csp ?_ ?_)); all_goals (intro hb; (fail_if_success (cases hb; done)); (try simp only [decide_eq_true_eq, decide_eq_false_iff_not, beq_iff_eq, bne_iff_ne, ne_eq, beq_eq_false_iff_ne, bne_eq_false_iff_eq, Bool.not_eq_true', Bool.not_eq_false', Bool.and_eq_true, Bool.or_eq_true, Decidable.not_not] at hb); (try simp only [go_sem]))))
    refine ⟨by first | exact .inr rfl | exact .inl rfl, .inl ⟨[], _, (by dsimp only [Tryd.f70]; exact sv), ?_, by simp⟩⟩
    rfl
  · exact quot0_ev a b ha ha2 (by omega) (by omega) sto lo hlo
theorem quot_ev (a b : Int) (ha : Wd a) (hb : Wd b) (h0 : b ≠ 0) (sto : Sto) (lo : Nat) (hlo : lo ≤ sto.length) : CallEv Tryd.prog tab B0 70 [.v (VI a), .v (VI b)] sto lo (.v (VI (a.tdiv b))) sto := by
  have hsm := div_small ha hb
  obtain ⟨ha1, ha2⟩ := ha
  by_cases hc : a < 0
  · have hq := fun sto lo hlo => quot1_ev (0 - a) b (by omega) (by omega) hb h0 sto lo hlo
    have e : a.tdiv b = 0 - ((0 - a).tdiv b) := by rw [Int.zero_sub, Int.zero_sub, Int.neg_tdiv, Int.neg_neg]
    rw [e] at hsm ⊢
    generalize (0 - a).tdiv b = q at *
    obtain ⟨hs1, hs2⟩ := hsm
    refine CallEv.intro ⟨_, _, [], Tryd.func70, rfl, by decide, ?_⟩; simp only [go_sem, Tryd.ntmps70]
    repeat' (first | (refine go ⟨?_⟩) | (((refine call ?_); (refine ⟨_, hq _ _ (by first | omega | (simp; done) | (simp; omega)), ?_⟩); (try simp only [go_sem]))) | ((first | (refine bsp ?_ ?_) | (refine csp ?_ ?_)); all_goals (intro hb; (fail_if_success (cases hb; done)); (try simp only [decide_eq_true_eq, decide_eq_false_iff_not, beq_iff_eq, bne_iff_ne, ne_eq, beq_eq_false_iff_ne, bne_eq_false_iff_eq, Bool.not_eq_true', Bool.not_eq_false', Bool.and_eq_true, Bool.or_eq_true, Decidable.not_not] at hb); (try simp only [go_sem]))))
    refine ⟨by first | exact .inr rfl | exact .inl rfl, .inl ⟨[], _, (by dsimp only [Tryd.f70]; exact sv), ?_, by simp⟩⟩
    rfl
  · exact quot1_ev a b (by omega) (by omega) hb h0 sto lo hlo
theorem halv_ev (a : Int) (s0 : Nat) (ha : Wd a) (hs : s0 < 4) (sto : Sto) (lo : Nat) (hlo : lo ≤ sto.length) : CallEv Tryd.prog tab B0 74 [.v (VI a), .v (VI s0)] sto lo (.v (VI (halvS s0 a))) sto := by
  obtain ⟨ha1, ha2⟩ := ha
  refine CallEv.intro ⟨_, _, [], Tryd.func74, rfl, by decide, ?_⟩; simp only [go_sem, Tryd.ntmps74]
  repeat' (first | (refine go ⟨?_⟩) | (fail) | ((first | (refine bsp ?_ ?_) | (refine csp ?_ ?_)); all_goals (intro hb; (fail_if_success (cases hb; done)); (try simp only [decide_eq_true_eq, decide_eq_false_iff_not, beq_iff_eq, bne_iff_ne, ne_eq, beq_eq_false_iff_ne, bne_eq_false_iff_eq, Bool.not_eq_true', Bool.not_eq_false', Bool.and_eq_true, Bool.or_eq_true, Decidable.not_not] at hb); (try simp only [go_sem]))))
  refine c_loop (fun m s => ∃ (i : Nat) (r : Int), (i ≤ s0 ∧ m = s0 - i ∧ -8 ≤ r ∧ r ≤ 7 ∧ Hid (halvS (s0 - i) r = halvS s0 a)) ∧ (s.env.length = 20 ∧ s.sto = sto ∧ s.env[0]? = some (.v (VI r)) ∧ s.env[1]? = some (.v (VI s0)) ∧ s.env[5]? = some (.v (VI i)))) (.refl _) ⟨0, a, ⟨by omega, rfl, ha1, ha2, Lib.hid rfl⟩, rfl, rfl, ?_, ?_, ?_⟩ ?_
  all_goals first | rfl | skip
  rintro m s ⟨i, r, ⟨h1, rfl, h2, h3, h4⟩, hL, hT, k0, k1, k5⟩
  obtain ⟨env, st0⟩ := s; obtain ⟨J, hJ⟩ := listJ hL; rw [show (List.range 20).map J = J 0 :: J 1 :: J 2 :: J 3 :: J 4 :: J 5 :: J 6 :: J 7 :: J 8 :: J 9 :: J 10 :: J 11 :: J 12 :: J 13 :: J 14 :: J 15 :: J 16 :: J 17 :: J 18 :: J 19 :: [] from by kernel_rfl] at hJ; replace k0 := Option.some.inj ((congrArg (·[0]?) hJ).symm.trans k0); replace k1 := Option.some.inj ((congrArg (·[1]?) hJ).symm.trans k1); replace k5 := Option.some.inj ((congrArg (·[5]?) hJ).symm.trans k5); rw [k0, k1, k5] at hJ; dsimp only at hJ hT; subst hJ; replace hT := hT.symm; subst hT; clear hL k0 k1 k5
  by_cases hi : i < s0
  · have h4 : halvS (s0 - i) r = halvS s0 a := h4
    rw [show s0 - i = (s0 - (i + 1)) + 1 from by omega, halvS] at h4
    by_cases hr : r < 0
    · rw [if_pos hr] at h4
      have e : (1 - r).tdiv 2 = (1 - r) / 2 := Int.tdiv_eq_ediv_of_nonneg (by omega)
      have hb : 0 ≤ (1 - r).tdiv 2 ∧ (1 - r).tdiv 2 ≤ 8 := by omega
      obtain ⟨hb1, hb2⟩ := hb
      rw [show -((1 - r).tdiv 2) = 0 - (1 - r).tdiv 2 from by omega] at h4
      have e2 : -8 ≤ 0 - ((1 - r).tdiv 2) := by omega
      have h4h := Lib.hid h4
      clear h4 e
      repeat' (first | (refine go ⟨?_⟩) | (fail) | ((first | (refine bsp ?_ ?_) | (refine csp ?_ ?_)); all_goals (intro hb; (fail_if_success (cases hb; done)); (try simp only [decide_eq_true_eq, decide_eq_false_iff_not, beq_iff_eq, bne_iff_ne, ne_eq, beq_eq_false_iff_ne, bne_eq_false_iff_eq, Bool.not_eq_true', Bool.not_eq_false', Bool.and_eq_true, Bool.or_eq_true, Decidable.not_not] at hb); (try simp only [go_sem]))))
      refine ⟨_, _, ?_, .refl _, i + 1, _, ⟨by omega, rfl, e2, by omega, h4h⟩, rfl, rfl, ?_, ?_, ?_⟩
      · omega
      all_goals rfl
    · rw [if_neg hr] at h4
      have e : r.tdiv 2 = r / 2 := Int.tdiv_eq_ediv_of_nonneg (by omega)
      have hb : 0 ≤ r.tdiv 2 ∧ r.tdiv 2 ≤ 7 := by omega
      obtain ⟨hb1, hb2⟩ := hb
      have h4h := Lib.hid h4
      clear h4 e
      repeat' (first | (refine go ⟨?_⟩) | (fail) | ((first | (refine bsp ?_ ?_) | (refine csp ?_ ?_)); all_goals (intro hb; (fail_if_success (cases hb; done)); (try simp only [decide_eq_true_eq, decide_eq_false_iff_not, beq_iff_eq, bne_iff_ne, ne_eq, beq_eq_false_iff_ne, bne_eq_false_iff_eq, Bool.not_eq_true', Bool.not_eq_false', Bool.and_eq_true, Bool.or_eq_true, Decidable.not_not] at hb); (try simp only [go_sem]))))
      refine ⟨_, _, ?_, .refl _, i + 1, _, ⟨by omega, rfl, by omega, hb2, h4h⟩, rfl, rfl, ?_, ?_, ?_⟩
      · omega
      all_goals rfl
  · have h4 : halvS (s0 - i) r = halvS s0 a := h4
    rw [show s0 - i = 0 from by omega, halvS] at h4
    repeat' (first | (refine go ⟨?_⟩) | (fail) | ((first | (refine bsp ?_ ?_) | (refine csp ?_ ?_)); all_goals (intro hb; (fail_if_success (cases hb; done)); (try simp only [decide_eq_true_eq, decide_eq_false_iff_not, beq_iff_eq, bne_iff_ne, ne_eq, beq_eq_false_iff_ne, bne_eq_false_iff_eq, Bool.not_eq_true', Bool.not_eq_false', Bool.and_eq_true, Bool.or_eq_true, Decidable.not_not] at hb); (try simp only [go_sem]))))
    refine ⟨by first | exact .inr rfl | exact .inl rfl, .inl ⟨[], _, (by dsimp only [Tryd.f74]; exact sv), ?_, by simp⟩⟩
    rw [h4]
theorem dbl_ev (a : Int) (s0 : Nat) (ha : Wd a) (hs : s0 < 4) (sto : Sto) (lo : Nat) (hlo : lo ≤ sto.length) : CallEv Tryd.prog tab B0 72 [.v (VI a), .v (VI s0)] sto lo (.v (VI (dblS s0 a))) sto := by
  obtain ⟨ha1, ha2⟩ := ha
  refine CallEv.intro ⟨_, _, [], Tryd.func72, rfl, by decide, ?_⟩; simp only [go_sem, Tryd.ntmps72]
  repeat' (first | (refine go ⟨?_⟩) | (fail) | ((first | (refine bsp ?_ ?_) | (refine csp ?_ ?_)); all_goals (intro hb; (fail_if_success (cases hb; done)); (try simp only [decide_eq_true_eq, decide_eq_false_iff_not, beq_iff_eq, bne_iff_ne, ne_eq, beq_eq_false_iff_ne, bne_eq_false_iff_eq, Bool.not_eq_true', Bool.not_eq_false', Bool.and_eq_true, Bool.or_eq_true, Decidable.not_not] at hb); (try simp only [go_sem]))))
  refine c_loop (fun m s => ∃ (i : Nat) (r : Int), (i ≤ s0 ∧ m = s0 - i ∧ -8 ≤ r ∧ r ≤ 7 ∧ Hid (dblS (s0 - i) r = dblS s0 a)) ∧ (s.env.length = 16 ∧ s.sto = sto ∧ s.env[0]? = some (.v (VI r)) ∧ s.env[1]? = some (.v (VI s0)) ∧ s.env[5]? = some (.v (VI i)))) (.refl _) ⟨0, a, ⟨by omega, rfl, ha1, ha2, Lib.hid rfl⟩, rfl, rfl, ?_, ?_, ?_⟩ ?_
  all_goals first | rfl | skip
  rintro m s ⟨i, r, ⟨h1, rfl, h2, h3, h4⟩, hL, hT, k0, k1, k5⟩
  obtain ⟨env, st0⟩ := s; obtain ⟨J, hJ⟩ := listJ hL; rw [show (List.range 16).map J = J 0 :: J 1 :: J 2 :: J 3 :: J 4 :: J 5 :: J 6 :: J 7 :: J 8 :: J 9 :: J 10 :: J 11 :: J 12 :: J 13 :: J 14 :: J 15 :: [] from by kernel_rfl] at hJ; replace k0 := Option.some.inj ((congrArg (·[0]?) hJ).symm.trans k0); replace k1 := Option.some.inj ((congrArg (·[1]?) hJ).symm.trans k1); replace k5 := Option.some.inj ((congrArg (·[5]?) hJ).symm.trans k5); rw [k0, k1, k5] at hJ; dsimp only at hJ hT; subst hJ; replace hT := hT.symm; subst hT; clear hL k0 k1 k5
  by_cases hi : i < s0
  · have h4 : dblS (s0 - i) r = dblS s0 a := h4
    rw [show s0 - i = (s0 - (i + 1)) + 1 from by omega, dblS] at h4
    have hw := fun sto lo hlo => refWrap_ev (r + r) ⟨by omega, by omega⟩ sto lo hlo
    have hr := wrapS_range (r + r)
    have h4h := Lib.hid h4
    clear h4
    generalize wrapS (r + r) = r2 at *
    repeat' (first | (refine go ⟨?_⟩) | (((refine call ?_); (refine ⟨_, hw _ _ (by first | omega | (simp; done) | (simp; omega)), ?_⟩); (try simp only [go_sem]))) | ((first | (refine bsp ?_ ?_) | (refine csp ?_ ?_)); all_goals (intro hb; (fail_if_success (cases hb; done)); (try simp only [decide_eq_true_eq, decide_eq_false_iff_not, beq_iff_eq, bne_iff_ne, ne_eq, beq_eq_false_iff_ne, bne_eq_false_iff_eq, Bool.not_eq_true', Bool.not_eq_false', Bool.and_eq_true, Bool.or_eq_true, Decidable.not_not] at hb); (try simp only [go_sem]))))
    refine ⟨_, _, ?_, .refl _, i + 1, _, ⟨by omega, rfl, hr.1, hr.2, h4h⟩, rfl, rfl, ?_, ?_, ?_⟩
    · omega
    all_goals rfl
  · have h4 : dblS (s0 - i) r = dblS s0 a := h4
    rw [show s0 - i = 0 from by omega, dblS] at h4
    repeat' (first | (refine go ⟨?_⟩) | (fail) | ((first | (refine bsp ?_ ?_) | (refine csp ?_ ?_)); all_goals (intro hb; (fail_if_success (cases hb; done)); (try simp only [decide_eq_true_eq, decide_eq_false_iff_not, beq_iff_eq, bne_iff_ne, ne_eq, beq_eq_false_iff_ne, bne_eq_false_iff_eq, Bool.not_eq_true', Bool.not_eq_false', Bool.and_eq_true, Bool.or_eq_true, Decidable.not_not] at hb); (try simp only [go_sem]))))
    refine ⟨by first | exact .inr rfl | exact .inl rfl, .inl ⟨[], _, (by dsimp only [Tryd.f72]; exact sv), ?_, by simp⟩⟩
    rw [h4]
theorem bitw_ev (a b : Int) (one two both : Bool) (ho : (one, two, both) = (false, false, true) ∨ (one, two, both) = (true, true, true) ∨ (one, two, both) = (true, true, false)) (ha : Wd a) (hb : Wd b) (sto : Sto) (lo : Nat) (hlo : lo ≤ sto.length) : CallEv Tryd.prog tab B0 71 [.v (VI a), .v (VI b), .v (.bool one), .v (.bool two), .v (.bool both)] sto lo (.v (VI (bitwS a b one two both))) sto := by
  have h1 := fun sto lo hlo => refBits_ev a ⟨by have := ha.1; omega, by have := ha.2; omega⟩ sto lo hlo
  have h2 := fun sto lo hlo => refBits_ev b ⟨by have := hb.1; omega, by have := hb.2; omega⟩ sto lo hlo
  have hx : bitsW a < 16 := by have := bitsW_eq a; omega
  have hy : bitsW b < 16 := by have := bitsW_eq b; omega
  unfold bitwS
  generalize bitsW a = x0 at *
  generalize bitsW b = y0 at *
  have key : ∀ one two both : Bool, (∀ p q : Bool, ((p && q && both) || (p && !q && one) || (!p && q && two)) = ((p && q && both) || (p && !q && one) || (!p && q && two))) := fun _ _ _ _ _ => rfl
  refine CallEv.intro ⟨_, _, [], Tryd.func71, rfl, by decide, ?_⟩; simp only [go_sem, Tryd.ntmps71]
  repeat' (first | (refine go ⟨?_⟩) | (first | ((refine call ?_); (refine ⟨_, h1 _ _ (by first | omega | (simp; done) | (simp; omega)), ?_⟩); (try simp only [go_sem])) | ((refine call ?_); (refine ⟨_, h2 _ _ (by first | omega | (simp; done) | (simp; omega)), ?_⟩); (try simp only [go_sem]))) | ((first | (refine bsp ?_ ?_) | (refine csp ?_ ?_)); all_goals (intro hb; (fail_if_success (cases hb; done)); (try simp only [decide_eq_true_eq, decide_eq_false_iff_not, beq_iff_eq, bne_iff_ne, ne_eq, beq_eq_false_iff_ne, bne_eq_false_iff_eq, Bool.not_eq_true', Bool.not_eq_false', Bool.and_eq_true, Bool.or_eq_true, Decidable.not_not] at hb); (try simp only [go_sem]))))
  refine c_loop (fun m s => ∃ (i x y sum v : Nat), (i ≤ 4 ∧ m = 4 - i ∧ x < 16 ∧ y < 16 ∧ sum < v ∧ v ≤ 16 ∧ Hid (v = 2 ^ i ∧ bitwL one two both (4 - i) x y sum v = bitwL one two both 4 x0 y0 0 1)) ∧ (s.env.length = 70 ∧ s.sto = sto ∧ s.env[2]? = some (.v (.bool one)) ∧ s.env[3]? = some (.v (.bool two)) ∧ s.env[4]? = some (.v (.bool both)) ∧ s.env[11]? = some (.v (VI x)) ∧ s.env[12]? = some (.v (VI y)) ∧ s.env[13]? = some (.v (VI sum)) ∧ s.env[14]? = some (.v (VI v)) ∧ s.env[15]? = some (.v (VI i)))) (.refl _) ⟨0, x0, y0, 0, 1, ⟨by omega, rfl, hx, hy, by omega, by omega, Lib.hid ⟨rfl, rfl⟩⟩, rfl, rfl, ?_, ?_, ?_, ?_, ?_, ?_, ?_, ?_⟩ ?_
  all_goals first | rfl | skip
  rintro m s ⟨i, x, y, sum, v, ⟨g1, rfl, g2, g3, g4, g5, g6⟩, hL, hT, k2, k3, k4, k11, k12, k13, k14, k15⟩
  obtain ⟨env, st0⟩ := s; obtain ⟨J, hJ⟩ := listJ hL; rw [show (List.range 70).map J = J 0 :: J 1 :: J 2 :: J 3 :: J 4 :: J 5 :: J 6 :: J 7 :: J 8 :: J 9 :: J 10 :: J 11 :: J 12 :: J 13 :: J 14 :: J 15 :: J 16 :: J 17 :: J 18 :: J 19 :: J 20 :: J 21 :: J 22 :: J 23 :: J 24 :: J 25 :: J 26 :: J 27 :: J 28 :: J 29 :: J 30 :: J 31 :: J 32 :: J 33 :: J 34 :: J 35 :: J 36 :: J 37 :: J 38 :: J 39 :: J 40 :: J 41 :: J 42 :: J 43 :: J 44 :: J 45 :: J 46 :: J 47 :: J 48 :: J 49 :: J 50 :: J 51 :: J 52 :: J 53 :: J 54 :: J 55 :: J 56 :: J 57 :: J 58 :: J 59 :: J 60 :: J 61 :: J 62 :: J 63 :: J 64 :: J 65 :: J 66 :: J 67 :: J 68 :: J 69 :: [] from by kernel_rfl] at hJ; replace k2 := Option.some.inj ((congrArg (·[2]?) hJ).symm.trans k2); replace k3 := Option.some.inj ((congrArg (·[3]?) hJ).symm.trans k3); replace k4 := Option.some.inj ((congrArg (·[4]?) hJ).symm.trans k4); replace k11 := Option.some.inj ((congrArg (·[11]?) hJ).symm.trans k11); replace k12 := Option.some.inj ((congrArg (·[12]?) hJ).symm.trans k12); replace k13 := Option.some.inj ((congrArg (·[13]?) hJ).symm.trans k13); replace k14 := Option.some.inj ((congrArg (·[14]?) hJ).symm.trans k14); replace k15 := Option.some.inj ((congrArg (·[15]?) hJ).symm.trans k15); rw [k2, k3, k4, k11, k12, k13, k14, k15] at hJ; dsimp only at hJ hT; subst hJ; replace hT := hT.symm; subst hT; clear hL k2 k3 k4 k11 k12 k13 k14 k15
  have g6' : _ ∧ _ := g6
  obtain ⟨g7, g8⟩ := g6'
  by_cases hi : i < 4
  · have hv8 : v ≤ 8 := by rw [g7]; exact Nat.pow_le_pow_right (n := 2) (by omega) (by omega : i ≤ 3)
    rw [show 4 - i = (4 - (i + 1)) + 1 from by omega, bitwL] at g8
    have g7' : v * 2 = 2 ^ (i + 1) := by rw [g7, Nat.pow_succ]
    have hx2 : x / 2 < 16 := by omega
    have hy2 : y / 2 < 16 := by omega
    by_cases hp : x % 2 = 1
    · by_cases hq : y % 2 = 1
      · simp only [hp, hq, beq_self_eq_true] at g8
        rcases ho with ho | ho | ho <;> (cases ho; simp at g8; rw [show 3 - i = 4 - (i + 1) from by omega] at g8; have g8h := Lib.hid (And.intro g7' g8); clear g8 g6 g7 g7' hx hy h1 h2 key; (repeat' (first | (refine go ⟨?_⟩) | (fail) | ((first | (refine bsp ?_ ?_) | (refine csp ?_ ?_)); all_goals (intro hb; (fail_if_success (cases hb; done)); (try simp only [decide_eq_true_eq, decide_eq_false_iff_not, beq_iff_eq, bne_iff_ne, ne_eq, beq_eq_false_iff_ne, bne_eq_false_iff_eq, Bool.not_eq_true', Bool.not_eq_false', Bool.and_eq_true, Bool.or_eq_true, Decidable.not_not] at hb); (try simp only [go_sem]))))); refine ⟨_, _, ?_, .refl _, i + 1, _, _, _, _, ⟨by omega, rfl, hx2, hy2, ?_, ?_, g8h⟩, rfl, rfl, ?_, ?_, ?_, ?_, ?_, ?_, ?_, ?_⟩ <;> first | omega | rfl)
      · have hq0 : y % 2 = 0 := by omega
        simp only [hp, hq0, beq_self_eq_true] at g8
        rcases ho with ho | ho | ho <;> (cases ho; simp at g8; rw [show 3 - i = 4 - (i + 1) from by omega] at g8; have g8h := Lib.hid (And.intro g7' g8); clear g8 g6 g7 g7' hx hy h1 h2 key; (repeat' (first | (refine go ⟨?_⟩) | (fail) | ((first | (refine bsp ?_ ?_) | (refine csp ?_ ?_)); all_goals (intro hb; (fail_if_success (cases hb; done)); (try simp only [decide_eq_true_eq, decide_eq_false_iff_not, beq_iff_eq, bne_iff_ne, ne_eq, beq_eq_false_iff_ne, bne_eq_false_iff_eq, Bool.not_eq_true', Bool.not_eq_false', Bool.and_eq_true, Bool.or_eq_true, Decidable.not_not] at hb); (try simp only [go_sem]))))); refine ⟨_, _, ?_, .refl _, i + 1, _, _, _, _, ⟨by omega, rfl, hx2, hy2, ?_, ?_, g8h⟩, rfl, rfl, ?_, ?_, ?_, ?_, ?_, ?_, ?_, ?_⟩ <;> first | omega | rfl)
    · have hp0 : x % 2 = 0 := by omega
      by_cases hq : y % 2 = 1
      · simp only [hp0, hq, beq_self_eq_true] at g8
        rcases ho with ho | ho | ho <;> (cases ho; simp at g8; rw [show 3 - i = 4 - (i + 1) from by omega] at g8; have g8h := Lib.hid (And.intro g7' g8); clear g8 g6 g7 g7' hx hy h1 h2 key; (repeat' (first | (refine go ⟨?_⟩) | (fail) | ((first | (refine bsp ?_ ?_) | (refine csp ?_ ?_)); all_goals (intro hb; (fail_if_success (cases hb; done)); (try simp only [decide_eq_true_eq, decide_eq_false_iff_not, beq_iff_eq, bne_iff_ne, ne_eq, beq_eq_false_iff_ne, bne_eq_false_iff_eq, Bool.not_eq_true', Bool.not_eq_false', Bool.and_eq_true, Bool.or_eq_true, Decidable.not_not] at hb); (try simp only [go_sem]))))); refine ⟨_, _, ?_, .refl _, i + 1, _, _, _, _, ⟨by omega, rfl, hx2, hy2, ?_, ?_, g8h⟩, rfl, rfl, ?_, ?_, ?_, ?_, ?_, ?_, ?_, ?_⟩ <;> first | omega | rfl)
      · have hq0 : y % 2 = 0 := by omega
        simp only [hp0, hq0] at g8
        rcases ho with ho | ho | ho <;> (cases ho; simp at g8; rw [show 3 - i = 4 - (i + 1) from by omega] at g8; have g8h := Lib.hid (And.intro g7' g8); clear g8 g6 g7 g7' hx hy h1 h2 key; (repeat' (first | (refine go ⟨?_⟩) | (fail) | ((first | (refine bsp ?_ ?_) | (refine csp ?_ ?_)); all_goals (intro hb; (fail_if_success (cases hb; done)); (try simp only [decide_eq_true_eq, decide_eq_false_iff_not, beq_iff_eq, bne_iff_ne, ne_eq, beq_eq_false_iff_ne, bne_eq_false_iff_eq, Bool.not_eq_true', Bool.not_eq_false', Bool.and_eq_true, Bool.or_eq_true, Decidable.not_not] at hb); (try simp only [go_sem]))))); refine ⟨_, _, ?_, .refl _, i + 1, _, _, _, _, ⟨by omega, rfl, hx2, hy2, ?_, ?_, g8h⟩, rfl, rfl, ?_, ?_, ?_, ?_, ?_, ?_, ?_, ?_⟩ <;> first | omega | rfl)
  · rw [show 4 - i = 0 from by omega, bitwL] at g8
    rw [← g8]
    have hw := fun sto lo hlo => refWrap_ev (sum : Int) ⟨by omega, by omega⟩ sto lo hlo
    clear ho key
    repeat' (first | (refine go ⟨?_⟩) | (((refine call ?_); (refine ⟨_, hw _ _ (by first | omega | (simp; done) | (simp; omega)), ?_⟩); (try simp only [go_sem]))) | ((first | (refine bsp ?_ ?_) | (refine csp ?_ ?_)); all_goals (intro hb; (fail_if_success (cases hb; done)); (try simp only [decide_eq_true_eq, decide_eq_false_iff_not, beq_iff_eq, bne_iff_ne, ne_eq, beq_eq_false_iff_ne, bne_eq_false_iff_eq, Bool.not_eq_true', Bool.not_eq_false', Bool.and_eq_true, Bool.or_eq_true, Decidable.not_not] at hb); (try simp only [go_sem]))))
    refine ⟨by first | exact .inr rfl | exact .inl rfl, .inl ⟨[], _, (by dsimp only [Tryd.f71]; exact sv), ?_, by simp⟩⟩
    rfl
end Go.Proofs.YtomameefmobnlaaDoor
namespace Go.Proofs.YtomameefmobnlaaDoor
open Go Go.RowKit

attribute [local irreducible] EvOps EvC
attribute [local go_sem] List.getElem?_toArray getS List.flatten_cons List.flatten_nil List.contains_nil
set_option linter.unusedSimpArgs false
set_option linter.unusedVariables false
set_option maxRecDepth 100000
set_option maxHeartbeats 4000000
theorem rOp0_ev (a b : Int) (ha : Big a) (hb : Big b) (sto : Sto) (lo : Nat) (hlo : lo ≤ sto.length) : CallEv Tryd.prog tab B0 53 [.v (VI 0), .v (VI a), .v (VI b)] sto lo (.v (.tup [VI (opW 0 (wrapS a) (wrapS b)), VI (codeW 0 (wrapS b))])) sto := by
  have h1 := fun sto lo hlo => refWrap_ev a ha sto lo hlo
  have h2 := fun sto lo hlo => refWrap_ev b hb sto lo hlo
  have hx := wrap_wd a
  have hy := wrap_wd b
  generalize wrapS a = x at *
  generalize wrapS b = y at *
  have hxw := mem_words hx.1 hx.2
  have hyw := mem_words hy.1 hy.2
  obtain ⟨hx1, hx2⟩ := id hx
  obtain ⟨hy1, hy2⟩ := id hy
  rw [show opW 0 x y = wrapS (x + y) from by simp [opW], show codeW 0 y = 0 from by simp [codeW]]
  have hw := fun sto lo hlo => refWrap_ev (x + y) ⟨by have h1 := hx.1; have h2 := hx.2; have h3 := hy.1; have h4 := hy.2; omega, by have h1 := hx.1; have h2 := hx.2; have h3 := hy.1; have h4 := hy.2; omega⟩ sto lo hlo
  refine CallEv.intro ⟨_, _, [], Tryd.func53, rfl, by decide, ?_⟩; simp only [go_sem, Tryd.ntmps53]
  repeat' (first | (refine go ⟨?_⟩) | (first | ((refine call ?_); (refine ⟨_, h1 _ _ (by first | omega | (simp; done) | (simp; omega)), ?_⟩); (try simp only [go_sem])) | ((refine call ?_); (refine ⟨_, h2 _ _ (by first | omega | (simp; done) | (simp; omega)), ?_⟩); (try simp only [go_sem])) | ((refine call ?_); (refine ⟨_, hw _ _ (by first | omega | (simp; done) | (simp; omega)), ?_⟩); (try simp only [go_sem]))) | ((first | (refine bsp ?_ ?_) | (refine csp ?_ ?_)); all_goals (intro hb; (fail_if_success (cases hb; done)); (try simp only [decide_eq_true_eq, decide_eq_false_iff_not, beq_iff_eq, bne_iff_ne, ne_eq, beq_eq_false_iff_ne, bne_eq_false_iff_eq, Bool.not_eq_true', Bool.not_eq_false', Bool.and_eq_true, Bool.or_eq_true, Decidable.not_not] at hb); (try simp only [go_sem]))))
  refine ⟨by first | exact .inr rfl | exact .inl rfl, .inl ⟨[], _, (by dsimp only [Tryd.f53]; exact sv), ?_, by simp⟩⟩
  rfl
theorem rOp1_ev (a b : Int) (ha : Big a) (hb : Big b) (sto : Sto) (lo : Nat) (hlo : lo ≤ sto.length) : CallEv Tryd.prog tab B0 53 [.v (VI 1), .v (VI a), .v (VI b)] sto lo (.v (.tup [VI (opW 1 (wrapS a) (wrapS b)), VI (codeW 1 (wrapS b))])) sto := by
  have h1 := fun sto lo hlo => refWrap_ev a ha sto lo hlo
  have h2 := fun sto lo hlo => refWrap_ev b hb sto lo hlo
  have hx := wrap_wd a
  have hy := wrap_wd b
  generalize wrapS a = x at *
  generalize wrapS b = y at *
  have hxw := mem_words hx.1 hx.2
  have hyw := mem_words hy.1 hy.2
  obtain ⟨hx1, hx2⟩ := id hx
  obtain ⟨hy1, hy2⟩ := id hy
  rw [show opW 1 x y = wrapS (x - y) from by simp [opW], show codeW 1 y = 0 from by simp [codeW]]
  have hw := fun sto lo hlo => refWrap_ev (x - y) ⟨by have h1 := hx.1; have h2 := hx.2; have h3 := hy.1; have h4 := hy.2; omega, by have h1 := hx.1; have h2 := hx.2; have h3 := hy.1; have h4 := hy.2; omega⟩ sto lo hlo
  refine CallEv.intro ⟨_, _, [], Tryd.func53, rfl, by decide, ?_⟩; simp only [go_sem, Tryd.ntmps53]
  repeat' (first | (refine go ⟨?_⟩) | (first | ((refine call ?_); (refine ⟨_, h1 _ _ (by first | omega | (simp; done) | (simp; omega)), ?_⟩); (try simp only [go_sem])) | ((refine call ?_); (refine ⟨_, h2 _ _ (by first | omega | (simp; done) | (simp; omega)), ?_⟩); (try simp only [go_sem])) | ((refine call ?_); (refine ⟨_, hw _ _ (by first | omega | (simp; done) | (simp; omega)), ?_⟩); (try simp only [go_sem]))) | ((first | (refine bsp ?_ ?_) | (refine csp ?_ ?_)); all_goals (intro hb; (fail_if_success (cases hb; done)); (try simp only [decide_eq_true_eq, decide_eq_false_iff_not, beq_iff_eq, bne_iff_ne, ne_eq, beq_eq_false_iff_ne, bne_eq_false_iff_eq, Bool.not_eq_true', Bool.not_eq_false', Bool.and_eq_true, Bool.or_eq_true, Decidable.not_not] at hb); (try simp only [go_sem]))))
  refine ⟨by first | exact .inr rfl | exact .inl rfl, .inl ⟨[], _, (by dsimp only [Tryd.f53]; exact sv), ?_, by simp⟩⟩
  rfl
theorem rOp2_ev (a b : Int) (ha : Big a) (hb : Big b) (sto : Sto) (lo : Nat) (hlo : lo ≤ sto.length) : CallEv Tryd.prog tab B0 53 [.v (VI 2), .v (VI a), .v (VI b)] sto lo (.v (.tup [VI (opW 2 (wrapS a) (wrapS b)), VI (codeW 2 (wrapS b))])) sto := by
  have h1 := fun sto lo hlo => refWrap_ev a ha sto lo hlo
  have h2 := fun sto lo hlo => refWrap_ev b hb sto lo hlo
  have hx := wrap_wd a
  have hy := wrap_wd b
  generalize wrapS a = x at *
  generalize wrapS b = y at *
  have hxw := mem_words hx.1 hx.2
  have hyw := mem_words hy.1 hy.2
  obtain ⟨hx1, hx2⟩ := id hx
  obtain ⟨hy1, hy2⟩ := id hy
  have hsm := mul_small hx hy
  rw [show opW 2 x y = wrapS (x * y) from by simp [opW], show codeW 2 y = 0 from by simp [codeW]]
  have hw := fun sto lo hlo => refWrap_ev (x * y) ⟨by have h1 := hx.1; have h2 := hx.2; have h3 := hy.1; have h4 := hy.2; omega, by have h1 := hx.1; have h2 := hx.2; have h3 := hy.1; have h4 := hy.2; omega⟩ sto lo hlo
  refine CallEv.intro ⟨_, _, [], Tryd.func53, rfl, by decide, ?_⟩; simp only [go_sem, Tryd.ntmps53]
  repeat' (first | (refine go ⟨?_⟩) | (first | ((refine call ?_); (refine ⟨_, h1 _ _ (by first | omega | (simp; done) | (simp; omega)), ?_⟩); (try simp only [go_sem])) | ((refine call ?_); (refine ⟨_, h2 _ _ (by first | omega | (simp; done) | (simp; omega)), ?_⟩); (try simp only [go_sem])) | ((refine call ?_); (refine ⟨_, hw _ _ (by first | omega | (simp; done) | (simp; omega)), ?_⟩); (try simp only [go_sem]))) | ((first | (refine bsp ?_ ?_) | (refine csp ?_ ?_)); all_goals (intro hb; (fail_if_success (cases hb; done)); (try simp only [decide_eq_true_eq, decide_eq_false_iff_not, beq_iff_eq, bne_iff_ne, ne_eq, beq_eq_false_iff_ne, bne_eq_false_iff_eq, Bool.not_eq_true', Bool.not_eq_false', Bool.and_eq_true, Bool.or_eq_true, Decidable.not_not] at hb); (try simp only [go_sem]))))
  refine ⟨by first | exact .inr rfl | exact .inl rfl, .inl ⟨[], _, (by dsimp only [Tryd.f53]; exact sv), ?_, by simp⟩⟩
  rfl
theorem rOp3_ev (a b : Int) (ha : Big a) (hb : Big b) (sto : Sto) (lo : Nat) (hlo : lo ≤ sto.length) : CallEv Tryd.prog tab B0 53 [.v (VI 3), .v (VI a), .v (VI b)] sto lo (.v (.tup [VI (opW 3 (wrapS a) (wrapS b)), VI (codeW 3 (wrapS b))])) sto := by
  have h1 := fun sto lo hlo => refWrap_ev a ha sto lo hlo
  have h2 := fun sto lo hlo => refWrap_ev b hb sto lo hlo
  have hx := wrap_wd a
  have hy := wrap_wd b
  generalize wrapS a = x at *
  generalize wrapS b = y at *
  have hxw := mem_words hx.1 hx.2
  have hyw := mem_words hy.1 hy.2
  obtain ⟨hx1, hx2⟩ := id hx
  obtain ⟨hy1, hy2⟩ := id hy
  by_cases h0 : y = 0
  · subst h0
    rw [show opW 3 x 0 = 0 from by simp [opW], show codeW 3 0 = 2 from rfl]
    refine CallEv.intro ⟨_, _, [], Tryd.func53, rfl, by decide, ?_⟩; simp only [go_sem, Tryd.ntmps53]
    repeat' (first | (refine go ⟨?_⟩) | (first | ((refine call ?_); (refine ⟨_, h1 _ _ (by first | omega | (simp; done) | (simp; omega)), ?_⟩); (try simp only [go_sem])) | ((refine call ?_); (refine ⟨_, h2 _ _ (by first | omega | (simp; done) | (simp; omega)), ?_⟩); (try simp only [go_sem]))) | ((first | (refine bsp ?_ ?_) | (refine csp ?_ ?_)); all_goals (intro hb; (fail_if_success (cases hb; done)); (try simp only [decide_eq_true_eq, decide_eq_false_iff_not, beq_iff_eq, bne_iff_ne, ne_eq, beq_eq_false_iff_ne, bne_eq_false_iff_eq, Bool.not_eq_true', Bool.not_eq_false', Bool.and_eq_true, Bool.or_eq_true, Decidable.not_not] at hb); (try simp only [go_sem]))))
    refine ⟨by first | exact .inr rfl | exact .inl rfl, .inl ⟨[], _, (by dsimp only [Tryd.f53]; exact sv), ?_, by simp⟩⟩
    rfl
  have hq := fun sto lo hlo => quot_ev x y hx hy h0 sto lo hlo
  have hsm := div_small hx hy
  rw [show opW 3 x y = wrapS (x.tdiv y) from by simp [opW, h0], show codeW 3 y = 0 from by simp [codeW, h0]]
  have hw := fun sto lo hlo => refWrap_ev (x.tdiv y) ⟨by have h1 := hx.1; have h2 := hx.2; have h3 := hy.1; have h4 := hy.2; omega, by have h1 := hx.1; have h2 := hx.2; have h3 := hy.1; have h4 := hy.2; omega⟩ sto lo hlo
  refine CallEv.intro ⟨_, _, [], Tryd.func53, rfl, by decide, ?_⟩; simp only [go_sem, Tryd.ntmps53]
  repeat' (first | (refine go ⟨?_⟩) | (first | ((refine call ?_); (refine ⟨_, h1 _ _ (by first | omega | (simp; done) | (simp; omega)), ?_⟩); (try simp only [go_sem])) | ((refine call ?_); (refine ⟨_, h2 _ _ (by first | omega | (simp; done) | (simp; omega)), ?_⟩); (try simp only [go_sem])) | ((refine call ?_); (refine ⟨_, hq _ _ (by first | omega | (simp; done) | (simp; omega)), ?_⟩); (try simp only [go_sem])) | ((refine call ?_); (refine ⟨_, hw _ _ (by first | omega | (simp; done) | (simp; omega)), ?_⟩); (try simp only [go_sem]))) | ((first | (refine bsp ?_ ?_) | (refine csp ?_ ?_)); all_goals (intro hb; (fail_if_success (cases hb; done)); (try simp only [decide_eq_true_eq, decide_eq_false_iff_not, beq_iff_eq, bne_iff_ne, ne_eq, beq_eq_false_iff_ne, bne_eq_false_iff_eq, Bool.not_eq_true', Bool.not_eq_false', Bool.and_eq_true, Bool.or_eq_true, Decidable.not_not] at hb); (try simp only [go_sem]))))
  refine ⟨by first | exact .inr rfl | exact .inl rfl, .inl ⟨[], _, (by dsimp only [Tryd.f53]; exact sv), ?_, by simp⟩⟩
  rfl
theorem rOp4_ev (a b : Int) (ha : Big a) (hb : Big b) (sto : Sto) (lo : Nat) (hlo : lo ≤ sto.length) : CallEv Tryd.prog tab B0 53 [.v (VI 4), .v (VI a), .v (VI b)] sto lo (.v (.tup [VI (opW 4 (wrapS a) (wrapS b)), VI (codeW 4 (wrapS b))])) sto := by
  have h1 := fun sto lo hlo => refWrap_ev a ha sto lo hlo
  have h2 := fun sto lo hlo => refWrap_ev b hb sto lo hlo
  have hx := wrap_wd a
  have hy := wrap_wd b
  generalize wrapS a = x at *
  generalize wrapS b = y at *
  have hxw := mem_words hx.1 hx.2
  have hyw := mem_words hy.1 hy.2
  obtain ⟨hx1, hx2⟩ := id hx
  obtain ⟨hy1, hy2⟩ := id hy
  by_cases h0 : y = 0
  · subst h0
    rw [show opW 4 x 0 = 0 from by simp [opW], show codeW 4 0 = 2 from rfl]
    refine CallEv.intro ⟨_, _, [], Tryd.func53, rfl, by decide, ?_⟩; simp only [go_sem, Tryd.ntmps53]
    repeat' (first | (refine go ⟨?_⟩) | (first | ((refine call ?_); (refine ⟨_, h1 _ _ (by first | omega | (simp; done) | (simp; omega)), ?_⟩); (try simp only [go_sem])) | ((refine call ?_); (refine ⟨_, h2 _ _ (by first | omega | (simp; done) | (simp; omega)), ?_⟩); (try simp only [go_sem]))) | ((first | (refine bsp ?_ ?_) | (refine csp ?_ ?_)); all_goals (intro hb; (fail_if_success (cases hb; done)); (try simp only [decide_eq_true_eq, decide_eq_false_iff_not, beq_iff_eq, bne_iff_ne, ne_eq, beq_eq_false_iff_ne, bne_eq_false_iff_eq, Bool.not_eq_true', Bool.not_eq_false', Bool.and_eq_true, Bool.or_eq_true, Decidable.not_not] at hb); (try simp only [go_sem]))))
    refine ⟨by first | exact .inr rfl | exact .inl rfl, .inl ⟨[], _, (by dsimp only [Tryd.f53]; exact sv), ?_, by simp⟩⟩
    rfl
  have hq := fun sto lo hlo => quot_ev x y hx hy h0 sto lo hlo
  have hsm := div_small hx hy
  have hmo := mod_small hx hy
  have hmd : x.tmod y = x - y * x.tdiv y := Int.tmod_def x y
  rw [show opW 4 x y = wrapS (x - y * x.tdiv y) from by simp [opW, h0, hmd], show codeW 4 y = 0 from by simp [codeW, h0]]
  rw [hmd] at hmo
  have hyq : -64 ≤ y * x.tdiv y ∧ y * x.tdiv y ≤ 64 := by have h1 := hx.1; have h2 := hx.2; omega
  have hw := fun sto lo hlo => refWrap_ev (x - y * x.tdiv y) ⟨by have h1 := hx.1; have h2 := hx.2; have h3 := hy.1; have h4 := hy.2; omega, by have h1 := hx.1; have h2 := hx.2; have h3 := hy.1; have h4 := hy.2; omega⟩ sto lo hlo
  refine CallEv.intro ⟨_, _, [], Tryd.func53, rfl, by decide, ?_⟩; simp only [go_sem, Tryd.ntmps53]
  repeat' (first | (refine go ⟨?_⟩) | (first | ((refine call ?_); (refine ⟨_, h1 _ _ (by first | omega | (simp; done) | (simp; omega)), ?_⟩); (try simp only [go_sem])) | ((refine call ?_); (refine ⟨_, h2 _ _ (by first | omega | (simp; done) | (simp; omega)), ?_⟩); (try simp only [go_sem])) | ((refine call ?_); (refine ⟨_, hq _ _ (by first | omega | (simp; done) | (simp; omega)), ?_⟩); (try simp only [go_sem])) | ((refine call ?_); (refine ⟨_, hw _ _ (by first | omega | (simp; done) | (simp; omega)), ?_⟩); (try simp only [go_sem]))) | ((first | (refine bsp ?_ ?_) | (refine csp ?_ ?_)); all_goals (intro hb; (fail_if_success (cases hb; done)); (try simp only [decide_eq_true_eq, decide_eq_false_iff_not, beq_iff_eq, bne_iff_ne, ne_eq, beq_eq_false_iff_ne, bne_eq_false_iff_eq, Bool.not_eq_true', Bool.not_eq_false', Bool.and_eq_true, Bool.or_eq_true, Decidable.not_not] at hb); (try simp only [go_sem]))))
  refine ⟨by first | exact .inr rfl | exact .inl rfl, .inl ⟨[], _, (by dsimp only [Tryd.f53]; exact sv), ?_, by simp⟩⟩
  rfl
theorem rOp5_ev (a b : Int) (ha : Big a) (hb : Big b) (sto : Sto) (lo : Nat) (hlo : lo ≤ sto.length) : CallEv Tryd.prog tab B0 53 [.v (VI 5), .v (VI a), .v (VI b)] sto lo (.v (.tup [VI (opW 5 (wrapS a) (wrapS b)), VI (codeW 5 (wrapS b))])) sto := by
  have h1 := fun sto lo hlo => refWrap_ev a ha sto lo hlo
  have h2 := fun sto lo hlo => refWrap_ev b hb sto lo hlo
  have hx := wrap_wd a
  have hy := wrap_wd b
  generalize wrapS a = x at *
  generalize wrapS b = y at *
  have hxw := mem_words hx.1 hx.2
  have hyw := mem_words hy.1 hy.2
  obtain ⟨hx1, hx2⟩ := id hx
  obtain ⟨hy1, hy2⟩ := id hy
  rw [← bitw_and x hxw y hyw, show codeW 5 y = 0 from by simp [codeW]]
  have hd := fun sto lo hlo => bitw_ev x y false false true (by simp) hx hy sto lo hlo
  refine CallEv.intro ⟨_, _, [], Tryd.func53, rfl, by decide, ?_⟩; simp only [go_sem, Tryd.ntmps53]
  repeat' (first | (refine go ⟨?_⟩) | (first | ((refine call ?_); (refine ⟨_, h1 _ _ (by first | omega | (simp; done) | (simp; omega)), ?_⟩); (try simp only [go_sem])) | ((refine call ?_); (refine ⟨_, h2 _ _ (by first | omega | (simp; done) | (simp; omega)), ?_⟩); (try simp only [go_sem])) | ((refine call ?_); (refine ⟨_, hd _ _ (by first | omega | (simp; done) | (simp; omega)), ?_⟩); (try simp only [go_sem]))) | ((first | (refine bsp ?_ ?_) | (refine csp ?_ ?_)); all_goals (intro hb; (fail_if_success (cases hb; done)); (try simp only [decide_eq_true_eq, decide_eq_false_iff_not, beq_iff_eq, bne_iff_ne, ne_eq, beq_eq_false_iff_ne, bne_eq_false_iff_eq, Bool.not_eq_true', Bool.not_eq_false', Bool.and_eq_true, Bool.or_eq_true, Decidable.not_not] at hb); (try simp only [go_sem]))))
  refine ⟨by first | exact .inr rfl | exact .inl rfl, .inl ⟨[], _, (by dsimp only [Tryd.f53]; exact sv), ?_, by simp⟩⟩
  rfl
theorem rOp6_ev (a b : Int) (ha : Big a) (hb : Big b) (sto : Sto) (lo : Nat) (hlo : lo ≤ sto.length) : CallEv Tryd.prog tab B0 53 [.v (VI 6), .v (VI a), .v (VI b)] sto lo (.v (.tup [VI (opW 6 (wrapS a) (wrapS b)), VI (codeW 6 (wrapS b))])) sto := by
  have h1 := fun sto lo hlo => refWrap_ev a ha sto lo hlo
  have h2 := fun sto lo hlo => refWrap_ev b hb sto lo hlo
  have hx := wrap_wd a
  have hy := wrap_wd b
  generalize wrapS a = x at *
  generalize wrapS b = y at *
  have hxw := mem_words hx.1 hx.2
  have hyw := mem_words hy.1 hy.2
  obtain ⟨hx1, hx2⟩ := id hx
  obtain ⟨hy1, hy2⟩ := id hy
  rw [← bitw_or x hxw y hyw, show codeW 6 y = 0 from by simp [codeW]]
  have hd := fun sto lo hlo => bitw_ev x y true true true (by simp) hx hy sto lo hlo
  refine CallEv.intro ⟨_, _, [], Tryd.func53, rfl, by decide, ?_⟩; simp only [go_sem, Tryd.ntmps53]
  repeat' (first | (refine go ⟨?_⟩) | (first | ((refine call ?_); (refine ⟨_, h1 _ _ (by first | omega | (simp; done) | (simp; omega)), ?_⟩); (try simp only [go_sem])) | ((refine call ?_); (refine ⟨_, h2 _ _ (by first | omega | (simp; done) | (simp; omega)), ?_⟩); (try simp only [go_sem])) | ((refine call ?_); (refine ⟨_, hd _ _ (by first | omega | (simp; done) | (simp; omega)), ?_⟩); (try simp only [go_sem]))) | ((first | (refine bsp ?_ ?_) | (refine csp ?_ ?_)); all_goals (intro hb; (fail_if_success (cases hb; done)); (try simp only [decide_eq_true_eq, decide_eq_false_iff_not, beq_iff_eq, bne_iff_ne, ne_eq, beq_eq_false_iff_ne, bne_eq_false_iff_eq, Bool.not_eq_true', Bool.not_eq_false', Bool.and_eq_true, Bool.or_eq_true, Decidable.not_not] at hb); (try simp only [go_sem]))))
  refine ⟨by first | exact .inr rfl | exact .inl rfl, .inl ⟨[], _, (by dsimp only [Tryd.f53]; exact sv), ?_, by simp⟩⟩
  rfl
theorem rOp7_ev (a b : Int) (ha : Big a) (hb : Big b) (sto : Sto) (lo : Nat) (hlo : lo ≤ sto.length) : CallEv Tryd.prog tab B0 53 [.v (VI 7), .v (VI a), .v (VI b)] sto lo (.v (.tup [VI (opW 7 (wrapS a) (wrapS b)), VI (codeW 7 (wrapS b))])) sto := by
  have h1 := fun sto lo hlo => refWrap_ev a ha sto lo hlo
  have h2 := fun sto lo hlo => refWrap_ev b hb sto lo hlo
  have hx := wrap_wd a
  have hy := wrap_wd b
  generalize wrapS a = x at *
  generalize wrapS b = y at *
  have hxw := mem_words hx.1 hx.2
  have hyw := mem_words hy.1 hy.2
  obtain ⟨hx1, hx2⟩ := id hx
  obtain ⟨hy1, hy2⟩ := id hy
  rw [← bitw_xor x hxw y hyw, show codeW 7 y = 0 from by simp [codeW]]
  have hd := fun sto lo hlo => bitw_ev x y true true false (by simp) hx hy sto lo hlo
  refine CallEv.intro ⟨_, _, [], Tryd.func53, rfl, by decide, ?_⟩; simp only [go_sem, Tryd.ntmps53]
  repeat' (first | (refine go ⟨?_⟩) | (first | ((refine call ?_); (refine ⟨_, h1 _ _ (by first | omega | (simp; done) | (simp; omega)), ?_⟩); (try simp only [go_sem])) | ((refine call ?_); (refine ⟨_, h2 _ _ (by first | omega | (simp; done) | (simp; omega)), ?_⟩); (try simp only [go_sem])) | ((refine call ?_); (refine ⟨_, hd _ _ (by first | omega | (simp; done) | (simp; omega)), ?_⟩); (try simp only [go_sem]))) | ((first | (refine bsp ?_ ?_) | (refine csp ?_ ?_)); all_goals (intro hb; (fail_if_success (cases hb; done)); (try simp only [decide_eq_true_eq, decide_eq_false_iff_not, beq_iff_eq, bne_iff_ne, ne_eq, beq_eq_false_iff_ne, bne_eq_false_iff_eq, Bool.not_eq_true', Bool.not_eq_false', Bool.and_eq_true, Bool.or_eq_true, Decidable.not_not] at hb); (try simp only [go_sem]))))
  refine ⟨by first | exact .inr rfl | exact .inl rfl, .inl ⟨[], _, (by dsimp only [Tryd.f53]; exact sv), ?_, by simp⟩⟩
  rfl
theorem rOp8_ev (a b : Int) (ha : Big a) (hb : Big b) (sto : Sto) (lo : Nat) (hlo : lo ≤ sto.length) : CallEv Tryd.prog tab B0 53 [.v (VI 8), .v (VI a), .v (VI b)] sto lo (.v (.tup [VI (opW 8 (wrapS a) (wrapS b)), VI (codeW 8 (wrapS b))])) sto := by
  have h1 := fun sto lo hlo => refWrap_ev a ha sto lo hlo
  have h2 := fun sto lo hlo => refWrap_ev b hb sto lo hlo
  have hx := wrap_wd a
  have hy := wrap_wd b
  generalize wrapS a = x at *
  generalize wrapS b = y at *
  have hxw := mem_words hx.1 hx.2
  have hyw := mem_words hy.1 hy.2
  obtain ⟨hx1, hx2⟩ := id hx
  obtain ⟨hy1, hy2⟩ := id hy
  rw [← dbl_words x hxw y hyw, show codeW 8 y = 0 from by simp [codeW]]
  have h3 := fun sto lo hlo => refBits_ev y ⟨by have := hy.1; omega, by have := hy.2; omega⟩ sto lo hlo
  have hd := fun sto lo hlo => dbl_ev x (bitsW y % 4) hx (by omega) sto lo hlo
  have h16 : bitsW y < 16 := by have := bitsW_eq y; omega
  rw [show (((bitsW y % 4 : Nat)) : Int) = ((bitsW y : Nat) : Int).tmod 4 from by rw [Int.tmod_eq_emod_of_nonneg (by omega)]; omega] at hd
  generalize bitsW y = w at *
  refine CallEv.intro ⟨_, _, [], Tryd.func53, rfl, by decide, ?_⟩; simp only [go_sem, Tryd.ntmps53]
  repeat' (first | (refine go ⟨?_⟩) | (first | ((refine call ?_); (refine ⟨_, h1 _ _ (by first | omega | (simp; done) | (simp; omega)), ?_⟩); (try simp only [go_sem])) | ((refine call ?_); (refine ⟨_, h2 _ _ (by first | omega | (simp; done) | (simp; omega)), ?_⟩); (try simp only [go_sem])) | ((refine call ?_); (refine ⟨_, h3 _ _ (by first | omega | (simp; done) | (simp; omega)), ?_⟩); (try simp only [go_sem])) | ((refine call ?_); (refine ⟨_, hd _ _ (by first | omega | (simp; done) | (simp; omega)), ?_⟩); (try simp only [go_sem]))) | ((first | (refine bsp ?_ ?_) | (refine csp ?_ ?_)); all_goals (intro hb; (fail_if_success (cases hb; done)); (try simp only [decide_eq_true_eq, decide_eq_false_iff_not, beq_iff_eq, bne_iff_ne, ne_eq, beq_eq_false_iff_ne, bne_eq_false_iff_eq, Bool.not_eq_true', Bool.not_eq_false', Bool.and_eq_true, Bool.or_eq_true, Decidable.not_not] at hb); (try simp only [go_sem]))))
  refine ⟨by first | exact .inr rfl | exact .inl rfl, .inl ⟨[], _, (by dsimp only [Tryd.f53]; exact sv), ?_, by simp⟩⟩
  rfl
theorem rOp9_ev (a b : Int) (ha : Big a) (hb : Big b) (sto : Sto) (lo : Nat) (hlo : lo ≤ sto.length) : CallEv Tryd.prog tab B0 53 [.v (VI 9), .v (VI a), .v (VI b)] sto lo (.v (.tup [VI (opW 9 (wrapS a) (wrapS b)), VI (codeW 9 (wrapS b))])) sto := by
  have h1 := fun sto lo hlo => refWrap_ev a ha sto lo hlo
  have h2 := fun sto lo hlo => refWrap_ev b hb sto lo hlo
  have hx := wrap_wd a
  have hy := wrap_wd b
  generalize wrapS a = x at *
  generalize wrapS b = y at *
  have hxw := mem_words hx.1 hx.2
  have hyw := mem_words hy.1 hy.2
  obtain ⟨hx1, hx2⟩ := id hx
  obtain ⟨hy1, hy2⟩ := id hy
  rw [← halv_words x hxw y hyw, show codeW 9 y = 0 from by simp [codeW]]
  have h3 := fun sto lo hlo => refBits_ev y ⟨by have := hy.1; omega, by have := hy.2; omega⟩ sto lo hlo
  have hd := fun sto lo hlo => halv_ev x (bitsW y % 4) hx (by omega) sto lo hlo
  have h16 : bitsW y < 16 := by have := bitsW_eq y; omega
  rw [show (((bitsW y % 4 : Nat)) : Int) = ((bitsW y : Nat) : Int).tmod 4 from by rw [Int.tmod_eq_emod_of_nonneg (by omega)]; omega] at hd
  generalize bitsW y = w at *
  refine CallEv.intro ⟨_, _, [], Tryd.func53, rfl, by decide, ?_⟩; simp only [go_sem, Tryd.ntmps53]
  repeat' (first | (refine go ⟨?_⟩) | (first | ((refine call ?_); (refine ⟨_, h1 _ _ (by first | omega | (simp; done) | (simp; omega)), ?_⟩); (try simp only [go_sem])) | ((refine call ?_); (refine ⟨_, h2 _ _ (by first | omega | (simp; done) | (simp; omega)), ?_⟩); (try simp only [go_sem])) | ((refine call ?_); (refine ⟨_, h3 _ _ (by first | omega | (simp; done) | (simp; omega)), ?_⟩); (try simp only [go_sem])) | ((refine call ?_); (refine ⟨_, hd _ _ (by first | omega | (simp; done) | (simp; omega)), ?_⟩); (try simp only [go_sem]))) | ((first | (refine bsp ?_ ?_) | (refine csp ?_ ?_)); all_goals (intro hb; (fail_if_success (cases hb; done)); (try simp only [decide_eq_true_eq, decide_eq_false_iff_not, beq_iff_eq, bne_iff_ne, ne_eq, beq_eq_false_iff_ne, bne_eq_false_iff_eq, Bool.not_eq_true', Bool.not_eq_false', Bool.and_eq_true, Bool.or_eq_true, Decidable.not_not] at hb); (try simp only [go_sem]))))
  refine ⟨by first | exact .inr rfl | exact .inl rfl, .inl ⟨[], _, (by dsimp only [Tryd.f53]; exact sv), ?_, by simp⟩⟩
  rfl
theorem rOp10_ev (a b : Int) (ha : Big a) (hb : Big b) (sto : Sto) (lo : Nat) (hlo : lo ≤ sto.length) : CallEv Tryd.prog tab B0 53 [.v (VI 10), .v (VI a), .v (VI b)] sto lo (.v (.tup [VI (opW 10 (wrapS a) (wrapS b)), VI (codeW 10 (wrapS b))])) sto := by
  have h1 := fun sto lo hlo => refWrap_ev a ha sto lo hlo
  have h2 := fun sto lo hlo => refWrap_ev b hb sto lo hlo
  have hx := wrap_wd a
  have hy := wrap_wd b
  generalize wrapS a = x at *
  generalize wrapS b = y at *
  have hxw := mem_words hx.1 hx.2
  have hyw := mem_words hy.1 hy.2
  obtain ⟨hx1, hx2⟩ := id hx
  obtain ⟨hy1, hy2⟩ := id hy
  rw [show opW 10 x y = if decide (x < y) then 1 else 0 from by simp [opW], show codeW 10 y = 0 from by simp [codeW]]
  refine CallEv.intro ⟨_, _, [], Tryd.func53, rfl, by decide, ?_⟩; simp only [go_sem, Tryd.ntmps53]
  repeat' (first | (refine go ⟨?_⟩) | (first | ((refine call ?_); (refine ⟨_, h1 _ _ (by first | omega | (simp; done) | (simp; omega)), ?_⟩); (try simp only [go_sem])) | ((refine call ?_); (refine ⟨_, h2 _ _ (by first | omega | (simp; done) | (simp; omega)), ?_⟩); (try simp only [go_sem])) | ((refine call ?_); (refine ⟨_, refNumber_ev _ _ _ (by first | omega | (simp; done) | (simp; omega)), ?_⟩); (try simp only [go_sem]))) | ((first | (refine bsp ?_ ?_) | (refine csp ?_ ?_)); all_goals (intro hb; (fail_if_success (cases hb; done)); (try simp only [decide_eq_true_eq, decide_eq_false_iff_not, beq_iff_eq, bne_iff_ne, ne_eq, beq_eq_false_iff_ne, bne_eq_false_iff_eq, Bool.not_eq_true', Bool.not_eq_false', Bool.and_eq_true, Bool.or_eq_true, Decidable.not_not] at hb); (try simp only [go_sem]))))
  refine ⟨by first | exact .inr rfl | exact .inl rfl, .inl ⟨[], _, (by dsimp only [Tryd.f53]; exact sv), ?_, by simp⟩⟩
  rfl
theorem rOp11_ev (a b : Int) (ha : Big a) (hb : Big b) (sto : Sto) (lo : Nat) (hlo : lo ≤ sto.length) : CallEv Tryd.prog tab B0 53 [.v (VI 11), .v (VI a), .v (VI b)] sto lo (.v (.tup [VI (opW 11 (wrapS a) (wrapS b)), VI (codeW 11 (wrapS b))])) sto := by
  have h1 := fun sto lo hlo => refWrap_ev a ha sto lo hlo
  have h2 := fun sto lo hlo => refWrap_ev b hb sto lo hlo
  have hx := wrap_wd a
  have hy := wrap_wd b
  generalize wrapS a = x at *
  generalize wrapS b = y at *
  have hxw := mem_words hx.1 hx.2
  have hyw := mem_words hy.1 hy.2
  obtain ⟨hx1, hx2⟩ := id hx
  obtain ⟨hy1, hy2⟩ := id hy
  rw [show opW 11 x y = if decide (x = y) then 1 else 0 from by simp [opW], show codeW 11 y = 0 from by simp [codeW]]
  refine CallEv.intro ⟨_, _, [], Tryd.func53, rfl, by decide, ?_⟩; simp only [go_sem, Tryd.ntmps53]
  repeat' (first | (refine go ⟨?_⟩) | (first | ((refine call ?_); (refine ⟨_, h1 _ _ (by first | omega | (simp; done) | (simp; omega)), ?_⟩); (try simp only [go_sem])) | ((refine call ?_); (refine ⟨_, h2 _ _ (by first | omega | (simp; done) | (simp; omega)), ?_⟩); (try simp only [go_sem])) | ((refine call ?_); (refine ⟨_, refNumber_ev _ _ _ (by first | omega | (simp; done) | (simp; omega)), ?_⟩); (try simp only [go_sem]))) | ((first | (refine bsp ?_ ?_) | (refine csp ?_ ?_)); all_goals (intro hb; (fail_if_success (cases hb; done)); (try simp only [decide_eq_true_eq, decide_eq_false_iff_not, beq_iff_eq, bne_iff_ne, ne_eq, beq_eq_false_iff_ne, bne_eq_false_iff_eq, Bool.not_eq_true', Bool.not_eq_false', Bool.and_eq_true, Bool.or_eq_true, Decidable.not_not] at hb); (try simp only [go_sem]))))
  refine ⟨by first | exact .inr rfl | exact .inl rfl, .inl ⟨[], _, (by dsimp only [Tryd.f53]; exact sv), ?_, by simp⟩⟩
  rfl
theorem rOp12_ev (a b : Int) (ha : Big a) (hb : Big b) (sto : Sto) (lo : Nat) (hlo : lo ≤ sto.length) : CallEv Tryd.prog tab B0 53 [.v (VI 12), .v (VI a), .v (VI b)] sto lo (.v (.tup [VI (opW 12 (wrapS a) (wrapS b)), VI (codeW 12 (wrapS b))])) sto := by
  have h1 := fun sto lo hlo => refWrap_ev a ha sto lo hlo
  have h2 := fun sto lo hlo => refWrap_ev b hb sto lo hlo
  have hx := wrap_wd a
  have hy := wrap_wd b
  generalize wrapS a = x at *
  generalize wrapS b = y at *
  have hxw := mem_words hx.1 hx.2
  have hyw := mem_words hy.1 hy.2
  obtain ⟨hx1, hx2⟩ := id hx
  obtain ⟨hy1, hy2⟩ := id hy
  rw [show opW 12 x y = if x ≠ 0 ∧ y ≠ 0 then 1 else 0 from by simp [opW], show codeW 12 y = 0 from by simp [codeW]]
  by_cases c1 : x = 0
  · rw [if_neg (fun h => h.1 c1)]
    refine CallEv.intro ⟨_, _, [], Tryd.func53, rfl, by decide, ?_⟩; simp only [go_sem, Tryd.ntmps53]
    repeat' (first | (refine go ⟨?_⟩) | (first | ((refine call ?_); (refine ⟨_, h1 _ _ (by first | omega | (simp; done) | (simp; omega)), ?_⟩); (try simp only [go_sem])) | ((refine call ?_); (refine ⟨_, h2 _ _ (by first | omega | (simp; done) | (simp; omega)), ?_⟩); (try simp only [go_sem])) | ((refine call ?_); (refine ⟨_, refNumber_ev _ _ _ (by first | omega | (simp; done) | (simp; omega)), ?_⟩); (try simp only [go_sem]))) | ((first | (refine bsp ?_ ?_) | (refine csp ?_ ?_)); all_goals (intro hb; (fail_if_success (cases hb; done)); (try simp only [decide_eq_true_eq, decide_eq_false_iff_not, beq_iff_eq, bne_iff_ne, ne_eq, beq_eq_false_iff_ne, bne_eq_false_iff_eq, Bool.not_eq_true', Bool.not_eq_false', Bool.and_eq_true, Bool.or_eq_true, Decidable.not_not] at hb); (try simp only [go_sem]))))
    refine ⟨by first | exact .inr rfl | exact .inl rfl, .inl ⟨[], _, (by dsimp only [Tryd.f53]; exact sv), ?_, by simp⟩⟩
    rfl
  by_cases c2 : y = 0
  · rw [if_neg (fun h => h.2 c2)]
    refine CallEv.intro ⟨_, _, [], Tryd.func53, rfl, by decide, ?_⟩; simp only [go_sem, Tryd.ntmps53]
    repeat' (first | (refine go ⟨?_⟩) | (first | ((refine call ?_); (refine ⟨_, h1 _ _ (by first | omega | (simp; done) | (simp; omega)), ?_⟩); (try simp only [go_sem])) | ((refine call ?_); (refine ⟨_, h2 _ _ (by first | omega | (simp; done) | (simp; omega)), ?_⟩); (try simp only [go_sem])) | ((refine call ?_); (refine ⟨_, refNumber_ev _ _ _ (by first | omega | (simp; done) | (simp; omega)), ?_⟩); (try simp only [go_sem]))) | ((first | (refine bsp ?_ ?_) | (refine csp ?_ ?_)); all_goals (intro hb; (fail_if_success (cases hb; done)); (try simp only [decide_eq_true_eq, decide_eq_false_iff_not, beq_iff_eq, bne_iff_ne, ne_eq, beq_eq_false_iff_ne, bne_eq_false_iff_eq, Bool.not_eq_true', Bool.not_eq_false', Bool.and_eq_true, Bool.or_eq_true, Decidable.not_not] at hb); (try simp only [go_sem]))))
    refine ⟨by first | exact .inr rfl | exact .inl rfl, .inl ⟨[], _, (by dsimp only [Tryd.f53]; exact sv), ?_, by simp⟩⟩
    rfl
  · rw [if_pos ⟨c1, c2⟩]
    refine CallEv.intro ⟨_, _, [], Tryd.func53, rfl, by decide, ?_⟩; simp only [go_sem, Tryd.ntmps53]
    repeat' (first | (refine go ⟨?_⟩) | (first | ((refine call ?_); (refine ⟨_, h1 _ _ (by first | omega | (simp; done) | (simp; omega)), ?_⟩); (try simp only [go_sem])) | ((refine call ?_); (refine ⟨_, h2 _ _ (by first | omega | (simp; done) | (simp; omega)), ?_⟩); (try simp only [go_sem])) | ((refine call ?_); (refine ⟨_, refNumber_ev _ _ _ (by first | omega | (simp; done) | (simp; omega)), ?_⟩); (try simp only [go_sem]))) | ((first | (refine bsp ?_ ?_) | (refine csp ?_ ?_)); all_goals (intro hb; (fail_if_success (cases hb; done)); (try simp only [decide_eq_true_eq, decide_eq_false_iff_not, beq_iff_eq, bne_iff_ne, ne_eq, beq_eq_false_iff_ne, bne_eq_false_iff_eq, Bool.not_eq_true', Bool.not_eq_false', Bool.and_eq_true, Bool.or_eq_true, Decidable.not_not] at hb); (try simp only [go_sem]))))
    refine ⟨by first | exact .inr rfl | exact .inl rfl, .inl ⟨[], _, (by dsimp only [Tryd.f53]; exact sv), ?_, by simp⟩⟩
    rfl
theorem rOp13_ev (a b : Int) (ha : Big a) (hb : Big b) (sto : Sto) (lo : Nat) (hlo : lo ≤ sto.length) : CallEv Tryd.prog tab B0 53 [.v (VI 13), .v (VI a), .v (VI b)] sto lo (.v (.tup [VI (opW 13 (wrapS a) (wrapS b)), VI (codeW 13 (wrapS b))])) sto := by
  have h1 := fun sto lo hlo => refWrap_ev a ha sto lo hlo
  have h2 := fun sto lo hlo => refWrap_ev b hb sto lo hlo
  have hx := wrap_wd a
  have hy := wrap_wd b
  generalize wrapS a = x at *
  generalize wrapS b = y at *
  have hxw := mem_words hx.1 hx.2
  have hyw := mem_words hy.1 hy.2
  obtain ⟨hx1, hx2⟩ := id hx
  obtain ⟨hy1, hy2⟩ := id hy
  rw [show opW 13 x y = if x ≠ 0 ∨ y ≠ 0 then 1 else 0 from by simp [opW], show codeW 13 y = 0 from by simp [codeW]]
  by_cases c1 : x = 0
  · by_cases c2 : y = 0
    · rw [if_neg (fun h => h.elim (· c1) (· c2))]
      refine CallEv.intro ⟨_, _, [], Tryd.func53, rfl, by decide, ?_⟩; simp only [go_sem, Tryd.ntmps53]
      repeat' (first | (refine go ⟨?_⟩) | (first | ((refine call ?_); (refine ⟨_, h1 _ _ (by first | omega | (simp; done) | (simp; omega)), ?_⟩); (try simp only [go_sem])) | ((refine call ?_); (refine ⟨_, h2 _ _ (by first | omega | (simp; done) | (simp; omega)), ?_⟩); (try simp only [go_sem])) | ((refine call ?_); (refine ⟨_, refNumber_ev _ _ _ (by first | omega | (simp; done) | (simp; omega)), ?_⟩); (try simp only [go_sem]))) | ((first | (refine bsp ?_ ?_) | (refine csp ?_ ?_)); all_goals (intro hb; (fail_if_success (cases hb; done)); (try simp only [decide_eq_true_eq, decide_eq_false_iff_not, beq_iff_eq, bne_iff_ne, ne_eq, beq_eq_false_iff_ne, bne_eq_false_iff_eq, Bool.not_eq_true', Bool.not_eq_false', Bool.and_eq_true, Bool.or_eq_true, Decidable.not_not] at hb); (try simp only [go_sem]))))
      refine ⟨by first | exact .inr rfl | exact .inl rfl, .inl ⟨[], _, (by dsimp only [Tryd.f53]; exact sv), ?_, by simp⟩⟩
      rfl
    · rw [if_pos (.inr c2)]
      refine CallEv.intro ⟨_, _, [], Tryd.func53, rfl, by decide, ?_⟩; simp only [go_sem, Tryd.ntmps53]
      repeat' (first | (refine go ⟨?_⟩) | (first | ((refine call ?_); (refine ⟨_, h1 _ _ (by first | omega | (simp; done) | (simp; omega)), ?_⟩); (try simp only [go_sem])) | ((refine call ?_); (refine ⟨_, h2 _ _ (by first | omega | (simp; done) | (simp; omega)), ?_⟩); (try simp only [go_sem])) | ((refine call ?_); (refine ⟨_, refNumber_ev _ _ _ (by first | omega | (simp; done) | (simp; omega)), ?_⟩); (try simp only [go_sem]))) | ((first | (refine bsp ?_ ?_) | (refine csp ?_ ?_)); all_goals (intro hb; (fail_if_success (cases hb; done)); (try simp only [decide_eq_true_eq, decide_eq_false_iff_not, beq_iff_eq, bne_iff_ne, ne_eq, beq_eq_false_iff_ne, bne_eq_false_iff_eq, Bool.not_eq_true', Bool.not_eq_false', Bool.and_eq_true, Bool.or_eq_true, Decidable.not_not] at hb); (try simp only [go_sem]))))
      refine ⟨by first | exact .inr rfl | exact .inl rfl, .inl ⟨[], _, (by dsimp only [Tryd.f53]; exact sv), ?_, by simp⟩⟩
      rfl
  · rw [if_pos (.inl c1)]
    refine CallEv.intro ⟨_, _, [], Tryd.func53, rfl, by decide, ?_⟩; simp only [go_sem, Tryd.ntmps53]
    repeat' (first | (refine go ⟨?_⟩) | (first | ((refine call ?_); (refine ⟨_, h1 _ _ (by first | omega | (simp; done) | (simp; omega)), ?_⟩); (try simp only [go_sem])) | ((refine call ?_); (refine ⟨_, h2 _ _ (by first | omega | (simp; done) | (simp; omega)), ?_⟩); (try simp only [go_sem])) | ((refine call ?_); (refine ⟨_, refNumber_ev _ _ _ (by first | omega | (simp; done) | (simp; omega)), ?_⟩); (try simp only [go_sem]))) | ((first | (refine bsp ?_ ?_) | (refine csp ?_ ?_)); all_goals (intro hb; (fail_if_success (cases hb; done)); (try simp only [decide_eq_true_eq, decide_eq_false_iff_not, beq_iff_eq, bne_iff_ne, ne_eq, beq_eq_false_iff_ne, bne_eq_false_iff_eq, Bool.not_eq_true', Bool.not_eq_false', Bool.and_eq_true, Bool.or_eq_true, Decidable.not_not] at hb); (try simp only [go_sem]))))
    refine ⟨by first | exact .inr rfl | exact .inl rfl, .inl ⟨[], _, (by dsimp only [Tryd.f53]; exact sv), ?_, by simp⟩⟩
    rfl
theorem wOp_ev (op a b : Int) (h1 : 0 ≤ op) (h2 : op < 14) (ha : Big a) (hb : Big b) (sto : Sto) (lo : Nat) (hlo : lo ≤ sto.length) : CallEv Tryd.prog tab B0 50 [.v (VI op), .v (VI a), .v (VI b)] sto lo (.v (.tup [VI (opW op (wrapS a) (wrapS b)), VI (codeW op (wrapS b))])) sto := by
  obtain rfl | rfl | rfl | rfl | rfl | rfl | rfl | rfl | rfl | rfl | rfl | rfl | rfl | rfl : op = 0 ∨ op = 1 ∨ op = 2 ∨ op = 3 ∨ op = 4 ∨ op = 5 ∨ op = 6 ∨ op = 7 ∨ op = 8 ∨ op = 9 ∨ op = 10 ∨ op = 11 ∨ op = 12 ∨ op = 13 := by omega
  · exact wOp0_ev a b ha hb sto lo hlo
  · exact wOp1_ev a b ha hb sto lo hlo
  · exact wOp2_ev a b ha hb sto lo hlo
  · exact wOp3_ev a b ha hb sto lo hlo
  · exact wOp4_ev a b ha hb sto lo hlo
  · exact wOp5_ev a b ha hb sto lo hlo
  · exact wOp6_ev a b ha hb sto lo hlo
  · exact wOp7_ev a b ha hb sto lo hlo
  · exact wOp8_ev a b ha hb sto lo hlo
  · exact wOp9_ev a b ha hb sto lo hlo
  · exact wOp10_ev a b ha hb sto lo hlo
  · exact wOp11_ev a b ha hb sto lo hlo
  · exact wOp12_ev a b ha hb sto lo hlo
  · exact wOp13_ev a b ha hb sto lo hlo
theorem rOp_ev (op a b : Int) (h1 : 0 ≤ op) (h2 : op < 14) (ha : Big a) (hb : Big b) (sto : Sto) (lo : Nat) (hlo : lo ≤ sto.length) : CallEv Tryd.prog tab B0 53 [.v (VI op), .v (VI a), .v (VI b)] sto lo (.v (.tup [VI (opW op (wrapS a) (wrapS b)), VI (codeW op (wrapS b))])) sto := by
  obtain rfl | rfl | rfl | rfl | rfl | rfl | rfl | rfl | rfl | rfl | rfl | rfl | rfl | rfl : op = 0 ∨ op = 1 ∨ op = 2 ∨ op = 3 ∨ op = 4 ∨ op = 5 ∨ op = 6 ∨ op = 7 ∨ op = 8 ∨ op = 9 ∨ op = 10 ∨ op = 11 ∨ op = 12 ∨ op = 13 := by omega
  · exact rOp0_ev a b ha hb sto lo hlo
  · exact rOp1_ev a b ha hb sto lo hlo
  · exact rOp2_ev a b ha hb sto lo hlo
  · exact rOp3_ev a b ha hb sto lo hlo
  · exact rOp4_ev a b ha hb sto lo hlo
  · exact rOp5_ev a b ha hb sto lo hlo
  · exact rOp6_ev a b ha hb sto lo hlo
  · exact rOp7_ev a b ha hb sto lo hlo
  · exact rOp8_ev a b ha hb sto lo hlo
  · exact rOp9_ev a b ha hb sto lo hlo
  · exact rOp10_ev a b ha hb sto lo hlo
  · exact rOp11_ev a b ha hb sto lo hlo
  · exact rOp12_ev a b ha hb sto lo hlo
  · exact rOp13_ev a b ha hb sto lo hlo
end Go.Proofs.YtomameefmobnlaaDoor
namespace Go.Proofs.YtomameefmobnlaaDoor
open Go Go.RowKit

attribute [local irreducible] EvOps EvC
attribute [local go_sem] List.getElem?_toArray getS List.flatten_cons List.flatten_nil List.contains_nil cellsTs List.append_nil
set_option linter.unusedSimpArgs false
set_option linter.unusedVariables false
set_option maxRecDepth 100000
set_option maxHeartbeats 4000000
theorem tNumber_ev (b : Bool) (sto : Sto) (lo : Nat) (hlo : lo ≤ sto.length) : CallEv Tryd.prog tab B0 49 [.v (.bool b)] sto lo (.v (VI (if b then 1 else 0))) sto := by
  cases b
  all_goals
    refine CallEv.intro ⟨_, _, [], Tryd.func49, rfl, by decide, ?_⟩; simp only [go_sem, Tryd.ntmps49]
    repeat' (first | (refine go ⟨?_⟩) | (fail) | ((first | (refine bsp ?_ ?_) | (refine csp ?_ ?_)); all_goals (intro hb; (fail_if_success (cases hb; done)); (try simp only [decide_eq_true_eq, decide_eq_false_iff_not, beq_iff_eq, bne_iff_ne, ne_eq, beq_eq_false_iff_ne, bne_eq_false_iff_eq, Bool.not_eq_true', Bool.not_eq_false', Bool.and_eq_true, Bool.or_eq_true, Decidable.not_not] at hb); (try simp only [go_sem]))))
    refine ⟨by first | exact .inr rfl | exact .inl rfl, .inl ⟨[], _, (by dsimp only [Tryd.f49]; exact sv), ?_, by simp⟩⟩
    rfl
theorem valAt_lt {vals : List Int} {n : Nat} (h : n < vals.length) (m : Int) : valAt vals (n : Int) m = if m = 1 then (if vals[n] ≠ 0 then 1 else 0) else wrapS vals[n] := by
  unfold valAt
  rw [Int.toNat_natCast, show vals.getD n 0 = vals[n] from by simp [List.getD, h]]
theorem valAt_ge {vals : List Int} {n : Nat} (h : ¬ n < vals.length) (m : Int) : valAt vals (n : Int) m = 0 := by
  unfold valAt
  rw [Int.toNat_natCast, show vals.getD n 0 = 0 from by simp [List.getD, h]]
  simp [wrapS]
theorem eval_big {k : Int} {t : Tr} (h : Wt k t) (vals : List Int) : Big (evalS vals t) := by
  have := eval_range h vals
  exact ⟨by omega, by omega⟩
theorem evalBin_ev (vals : List Int) {op va vb : Int} {a b : Tr} (h1 : 0 ≤ op) (h2 : op < 14) (ha : Big va) (hb : Big vb)
    (iha : ∀ (sto : Sto) (lo : Nat), lo ≤ sto.length → CallEv Tryd.prog tab B0 20 [.v (TV a), .v (LI vals)] sto lo (.v (VI va)) sto)
    (ihb : ∀ (sto : Sto) (lo : Nat), lo ≤ sto.length → CallEv Tryd.prog tab B0 20 [.v (TV b), .v (LI vals)] sto lo (.v (VI vb)) sto) (sto : Sto) (lo : Nat) (hlo : lo ≤ sto.length) :
    CallEv Tryd.prog tab B0 20 [.v (TV (.mk 9 op 0 [a, b])), .v (LI vals)] sto lo (.v (VI (opW op (wrapS va) (wrapS vb)))) sto := by
  have ho := fun sto lo hlo => wOp_ev op va vb h1 h2 ha hb sto lo hlo
  generalize opW op (wrapS va) (wrapS vb) = r at *
  generalize codeW op (wrapS vb) = cd at *
  obtain ⟨k1, n1, m1, l1⟩ := a
  obtain ⟨k2, n2, m2, l2⟩ := b
  refine CallEv.intro ⟨_, _, [], Tryd.func20, rfl, by decide, ?_⟩; simp only [go_sem, Tryd.ntmps20]
  repeat' (first | (refine go ⟨?_⟩) | (first | ((refine call ?_); (refine ⟨_, iha _ _ (by first | omega | (simp; done) | (simp; omega)), ?_⟩); (try simp only [go_sem])) | ((refine call ?_); (refine ⟨_, ihb _ _ (by first | omega | (simp; done) | (simp; omega)), ?_⟩); (try simp only [go_sem])) | ((refine call ?_); (refine ⟨_, ho _ _ (by first | omega | (simp; done) | (simp; omega)), ?_⟩); (try simp only [go_sem]))) | ((first | (refine bsp ?_ ?_) | (refine csp ?_ ?_)); all_goals (intro hb; (fail_if_success (cases hb; done)); (try simp only [decide_eq_true_eq, decide_eq_false_iff_not, beq_iff_eq, bne_iff_ne, ne_eq, beq_eq_false_iff_ne, bne_eq_false_iff_eq, Bool.not_eq_true', Bool.not_eq_false', Bool.and_eq_true, Bool.or_eq_true, Decidable.not_not] at hb); (try simp only [go_sem]))))
  refine ⟨by first | exact .inr rfl | exact .inl rfl, .inl ⟨[], _, (by dsimp only [Tryd.f20]; exact sv), ?_, by simp⟩⟩
  rfl
theorem eval_ev (vals : List Int) (hv : ∀ x ∈ vals, Big x) (hl : vals.length < 9223372036854775808) {k : Int} {t : Tr} (h : Wt k t) : ∀ (sto : Sto) (lo : Nat), lo ≤ sto.length → CallEv Tryd.prog tab B0 20 [.v (TV t), .v (LI vals)] sto lo (.v (VI (evalS vals t))) sto := by
  induction h with
  | num h1 h2 =>
    rename_i n
    intro sto lo hlo
    rw [show evalS vals (.mk 4 n 0 []) = n from by simp [evalS]]
    refine CallEv.intro ⟨_, _, [], Tryd.func20, rfl, by decide, ?_⟩; simp only [go_sem, Tryd.ntmps20]
    repeat' (first | (refine go ⟨?_⟩) | (fail) | ((first | (refine bsp ?_ ?_) | (refine csp ?_ ?_)); all_goals (intro hb; (fail_if_success (cases hb; done)); (try simp only [decide_eq_true_eq, decide_eq_false_iff_not, beq_iff_eq, bne_iff_ne, ne_eq, beq_eq_false_iff_ne, bne_eq_false_iff_eq, Bool.not_eq_true', Bool.not_eq_false', Bool.and_eq_true, Bool.or_eq_true, Decidable.not_not] at hb); (try simp only [go_sem]))))
    refine ⟨by first | exact .inr rfl | exact .inl rfl, .inl ⟨[], _, (by dsimp only [Tryd.f20]; exact sv), ?_, by simp⟩⟩
    rfl
  | truth h1 h2 =>
    rename_i n
    intro sto lo hlo
    rw [show evalS vals (.mk 5 n 0 []) = n from by simp [evalS]]
    refine CallEv.intro ⟨_, _, [], Tryd.func20, rfl, by decide, ?_⟩; simp only [go_sem, Tryd.ntmps20]
    repeat' (first | (refine go ⟨?_⟩) | (fail) | ((first | (refine bsp ?_ ?_) | (refine csp ?_ ?_)); all_goals (intro hb; (fail_if_success (cases hb; done)); (try simp only [decide_eq_true_eq, decide_eq_false_iff_not, beq_iff_eq, bne_iff_ne, ne_eq, beq_eq_false_iff_ne, bne_eq_false_iff_eq, Bool.not_eq_true', Bool.not_eq_false', Bool.and_eq_true, Bool.or_eq_true, Decidable.not_not] at hb); (try simp only [go_sem]))))
    refine ⟨by first | exact .inr rfl | exact .inl rfl, .inl ⟨[], _, (by dsimp only [Tryd.f20]; exact sv), ?_, by simp⟩⟩
    rfl
  | var h1 h2 h3 =>
    rename_i n m
    intro sto lo hlo
    rw [show evalS vals (.mk 6 n m []) = valAt vals n m from by simp [evalS]]
    obtain ⟨n, rfl⟩ := Int.eq_ofNat_of_zero_le h1
    by_cases hn : n < vals.length
    · rw [valAt_lt hn]
      have hb := hv _ (List.getElem_mem hn)
      have hw := fun sto lo hlo => wWrap_ev vals[n] hb sto lo hlo
      by_cases hm : m = 1
      · subst hm
        rw [if_pos rfl]
        by_cases h0 : vals[n] = 0
        · rw [if_neg (fun h => h h0)]
          refine CallEv.intro ⟨_, _, [], Tryd.func20, rfl, by decide, ?_⟩; simp only [go_sem, Tryd.ntmps20]
          repeat' (first | (refine go ⟨?_⟩) | (((refine call ?_); (refine ⟨_, tNumber_ev _ _ _ (by first | omega | (simp; done) | (simp; omega)), ?_⟩); (try simp only [go_sem]))) | ((first | (refine bsp ?_ ?_) | (refine csp ?_ ?_)); all_goals (intro hb; (fail_if_success (cases hb; done)); (try simp only [decide_eq_true_eq, decide_eq_false_iff_not, beq_iff_eq, bne_iff_ne, ne_eq, beq_eq_false_iff_ne, bne_eq_false_iff_eq, Bool.not_eq_true', Bool.not_eq_false', Bool.and_eq_true, Bool.or_eq_true, Decidable.not_not] at hb); (try simp only [go_sem]))))
          refine ⟨by first | exact .inr rfl | exact .inl rfl, .inl ⟨[], _, (by dsimp only [Tryd.f20]; exact sv), ?_, by simp⟩⟩
          rfl
        · rw [if_pos h0]
          refine CallEv.intro ⟨_, _, [], Tryd.func20, rfl, by decide, ?_⟩; simp only [go_sem, Tryd.ntmps20]
          repeat' (first | (refine go ⟨?_⟩) | (((refine call ?_); (refine ⟨_, tNumber_ev _ _ _ (by first | omega | (simp; done) | (simp; omega)), ?_⟩); (try simp only [go_sem]))) | ((first | (refine bsp ?_ ?_) | (refine csp ?_ ?_)); all_goals (intro hb; (fail_if_success (cases hb; done)); (try simp only [decide_eq_true_eq, decide_eq_false_iff_not, beq_iff_eq, bne_iff_ne, ne_eq, beq_eq_false_iff_ne, bne_eq_false_iff_eq, Bool.not_eq_true', Bool.not_eq_false', Bool.and_eq_true, Bool.or_eq_true, Decidable.not_not] at hb); (try simp only [go_sem]))))
          refine ⟨by first | exact .inr rfl | exact .inl rfl, .inl ⟨[], _, (by dsimp only [Tryd.f20]; exact sv), ?_, by simp⟩⟩
          rfl
      · rw [if_neg hm]
        refine CallEv.intro ⟨_, _, [], Tryd.func20, rfl, by decide, ?_⟩; simp only [go_sem, Tryd.ntmps20]
        repeat' (first | (refine go ⟨?_⟩) | (((refine call ?_); (refine ⟨_, hw _ _ (by first | omega | (simp; done) | (simp; omega)), ?_⟩); (try simp only [go_sem]))) | ((first | (refine bsp ?_ ?_) | (refine csp ?_ ?_)); all_goals (intro hb; (fail_if_success (cases hb; done)); (try simp only [decide_eq_true_eq, decide_eq_false_iff_not, beq_iff_eq, bne_iff_ne, ne_eq, beq_eq_false_iff_ne, bne_eq_false_iff_eq, Bool.not_eq_true', Bool.not_eq_false', Bool.and_eq_true, Bool.or_eq_true, Decidable.not_not] at hb); (try simp only [go_sem]))))
        refine ⟨by first | exact .inr rfl | exact .inl rfl, .inl ⟨[], _, (by dsimp only [Tryd.f20]; exact sv), ?_, by simp⟩⟩
        rfl
    · rw [valAt_ge hn]
      have hw := fun sto lo hlo => wWrap_ev 0 ⟨by omega, by omega⟩ sto lo hlo
      rw [show wrapS 0 = 0 from by decide] at hw
      by_cases hm : m = 1
      · subst hm
        refine CallEv.intro ⟨_, _, [], Tryd.func20, rfl, by decide, ?_⟩; simp only [go_sem, Tryd.ntmps20]
        repeat' (first | (refine go ⟨?_⟩) | (((refine call ?_); (refine ⟨_, tNumber_ev _ _ _ (by first | omega | (simp; done) | (simp; omega)), ?_⟩); (try simp only [go_sem]))) | ((first | (refine bsp ?_ ?_) | (refine csp ?_ ?_)); all_goals (intro hb; (fail_if_success (cases hb; done)); (try simp only [decide_eq_true_eq, decide_eq_false_iff_not, beq_iff_eq, bne_iff_ne, ne_eq, beq_eq_false_iff_ne, bne_eq_false_iff_eq, Bool.not_eq_true', Bool.not_eq_false', Bool.and_eq_true, Bool.or_eq_true, Decidable.not_not] at hb); (try simp only [go_sem]))))
        refine ⟨by first | exact .inr rfl | exact .inl rfl, .inl ⟨[], _, (by dsimp only [Tryd.f20]; exact sv), ?_, by simp⟩⟩
        rfl
      · refine CallEv.intro ⟨_, _, [], Tryd.func20, rfl, by decide, ?_⟩; simp only [go_sem, Tryd.ntmps20]
        repeat' (first | (refine go ⟨?_⟩) | (((refine call ?_); (refine ⟨_, hw _ _ (by first | omega | (simp; done) | (simp; omega)), ?_⟩); (try simp only [go_sem]))) | ((first | (refine bsp ?_ ?_) | (refine csp ?_ ?_)); all_goals (intro hb; (fail_if_success (cases hb; done)); (try simp only [decide_eq_true_eq, decide_eq_false_iff_not, beq_iff_eq, bne_iff_ne, ne_eq, beq_eq_false_iff_ne, bne_eq_false_iff_eq, Bool.not_eq_true', Bool.not_eq_false', Bool.and_eq_true, Bool.or_eq_true, Decidable.not_not] at hb); (try simp only [go_sem]))))
        refine ⟨by first | exact .inr rfl | exact .inl rfl, .inl ⟨[], _, (by dsimp only [Tryd.f20]; exact sv), ?_, by simp⟩⟩
        rfl
  | not ha ih =>
    rename_i a
    intro sto lo hlo
    have hr := eval_range ha vals
    rw [show evalS vals (.mk 10 0 0 [a]) = 1 - evalS vals a from by
      have := hr.2.2 rfl
      simp only [evalS]
      simp
      split <;> omega]
    generalize evalS vals a = v at *
    obtain ⟨hr1, hr2, -⟩ := hr
    obtain ⟨k1, n1, m1, l1⟩ := a
    clear ha
    refine CallEv.intro ⟨_, _, [], Tryd.func20, rfl, by decide, ?_⟩; simp only [go_sem, Tryd.ntmps20]
    repeat' (first | (refine go ⟨?_⟩) | (((refine call ?_); (refine ⟨_, ih _ _ (by first | omega | (simp; done) | (simp; omega)), ?_⟩); (try simp only [go_sem]))) | ((first | (refine bsp ?_ ?_) | (refine csp ?_ ?_)); all_goals (intro hb; (fail_if_success (cases hb; done)); (try simp only [decide_eq_true_eq, decide_eq_false_iff_not, beq_iff_eq, bne_iff_ne, ne_eq, beq_eq_false_iff_ne, bne_eq_false_iff_eq, Bool.not_eq_true', Bool.not_eq_false', Bool.and_eq_true, Bool.or_eq_true, Decidable.not_not] at hb); (try simp only [go_sem]))))
    refine ⟨by first | exact .inr rfl | exact .inl rfl, .inl ⟨[], _, (by dsimp only [Tryd.f20]; exact sv), ?_, by simp⟩⟩
    rfl
  | cond hc ha hb ihc iha ihb =>
    rename_i k c a b
    intro sto lo hlo
    have hr := (eval_range hc vals).2.2 rfl
    have e : evalS vals (.mk 29 0 0 [c, a, b]) = if evalS vals c = 1 then evalS vals a else evalS vals b := by simp [evalS]
    rw [e]
    generalize evalS vals a = va at *
    generalize evalS vals b = vb at *
    generalize evalS vals c = vc at *
    obtain ⟨k0, n0, m0, l0⟩ := c
    obtain ⟨k1, n1, m1, l1⟩ := a
    obtain ⟨k2, n2, m2, l2⟩ := b
    clear hc ha hb e
    rcases hr with rfl | rfl
    · rw [if_neg (by decide)]
      refine CallEv.intro ⟨_, _, [], Tryd.func20, rfl, by decide, ?_⟩; simp only [go_sem, Tryd.ntmps20]
      repeat' (first | (refine go ⟨?_⟩) | (first | ((refine call ?_); (refine ⟨_, ihc _ _ (by first | omega | (simp; done) | (simp; omega)), ?_⟩); (try simp only [go_sem])) | ((refine call ?_); (refine ⟨_, ihb _ _ (by first | omega | (simp; done) | (simp; omega)), ?_⟩); (try simp only [go_sem]))) | ((first | (refine bsp ?_ ?_) | (refine csp ?_ ?_)); all_goals (intro hb; (fail_if_success (cases hb; done)); (try simp only [decide_eq_true_eq, decide_eq_false_iff_not, beq_iff_eq, bne_iff_ne, ne_eq, beq_eq_false_iff_ne, bne_eq_false_iff_eq, Bool.not_eq_true', Bool.not_eq_false', Bool.and_eq_true, Bool.or_eq_true, Decidable.not_not] at hb); (try simp only [go_sem]))))
      refine ⟨by first | exact .inr rfl | exact .inl rfl, .inl ⟨[], _, (by dsimp only [Tryd.f20]; exact sv), ?_, by simp⟩⟩
      rfl
    · rw [if_pos rfl]
      refine CallEv.intro ⟨_, _, [], Tryd.func20, rfl, by decide, ?_⟩; simp only [go_sem, Tryd.ntmps20]
      repeat' (first | (refine go ⟨?_⟩) | (first | ((refine call ?_); (refine ⟨_, ihc _ _ (by first | omega | (simp; done) | (simp; omega)), ?_⟩); (try simp only [go_sem])) | ((refine call ?_); (refine ⟨_, iha _ _ (by first | omega | (simp; done) | (simp; omega)), ?_⟩); (try simp only [go_sem]))) | ((first | (refine bsp ?_ ?_) | (refine csp ?_ ?_)); all_goals (intro hb; (fail_if_success (cases hb; done)); (try simp only [decide_eq_true_eq, decide_eq_false_iff_not, beq_iff_eq, bne_iff_ne, ne_eq, beq_eq_false_iff_ne, bne_eq_false_iff_eq, Bool.not_eq_true', Bool.not_eq_false', Bool.and_eq_true, Bool.or_eq_true, Decidable.not_not] at hb); (try simp only [go_sem]))))
      refine ⟨by first | exact .inr rfl | exact .inl rfl, .inl ⟨[], _, (by dsimp only [Tryd.f20]; exact sv), ?_, by simp⟩⟩
      rfl
  | word h1 h2 ha hb iha ihb =>
    rename_i op a b
    intro sto lo hlo
    rw [show evalS vals (.mk 9 op 0 [a, b]) = opW op (wrapS (evalS vals a)) (wrapS (evalS vals b)) from by simp [evalS]]
    exact evalBin_ev vals (by omega) (by omega) (eval_big ha vals) (eval_big hb vals) iha ihb sto lo hlo
  | comp h1 h2 ha hb iha ihb =>
    rename_i op a b
    intro sto lo hlo
    rw [show evalS vals (.mk 9 op 0 [a, b]) = opW op (wrapS (evalS vals a)) (wrapS (evalS vals b)) from by simp [evalS]]
    exact evalBin_ev vals (by omega) (by omega) (eval_big ha vals) (eval_big hb vals) iha ihb sto lo hlo
  | both h1 h2 ha hb iha ihb =>
    rename_i op a b
    intro sto lo hlo
    rw [show evalS vals (.mk 9 op 0 [a, b]) = opW op (wrapS (evalS vals a)) (wrapS (evalS vals b)) from by simp [evalS]]
    exact evalBin_ev vals (by omega) (by omega) (eval_big ha vals) (eval_big hb vals) iha ihb sto lo hlo
end Go.Proofs.YtomameefmobnlaaDoor
namespace Go.Proofs.YtomameefmobnlaaDoor
open Go Go.RowKit

attribute [local irreducible] EvOps EvC
attribute [local go_sem] List.getElem?_toArray getS List.flatten_cons List.flatten_nil List.contains_nil cellsTs List.append_nil
set_option linter.unusedSimpArgs false
set_option linter.unusedVariables false
set_option maxRecDepth 100000
set_option maxHeartbeats 4000000
theorem rEvalBin_ev (vals : List Int) {op va vb : Int} {a b : Tr} (h1 : 0 ≤ op) (h2 : op < 14) (ha : Big va) (hb : Big vb)
    (iha : ∀ (sto : Sto) (lo : Nat), lo ≤ sto.length → CallEv Tryd.prog tab B0 21 [.v (TV a), .v (LI vals)] sto lo (.v (VI va)) sto)
    (ihb : ∀ (sto : Sto) (lo : Nat), lo ≤ sto.length → CallEv Tryd.prog tab B0 21 [.v (TV b), .v (LI vals)] sto lo (.v (VI vb)) sto) (sto : Sto) (lo : Nat) (hlo : lo ≤ sto.length) :
    CallEv Tryd.prog tab B0 21 [.v (TV (.mk 9 op 0 [a, b])), .v (LI vals)] sto lo (.v (VI (opW op (wrapS va) (wrapS vb)))) sto := by
  have ho := fun sto lo hlo => rOp_ev op va vb h1 h2 ha hb sto lo hlo
  have hz : vb = 0 → (op = 3 ∨ op = 4) → opW op (wrapS va) (wrapS vb) = 0 := fun h h' => by
    subst h
    rcases h' with rfl | rfl
    · simp [opW, wrapS]
    · simp [opW, wrapS]
  have hzh := Lib.hid hz
  clear hz
  generalize opW op (wrapS va) (wrapS vb) = r at *
  generalize codeW op (wrapS vb) = cd at *
  obtain ⟨k1, n1, m1, l1⟩ := a
  obtain ⟨k2, n2, m2, l2⟩ := b
  refine CallEv.intro ⟨_, _, [], Tryd.func21, rfl, by decide, ?_⟩; simp only [go_sem, Tryd.ntmps21]
  repeat' (first | (refine go ⟨?_⟩) | (first | ((refine call ?_); (refine ⟨_, iha _ _ (by first | omega | (simp; done) | (simp; omega)), ?_⟩); (try simp only [go_sem])) | ((refine call ?_); (refine ⟨_, ihb _ _ (by first | omega | (simp; done) | (simp; omega)), ?_⟩); (try simp only [go_sem])) | ((refine call ?_); (refine ⟨_, ho _ _ (by first | omega | (simp; done) | (simp; omega)), ?_⟩); (try simp only [go_sem]))) | ((first | (refine bsp ?_ ?_) | (refine csp ?_ ?_)); all_goals (intro hb; (fail_if_success (cases hb; done)); (try simp only [decide_eq_true_eq, decide_eq_false_iff_not, beq_iff_eq, bne_iff_ne, ne_eq, beq_eq_false_iff_ne, bne_eq_false_iff_eq, Bool.not_eq_true', Bool.not_eq_false', Bool.and_eq_true, Bool.or_eq_true, Decidable.not_not] at hb); (try simp only [go_sem]))))
  all_goals
    refine ⟨by first | exact .inr rfl | exact .inl rfl, .inl ⟨[], _, (by dsimp only [Tryd.f21]; exact sv), ?_, by simp⟩⟩
    first
      | rfl
      | (have hz : vb = 0 → (op = 3 ∨ op = 4) → r = 0 := hzh
         rw [hz (by assumption) (by omega)])
theorem rEval_ev (vals : List Int) (hv : ∀ x ∈ vals, Big x) (hl : vals.length < 9223372036854775808) {k : Int} {t : Tr} (h : Wt k t) : ∀ (sto : Sto) (lo : Nat), lo ≤ sto.length → CallEv Tryd.prog tab B0 21 [.v (TV t), .v (LI vals)] sto lo (.v (VI (evalS vals t))) sto := by
  induction h with
  | num h1 h2 =>
    rename_i n
    intro sto lo hlo
    rw [show evalS vals (.mk 4 n 0 []) = n from by simp [evalS]]
    refine CallEv.intro ⟨_, _, [], Tryd.func21, rfl, by decide, ?_⟩; simp only [go_sem, Tryd.ntmps21]
    repeat' (first | (refine go ⟨?_⟩) | (fail) | ((first | (refine bsp ?_ ?_) | (refine csp ?_ ?_)); all_goals (intro hb; (fail_if_success (cases hb; done)); (try simp only [decide_eq_true_eq, decide_eq_false_iff_not, beq_iff_eq, bne_iff_ne, ne_eq, beq_eq_false_iff_ne, bne_eq_false_iff_eq, Bool.not_eq_true', Bool.not_eq_false', Bool.and_eq_true, Bool.or_eq_true, Decidable.not_not] at hb); (try simp only [go_sem]))))
    refine ⟨by first | exact .inr rfl | exact .inl rfl, .inl ⟨[], _, (by dsimp only [Tryd.f21]; exact sv), ?_, by simp⟩⟩
    rfl
  | truth h1 h2 =>
    rename_i n
    intro sto lo hlo
    rw [show evalS vals (.mk 5 n 0 []) = n from by simp [evalS]]
    refine CallEv.intro ⟨_, _, [], Tryd.func21, rfl, by decide, ?_⟩; simp only [go_sem, Tryd.ntmps21]
    repeat' (first | (refine go ⟨?_⟩) | (fail) | ((first | (refine bsp ?_ ?_) | (refine csp ?_ ?_)); all_goals (intro hb; (fail_if_success (cases hb; done)); (try simp only [decide_eq_true_eq, decide_eq_false_iff_not, beq_iff_eq, bne_iff_ne, ne_eq, beq_eq_false_iff_ne, bne_eq_false_iff_eq, Bool.not_eq_true', Bool.not_eq_false', Bool.and_eq_true, Bool.or_eq_true, Decidable.not_not] at hb); (try simp only [go_sem]))))
    refine ⟨by first | exact .inr rfl | exact .inl rfl, .inl ⟨[], _, (by dsimp only [Tryd.f21]; exact sv), ?_, by simp⟩⟩
    rfl
  | var h1 h2 h3 =>
    rename_i n m
    intro sto lo hlo
    rw [show evalS vals (.mk 6 n m []) = valAt vals n m from by simp [evalS]]
    obtain ⟨n, rfl⟩ := Int.eq_ofNat_of_zero_le h1
    by_cases hn : n < vals.length
    · rw [valAt_lt hn]
      have hb := hv _ (List.getElem_mem hn)
      have hw := fun sto lo hlo => refWrap_ev vals[n] hb sto lo hlo
      by_cases hm : m = 1
      · subst hm
        rw [if_pos rfl]
        by_cases h0 : vals[n] = 0
        · rw [if_neg (fun h => h h0)]
          refine CallEv.intro ⟨_, _, [], Tryd.func21, rfl, by decide, ?_⟩; simp only [go_sem, Tryd.ntmps21]
          repeat' (first | (refine go ⟨?_⟩) | (((refine call ?_); (refine ⟨_, refNumber_ev _ _ _ (by first | omega | (simp; done) | (simp; omega)), ?_⟩); (try simp only [go_sem]))) | ((first | (refine bsp ?_ ?_) | (refine csp ?_ ?_)); all_goals (intro hb; (fail_if_success (cases hb; done)); (try simp only [decide_eq_true_eq, decide_eq_false_iff_not, beq_iff_eq, bne_iff_ne, ne_eq, beq_eq_false_iff_ne, bne_eq_false_iff_eq, Bool.not_eq_true', Bool.not_eq_false', Bool.and_eq_true, Bool.or_eq_true, Decidable.not_not] at hb); (try simp only [go_sem]))))
          refine ⟨by first | exact .inr rfl | exact .inl rfl, .inl ⟨[], _, (by dsimp only [Tryd.f21]; exact sv), ?_, by simp⟩⟩
          rfl
        · rw [if_pos h0]
          refine CallEv.intro ⟨_, _, [], Tryd.func21, rfl, by decide, ?_⟩; simp only [go_sem, Tryd.ntmps21]
          repeat' (first | (refine go ⟨?_⟩) | (((refine call ?_); (refine ⟨_, refNumber_ev _ _ _ (by first | omega | (simp; done) | (simp; omega)), ?_⟩); (try simp only [go_sem]))) | ((first | (refine bsp ?_ ?_) | (refine csp ?_ ?_)); all_goals (intro hb; (fail_if_success (cases hb; done)); (try simp only [decide_eq_true_eq, decide_eq_false_iff_not, beq_iff_eq, bne_iff_ne, ne_eq, beq_eq_false_iff_ne, bne_eq_false_iff_eq, Bool.not_eq_true', Bool.not_eq_false', Bool.and_eq_true, Bool.or_eq_true, Decidable.not_not] at hb); (try simp only [go_sem]))))
          refine ⟨by first | exact .inr rfl | exact .inl rfl, .inl ⟨[], _, (by dsimp only [Tryd.f21]; exact sv), ?_, by simp⟩⟩
          rfl
      · rw [if_neg hm]
        refine CallEv.intro ⟨_, _, [], Tryd.func21, rfl, by decide, ?_⟩; simp only [go_sem, Tryd.ntmps21]
        repeat' (first | (refine go ⟨?_⟩) | (((refine call ?_); (refine ⟨_, hw _ _ (by first | omega | (simp; done) | (simp; omega)), ?_⟩); (try simp only [go_sem]))) | ((first | (refine bsp ?_ ?_) | (refine csp ?_ ?_)); all_goals (intro hb; (fail_if_success (cases hb; done)); (try simp only [decide_eq_true_eq, decide_eq_false_iff_not, beq_iff_eq, bne_iff_ne, ne_eq, beq_eq_false_iff_ne, bne_eq_false_iff_eq, Bool.not_eq_true', Bool.not_eq_false', Bool.and_eq_true, Bool.or_eq_true, Decidable.not_not] at hb); (try simp only [go_sem]))))
        refine ⟨by first | exact .inr rfl | exact .inl rfl, .inl ⟨[], _, (by dsimp only [Tryd.f21]; exact sv), ?_, by simp⟩⟩
        rfl
    · rw [valAt_ge hn]
      have hw := fun sto lo hlo => refWrap_ev 0 ⟨by omega, by omega⟩ sto lo hlo
      rw [show wrapS 0 = 0 from by decide] at hw
      by_cases hm : m = 1
      · subst hm
        refine CallEv.intro ⟨_, _, [], Tryd.func21, rfl, by decide, ?_⟩; simp only [go_sem, Tryd.ntmps21]
        repeat' (first | (refine go ⟨?_⟩) | (((refine call ?_); (refine ⟨_, refNumber_ev _ _ _ (by first | omega | (simp; done) | (simp; omega)), ?_⟩); (try simp only [go_sem]))) | ((first | (refine bsp ?_ ?_) | (refine csp ?_ ?_)); all_goals (intro hb; (fail_if_success (cases hb; done)); (try simp only [decide_eq_true_eq, decide_eq_false_iff_not, beq_iff_eq, bne_iff_ne, ne_eq, beq_eq_false_iff_ne, bne_eq_false_iff_eq, Bool.not_eq_true', Bool.not_eq_false', Bool.and_eq_true, Bool.or_eq_true, Decidable.not_not] at hb); (try simp only [go_sem]))))
        refine ⟨by first | exact .inr rfl | exact .inl rfl, .inl ⟨[], _, (by dsimp only [Tryd.f21]; exact sv), ?_, by simp⟩⟩
        rfl
      · refine CallEv.intro ⟨_, _, [], Tryd.func21, rfl, by decide, ?_⟩; simp only [go_sem, Tryd.ntmps21]
        repeat' (first | (refine go ⟨?_⟩) | (((refine call ?_); (refine ⟨_, hw _ _ (by first | omega | (simp; done) | (simp; omega)), ?_⟩); (try simp only [go_sem]))) | ((first | (refine bsp ?_ ?_) | (refine csp ?_ ?_)); all_goals (intro hb; (fail_if_success (cases hb; done)); (try simp only [decide_eq_true_eq, decide_eq_false_iff_not, beq_iff_eq, bne_iff_ne, ne_eq, beq_eq_false_iff_ne, bne_eq_false_iff_eq, Bool.not_eq_true', Bool.not_eq_false', Bool.and_eq_true, Bool.or_eq_true, Decidable.not_not] at hb); (try simp only [go_sem]))))
        refine ⟨by first | exact .inr rfl | exact .inl rfl, .inl ⟨[], _, (by dsimp only [Tryd.f21]; exact sv), ?_, by simp⟩⟩
        rfl
  | not ha ih =>
    rename_i a
    intro sto lo hlo
    have hr := (eval_range ha vals).2.2 rfl
    rw [show evalS vals (.mk 10 0 0 [a]) = if evalS vals a = 1 then 0 else 1 from by simp [evalS]]
    generalize evalS vals a = v at *
    obtain ⟨k1, n1, m1, l1⟩ := a
    clear ha
    rcases hr with rfl | rfl
    all_goals
      refine CallEv.intro ⟨_, _, [], Tryd.func21, rfl, by decide, ?_⟩; simp only [go_sem, Tryd.ntmps21]
      repeat' (first | (refine go ⟨?_⟩) | (((refine call ?_); (refine ⟨_, ih _ _ (by first | omega | (simp; done) | (simp; omega)), ?_⟩); (try simp only [go_sem]))) | ((first | (refine bsp ?_ ?_) | (refine csp ?_ ?_)); all_goals (intro hb; (fail_if_success (cases hb; done)); (try simp only [decide_eq_true_eq, decide_eq_false_iff_not, beq_iff_eq, bne_iff_ne, ne_eq, beq_eq_false_iff_ne, bne_eq_false_iff_eq, Bool.not_eq_true', Bool.not_eq_false', Bool.and_eq_true, Bool.or_eq_true, Decidable.not_not] at hb); (try simp only [go_sem]))))
      refine ⟨by first | exact .inr rfl | exact .inl rfl, .inl ⟨[], _, (by dsimp only [Tryd.f21]; exact sv), ?_, by simp⟩⟩
      rfl
  | cond hc ha hb ihc iha ihb =>
    rename_i k c a b
    intro sto lo hlo
    have hr := (eval_range hc vals).2.2 rfl
    have e : evalS vals (.mk 29 0 0 [c, a, b]) = if evalS vals c = 1 then evalS vals a else evalS vals b := by simp [evalS]
    rw [e]
    generalize evalS vals a = va at *
    generalize evalS vals b = vb at *
    generalize evalS vals c = vc at *
    obtain ⟨k0, n0, m0, l0⟩ := c
    obtain ⟨k1, n1, m1, l1⟩ := a
    obtain ⟨k2, n2, m2, l2⟩ := b
    clear hc ha hb e
    rcases hr with rfl | rfl
    · rw [if_neg (by decide)]
      refine CallEv.intro ⟨_, _, [], Tryd.func21, rfl, by decide, ?_⟩; simp only [go_sem, Tryd.ntmps21]
      repeat' (first | (refine go ⟨?_⟩) | (first | ((refine call ?_); (refine ⟨_, ihc _ _ (by first | omega | (simp; done) | (simp; omega)), ?_⟩); (try simp only [go_sem])) | ((refine call ?_); (refine ⟨_, ihb _ _ (by first | omega | (simp; done) | (simp; omega)), ?_⟩); (try simp only [go_sem]))) | ((first | (refine bsp ?_ ?_) | (refine csp ?_ ?_)); all_goals (intro hb; (fail_if_success (cases hb; done)); (try simp only [decide_eq_true_eq, decide_eq_false_iff_not, beq_iff_eq, bne_iff_ne, ne_eq, beq_eq_false_iff_ne, bne_eq_false_iff_eq, Bool.not_eq_true', Bool.not_eq_false', Bool.and_eq_true, Bool.or_eq_true, Decidable.not_not] at hb); (try simp only [go_sem]))))
      refine ⟨by first | exact .inr rfl | exact .inl rfl, .inl ⟨[], _, (by dsimp only [Tryd.f21]; exact sv), ?_, by simp⟩⟩
      rfl
    · rw [if_pos rfl]
      refine CallEv.intro ⟨_, _, [], Tryd.func21, rfl, by decide, ?_⟩; simp only [go_sem, Tryd.ntmps21]
      repeat' (first | (refine go ⟨?_⟩) | (first | ((refine call ?_); (refine ⟨_, ihc _ _ (by first | omega | (simp; done) | (simp; omega)), ?_⟩); (try simp only [go_sem])) | ((refine call ?_); (refine ⟨_, iha _ _ (by first | omega | (simp; done) | (simp; omega)), ?_⟩); (try simp only [go_sem]))) | ((first | (refine bsp ?_ ?_) | (refine csp ?_ ?_)); all_goals (intro hb; (fail_if_success (cases hb; done)); (try simp only [decide_eq_true_eq, decide_eq_false_iff_not, beq_iff_eq, bne_iff_ne, ne_eq, beq_eq_false_iff_ne, bne_eq_false_iff_eq, Bool.not_eq_true', Bool.not_eq_false', Bool.and_eq_true, Bool.or_eq_true, Decidable.not_not] at hb); (try simp only [go_sem]))))
      refine ⟨by first | exact .inr rfl | exact .inl rfl, .inl ⟨[], _, (by dsimp only [Tryd.f21]; exact sv), ?_, by simp⟩⟩
      rfl
  | word h1 h2 ha hb iha ihb =>
    rename_i op a b
    intro sto lo hlo
    rw [show evalS vals (.mk 9 op 0 [a, b]) = opW op (wrapS (evalS vals a)) (wrapS (evalS vals b)) from by simp [evalS]]
    exact rEvalBin_ev vals (by omega) (by omega) (eval_big ha vals) (eval_big hb vals) iha ihb sto lo hlo
  | comp h1 h2 ha hb iha ihb =>
    rename_i op a b
    intro sto lo hlo
    rw [show evalS vals (.mk 9 op 0 [a, b]) = opW op (wrapS (evalS vals a)) (wrapS (evalS vals b)) from by simp [evalS]]
    exact rEvalBin_ev vals (by omega) (by omega) (eval_big ha vals) (eval_big hb vals) iha ihb sto lo hlo
  | both h1 h2 ha hb iha ihb =>
    rename_i op a b
    intro sto lo hlo
    rw [show evalS vals (.mk 9 op 0 [a, b]) = opW op (wrapS (evalS vals a)) (wrapS (evalS vals b)) from by simp [evalS]]
    exact rEvalBin_ev vals (by omega) (by omega) (eval_big ha vals) (eval_big hb vals) iha ihb sto lo hlo
end Go.Proofs.YtomameefmobnlaaDoor
namespace Go.Proofs.YtomameefmobnlaaDoor
open Go Go.RowKit

attribute [local irreducible] EvOps EvC
attribute [local go_sem] List.getElem?_toArray getS List.flatten_cons List.flatten_nil List.contains_nil cellsTs List.append_nil
set_option linter.unusedSimpArgs false
set_option linter.unusedVariables false
set_option maxRecDepth 100000
set_option maxHeartbeats 4000000
theorem values_ev (n : Int) (hn : Big n) (sto : Sto) (lo : Nat) (hlo : lo ≤ sto.length) : CallEv Tryd.prog tab B0 19 [.v (VI n)] sto lo (.v (LI (valuesS n))) sto := by
  have har := fun sto lo hlo => around_ev n 1024 hn (by omega) (by omega) sto lo hlo
  have hb := aroundS_bound (n := n) (most := 1024) (by omega)
  unfold valuesS
  generalize aroundS n 1024 = k at *
  obtain ⟨k, rfl⟩ := Int.eq_ofNat_of_zero_le hb.1
  have e1 : (k : Int).tdiv 16 = ((k / 16 : Nat) : Int) := by rw [Int.tdiv_eq_ediv_of_nonneg (by omega)]; omega
  have e2 : (k : Int).tdiv 256 = ((k / 256 : Nat) : Int) := by rw [Int.tdiv_eq_ediv_of_nonneg (by omega)]; omega
  have e3 : (k : Int).tdiv 512 = ((k / 512 : Nat) : Int) := by rw [Int.tdiv_eq_ediv_of_nonneg (by omega)]; omega
  have m0 : 0 ≤ (k : Int).tmod 16 ∧ (k : Int).tmod 16 < 16 := by rw [Int.tmod_eq_emod_of_nonneg (by omega)]; omega
  have m1 : 0 ≤ ((k : Int).tdiv 16).tmod 16 ∧ ((k : Int).tdiv 16).tmod 16 < 16 := by rw [Int.tmod_eq_emod_of_nonneg (by omega)]; omega
  have d1 : 0 ≤ (k : Int).tdiv 16 ∧ (k : Int).tdiv 16 < 1024 := by omega
  have d2 : 0 ≤ (k : Int).tdiv 256 ∧ (k : Int).tdiv 256 < 1024 := by omega
  have d3 : 0 ≤ (k : Int).tdiv 512 ∧ (k : Int).tdiv 512 < 1024 := by omega
  clear e1 e2 e3
  refine CallEv.intro ⟨_, _, [], Tryd.func19, rfl, by decide, ?_⟩; simp only [go_sem, Tryd.ntmps19]
  repeat' (first | (refine go ⟨?_⟩) | (((refine call ?_); (refine ⟨_, har _ _ (by first | omega | (simp; done) | (simp; omega)), ?_⟩); (try simp only [go_sem]))) | ((first | (refine bsp ?_ ?_) | (refine csp ?_ ?_)); all_goals (intro hb; (fail_if_success (cases hb; done)); (try simp only [decide_eq_true_eq, decide_eq_false_iff_not, beq_iff_eq, bne_iff_ne, ne_eq, beq_eq_false_iff_ne, bne_eq_false_iff_eq, Bool.not_eq_true', Bool.not_eq_false', Bool.and_eq_true, Bool.or_eq_true, Decidable.not_not] at hb); (try simp only [go_sem]))))
  refine ⟨by first | exact .inr rfl | exact .inl rfl, .inl ⟨[], _, (by dsimp only [Tryd.f19]; exact sv), ?_, by simp⟩⟩
  rfl
theorem type_ev (N : Nat) : ∀ (t : Tr) (sto : Sto) (lo : Nat), tsz t ≤ N → tsz t < 1000000 → lo ≤ sto.length → CallEv Tryd.prog tab B0 23 [.v (TV t)] sto lo (.v (VI (typeR t))) sto := by
  induction N with
  | zero => intro t sto lo h; have := tsz_pos t; omega
  | succ N ih =>
    intro t sto lo hN hs hlo
    obtain ⟨k, n, m, l⟩ := t
    simp only [tsz] at hN hs
    have hll := tszs_length l
    by_cases c29 : k = 29 ∧ l.length = 3
    · obtain ⟨rfl, h3⟩ := c29
      match l, h3 with
      | [c, a, b], _ =>
        simp only [tszs] at hN hs
        have := tsz_pos c
        have iha := fun sto lo hlo => ih a sto lo (by omega) (by omega) hlo
        rw [show typeR (.mk 29 n m [c, a, b]) = typeR a from by simp [typeR]]
        generalize typeR a = r at *
        obtain ⟨k0, n0, m0, l0⟩ := c
        obtain ⟨k1, n1, m1, l1⟩ := a
        obtain ⟨k2, n2, m2, l2⟩ := b
        clear ih hN hs hll this
        refine CallEv.intro ⟨_, _, [], Tryd.func23, rfl, by decide, ?_⟩; simp only [go_sem, Tryd.ntmps23]
        repeat' (first | (refine go ⟨?_⟩) | (((refine call ?_); (refine ⟨_, iha _ _ (by first | omega | (simp; done) | (simp; omega)), ?_⟩); (try simp only [go_sem]))) | ((first | (refine bsp ?_ ?_) | (refine csp ?_ ?_)); all_goals (intro hb; (fail_if_success (cases hb; done)); (try simp only [decide_eq_true_eq, decide_eq_false_iff_not, beq_iff_eq, bne_iff_ne, ne_eq, beq_eq_false_iff_ne, bne_eq_false_iff_eq, Bool.not_eq_true', Bool.not_eq_false', Bool.and_eq_true, Bool.or_eq_true, Decidable.not_not] at hb); (try simp only [go_sem]))))
        refine ⟨by first | exact .inr rfl | exact .inl rfl, .inl ⟨[], _, (by dsimp only [Tryd.f23]; exact sv), ?_, by simp⟩⟩
        rfl
    · have e : typeR (.mk k n m l) = if k = 4 then 0 else if k = 5 then 1 else if k = 6 then m else if k = 9 then (if n ≥ 10 then 1 else 0) else if k = 10 then 1 else -1 := by
        by_cases h : k = 29
        · have h3 : l.length ≠ 3 := fun h3 => c29 ⟨h, h3⟩
          match l, h3 with
          | [], _ => simp [typeR, h]
          | [_], _ => simp [typeR, h]
          | [_, _], _ => simp [typeR, h]
          | [_, _, _], h3 => exact absurd rfl h3
          | _ :: _ :: _ :: _ :: _, _ => simp [typeR, h]
        · unfold typeR
          simp [h]
      rw [e]
      clear e ih
      have h29 : k = 29 → l.length ≠ 3 := fun h h3 => c29 ⟨h, h3⟩
      clear c29
      by_cases c1 : k = 4
      · subst c1
        refine CallEv.intro ⟨_, _, [], Tryd.func23, rfl, by decide, ?_⟩; simp only [go_sem, Tryd.ntmps23]
        repeat' (first | (refine go ⟨?_⟩) | (fail) | ((first | (refine bsp ?_ ?_) | (refine csp ?_ ?_)); all_goals (intro hb; (fail_if_success (cases hb; done)); (try simp only [decide_eq_true_eq, decide_eq_false_iff_not, beq_iff_eq, bne_iff_ne, ne_eq, beq_eq_false_iff_ne, bne_eq_false_iff_eq, Bool.not_eq_true', Bool.not_eq_false', Bool.and_eq_true, Bool.or_eq_true, Decidable.not_not] at hb); (try simp only [go_sem]))))
        refine ⟨by first | exact .inr rfl | exact .inl rfl, .inl ⟨[], _, (by dsimp only [Tryd.f23]; exact sv), ?_, by simp⟩⟩
        rfl
      by_cases c2 : k = 5
      · subst c2
        refine CallEv.intro ⟨_, _, [], Tryd.func23, rfl, by decide, ?_⟩; simp only [go_sem, Tryd.ntmps23]
        repeat' (first | (refine go ⟨?_⟩) | (fail) | ((first | (refine bsp ?_ ?_) | (refine csp ?_ ?_)); all_goals (intro hb; (fail_if_success (cases hb; done)); (try simp only [decide_eq_true_eq, decide_eq_false_iff_not, beq_iff_eq, bne_iff_ne, ne_eq, beq_eq_false_iff_ne, bne_eq_false_iff_eq, Bool.not_eq_true', Bool.not_eq_false', Bool.and_eq_true, Bool.or_eq_true, Decidable.not_not] at hb); (try simp only [go_sem]))))
        refine ⟨by first | exact .inr rfl | exact .inl rfl, .inl ⟨[], _, (by dsimp only [Tryd.f23]; exact sv), ?_, by simp⟩⟩
        rfl
      by_cases c3 : k = 6
      · subst c3
        refine CallEv.intro ⟨_, _, [], Tryd.func23, rfl, by decide, ?_⟩; simp only [go_sem, Tryd.ntmps23]
        repeat' (first | (refine go ⟨?_⟩) | (fail) | ((first | (refine bsp ?_ ?_) | (refine csp ?_ ?_)); all_goals (intro hb; (fail_if_success (cases hb; done)); (try simp only [decide_eq_true_eq, decide_eq_false_iff_not, beq_iff_eq, bne_iff_ne, ne_eq, beq_eq_false_iff_ne, bne_eq_false_iff_eq, Bool.not_eq_true', Bool.not_eq_false', Bool.and_eq_true, Bool.or_eq_true, Decidable.not_not] at hb); (try simp only [go_sem]))))
        refine ⟨by first | exact .inr rfl | exact .inl rfl, .inl ⟨[], _, (by dsimp only [Tryd.f23]; exact sv), ?_, by simp⟩⟩
        rfl
      by_cases c4 : k = 9
      · subst c4
        by_cases h10 : n ≥ 10
        · rw [if_neg (by decide), if_neg (by decide), if_neg (by decide), if_pos rfl, if_pos h10]
          refine CallEv.intro ⟨_, _, [], Tryd.func23, rfl, by decide, ?_⟩; simp only [go_sem, Tryd.ntmps23]
          repeat' (first | (refine go ⟨?_⟩) | (fail) | ((first | (refine bsp ?_ ?_) | (refine csp ?_ ?_)); all_goals (intro hb; (fail_if_success (cases hb; done)); (try simp only [decide_eq_true_eq, decide_eq_false_iff_not, beq_iff_eq, bne_iff_ne, ne_eq, beq_eq_false_iff_ne, bne_eq_false_iff_eq, Bool.not_eq_true', Bool.not_eq_false', Bool.and_eq_true, Bool.or_eq_true, Decidable.not_not] at hb); (try simp only [go_sem]))))
          refine ⟨by first | exact .inr rfl | exact .inl rfl, .inl ⟨[], _, (by dsimp only [Tryd.f23]; exact sv), ?_, by simp⟩⟩
          rfl
        · rw [if_neg (by decide), if_neg (by decide), if_neg (by decide), if_pos rfl, if_neg h10]
          refine CallEv.intro ⟨_, _, [], Tryd.func23, rfl, by decide, ?_⟩; simp only [go_sem, Tryd.ntmps23]
          repeat' (first | (refine go ⟨?_⟩) | (fail) | ((first | (refine bsp ?_ ?_) | (refine csp ?_ ?_)); all_goals (intro hb; (fail_if_success (cases hb; done)); (try simp only [decide_eq_true_eq, decide_eq_false_iff_not, beq_iff_eq, bne_iff_ne, ne_eq, beq_eq_false_iff_ne, bne_eq_false_iff_eq, Bool.not_eq_true', Bool.not_eq_false', Bool.and_eq_true, Bool.or_eq_true, Decidable.not_not] at hb); (try simp only [go_sem]))))
          refine ⟨by first | exact .inr rfl | exact .inl rfl, .inl ⟨[], _, (by dsimp only [Tryd.f23]; exact sv), ?_, by simp⟩⟩
          rfl
      by_cases c5 : k = 10
      · subst c5
        refine CallEv.intro ⟨_, _, [], Tryd.func23, rfl, by decide, ?_⟩; simp only [go_sem, Tryd.ntmps23]
        repeat' (first | (refine go ⟨?_⟩) | (fail) | ((first | (refine bsp ?_ ?_) | (refine csp ?_ ?_)); all_goals (intro hb; (fail_if_success (cases hb; done)); (try simp only [decide_eq_true_eq, decide_eq_false_iff_not, beq_iff_eq, bne_iff_ne, ne_eq, beq_eq_false_iff_ne, bne_eq_false_iff_eq, Bool.not_eq_true', Bool.not_eq_false', Bool.and_eq_true, Bool.or_eq_true, Decidable.not_not] at hb); (try simp only [go_sem]))))
        refine ⟨by first | exact .inr rfl | exact .inl rfl, .inl ⟨[], _, (by dsimp only [Tryd.f23]; exact sv), ?_, by simp⟩⟩
        rfl
      rw [if_neg c1, if_neg c2, if_neg c3, if_neg c4, if_neg c5]
      by_cases c6 : k = 29
      · have h3 := h29 c6
        subst c6
        clear h29
        refine CallEv.intro ⟨_, _, [], Tryd.func23, rfl, by decide, ?_⟩; simp only [go_sem, Tryd.ntmps23]
        repeat' (first | (refine go ⟨?_⟩) | (fail) | ((first | (refine bsp ?_ ?_) | (refine csp ?_ ?_)); all_goals (intro hb; (fail_if_success (cases hb; done)); (try simp only [decide_eq_true_eq, decide_eq_false_iff_not, beq_iff_eq, bne_iff_ne, ne_eq, beq_eq_false_iff_ne, bne_eq_false_iff_eq, Bool.not_eq_true', Bool.not_eq_false', Bool.and_eq_true, Bool.or_eq_true, Decidable.not_not] at hb); (try simp only [go_sem]))))
        refine ⟨by first | exact .inr rfl | exact .inl rfl, .inl ⟨[], _, (by dsimp only [Tryd.f23]; exact sv), ?_, by simp⟩⟩
        rfl
      · clear h29
        refine CallEv.intro ⟨_, _, [], Tryd.func23, rfl, by decide, ?_⟩; simp only [go_sem, Tryd.ntmps23]
        repeat' (first | (refine go ⟨?_⟩) | (fail) | ((first | (refine bsp ?_ ?_) | (refine csp ?_ ?_)); all_goals (intro hb; (fail_if_success (cases hb; done)); (try simp only [decide_eq_true_eq, decide_eq_false_iff_not, beq_iff_eq, bne_iff_ne, ne_eq, beq_eq_false_iff_ne, bne_eq_false_iff_eq, Bool.not_eq_true', Bool.not_eq_false', Bool.and_eq_true, Bool.or_eq_true, Decidable.not_not] at hb); (try simp only [go_sem]))))
        refine ⟨by first | exact .inr rfl | exact .inl rfl, .inl ⟨[], _, (by dsimp only [Tryd.f23]; exact sv), ?_, by simp⟩⟩
        rfl
end Go.Proofs.YtomameefmobnlaaDoor
