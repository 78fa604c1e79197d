/-
  Renaming literals changes nothing of what propagation finds, plain. No program in sight.
-/
import Derived.Test.YthagkljenbhbdaaRTheory3
import Derived.Test.YthagkljenbhbdaaRNames
namespace Go.Proofs.Ythagkljenbhbdaa
open Go Go.RowKit

section
variable {N : Nat} {p : Int} (hp : 1 ≤ p ∧ p ≤ N)
include hp
theorem ren_val (x : Int) (hx : LitZ N x) : (0 < x ∧ x = p ∧ ren N p x = -(N + 1 - x)) ∨ (0 < x ∧ x ≠ p ∧ ren N p x = N + 1 - x) ∨ (x < 0 ∧ -x = p ∧ ren N p x = N + 1 + x) ∨ (x < 0 ∧ -x ≠ p ∧ ren N p x = -(N + 1 + x)) := by
  unfold LitZ at hx
  unfold ren
  by_cases h : x < 0
  · rw [show max x (-x) = -x from by omega, decide_eq_true h]
    by_cases e : -x = p
    · rw [e]; simp; omega
    · have : (-x == p) = false := by simpa using e
      rw [this]; simp; omega
  · rw [show max x (-x) = x from by omega, decide_eq_false h]
    by_cases e : x = p
    · rw [e]; simp; omega
    · have : (x == p) = false := by simpa using e
      rw [this]; simp; omega
theorem ren_lit {x : Int} (hx : LitZ N x) : LitZ N (ren N p x) := by
  have := ren_val hp x hx
  unfold LitZ at *; omega
theorem ren_neg {x : Int} (hx : LitZ N x) : ren N p (-x) = -ren N p x := by
  have h1 := ren_val hp x hx
  have h2 := ren_val hp (-x) hx.neg
  unfold LitZ at hx; omega
theorem ren_back {x : Int} (hx : LitZ N x) : ren N (N + 1 - p) (ren N p x) = x := by
  have h1 := ren_val hp x hx
  have h2 := ren_val (p := N + 1 - p) (by omega) _ (ren_lit hp hx)
  unfold LitZ at hx; omega
theorem renC_back {c : List Int} (h : LitsZ N c) : renC N (N + 1 - p) (renC N p c) = c := by
  unfold renC
  rw [List.map_map]
  conv => rhs; rw [← List.map_id c]
  exact List.map_congr_left fun x hx => ren_back hp (h x hx)
theorem renL_back {l : List (List Int)} (h : AllZ N l) : renL N (N + 1 - p) (renL N p l) = l := by
  unfold renL
  rw [List.map_map]
  conv => rhs; rw [← List.map_id l]
  exact List.map_congr_left fun x hx => renC_back hp (h x hx)
theorem renC_lits {c : List Int} (h : LitsZ N c) : LitsZ N (renC N p c) := by
  intro x hx
  simp only [renC, List.mem_map] at hx
  obtain ⟨y, hy, rfl⟩ := hx
  exact ren_lit hp (h y hy)
theorem renL_all {l : List (List Int)} (h : AllZ N l) : AllZ N (renL N p l) := by
  intro x hx
  simp only [renL, List.mem_map] at hx
  obtain ⟨y, hy, rfl⟩ := hx
  exact renC_lits hp (h y hy)
theorem renC_neg {c : List Int} (h : LitsZ N c) : renC N p (neg c) = neg (renC N p c) := by
  unfold renC neg
  rw [List.map_map, List.map_map]
  exact List.map_congr_left fun x hx => ren_neg hp (h x hx)
theorem GoodL.ren {l : List (List Int)} (h : GoodL N l) : GoodL N (renL N p l) := by
  intro x hx
  simp only [renL, List.mem_map] at hx
  obtain ⟨y, hy, rfl⟩ := hx
  exact ⟨by simpa [renC] using (h y hy).1, renC_lits hp (h y hy).2⟩
theorem wit_ren {cs : List (List Int)} {l v : List Int} (hz : AllZ N cs) (hl : LitsZ N l) (h : Wit N cs l v) : ∃ v', Wit N (renL N p cs) (renC N p l) v' := by
  have hq : (1 : Int) ≤ N + 1 - p ∧ (N : Int) + 1 - p ≤ N := by omega
  have key0 : ∀ i : Nat, i ≤ N → ((List.range (N + 1)).map fun i : Nat => vof v (ren N (N + 1 - p) i)).getD i 0 = vof v (ren N (N + 1 - p) i) := fun i hi => by
    rw [List.getD_eq_getElem?_getD, List.getElem?_map, List.getElem?_range (by omega)]; rfl
  have key : ∀ y, LitZ N y → vof ((List.range (N + 1)).map fun i : Nat => vof v (ren N (N + 1 - p) i)) y = vof v (ren N (N + 1 - p) y) := by
    intro y hy
    have hy0 := hy
    unfold LitZ at hy0
    by_cases h0 : y < 0
    · have e : ((-y).toNat : Int) = -y := by omega
      have e2 : ren N (N + 1 - p) y = -ren N (N + 1 - p) (-y) := by rw [ren_neg hq hy]; omega
      have h4 := ren_lit hq hy.neg
      unfold LitZ at h4
      have e5 : ∀ L : List Int, vof L y = -(L.getD (-y).toNat 0) := fun L => by unfold vof; rw [if_pos h0]
      rw [e2, vof_neg h4.1, ← e, ← key0 (-y).toNat (by omega), e5]
    · have e : (y.toNat : Int) = y := by omega
      have e5 : ∀ L : List Int, vof L y = L.getD y.toNat 0 := fun L => by unfold vof; rw [if_neg h0]
      rw [e5, key0 y.toNat (by omega), e]
  have back : ∀ x, LitZ N x → vof ((List.range (N + 1)).map fun i : Nat => vof v (ren N (N + 1 - p) i)) (ren N p x) = vof v x := fun x hx => by rw [key _ (ren_lit hp hx), ren_back hp hx]
  refine ⟨(List.range (N + 1)).map fun i : Nat => vof v (ren N (N + 1 - p) i), by simp, ?_, ?_, ?_⟩
  · intro x hx
    simp only [List.mem_map] at hx
    obtain ⟨i, _, rfl⟩ := hx
    have := h.tv.vof (ren N (N + 1 - p) i); omega
  · intro x hx
    simp only [renC, List.mem_map] at hx
    obtain ⟨y, hy, rfl⟩ := hx
    rw [back y (hl y hy)]; exact h.lits y hy
  · intro c hc
    simp only [renL, List.mem_map] at hc
    obtain ⟨d, hd, rfl⟩ := hc
    have hdz := hz d hd
    refine (scan_iff (fun n hn => (renC_lits hp hdz n hn).1)).2 ?_
    rcases (scan_iff (fun n hn => (hdz n hn).1)).1 (h.calm d hd) with ⟨n, hn, h1⟩ | ⟨n, hn, m, hm, h1, h2, h3⟩
    · exact .inl ⟨ren N p n, List.mem_map.2 ⟨n, hn, rfl⟩, by rw [back n (hdz n hn)]; exact h1⟩
    · refine .inr ⟨ren N p n, List.mem_map.2 ⟨n, hn, rfl⟩, ren N p m, List.mem_map.2 ⟨m, hm, rfl⟩, by rw [back n (hdz n hn)]; exact h1, by rw [back m (hdz m hm)]; exact h2, fun e => h3 ?_⟩
      rw [← ren_back hp (hdz n hn), e, ren_back hp (hdz m hm)]
theorem conflict_ren {cs : List (List Int)} {l : List Int} (hz : AllZ N cs) (hl : LitsZ N l) : conflict N (renL N p cs) (renC N p l) = conflict N cs l := by
  cases h : conflict N cs l with
  | false =>
    obtain ⟨v, hv⟩ := (conflict_iff hz hl).1 h
    exact (conflict_iff (renL_all hp hz) (renC_lits hp hl)).2 (wit_ren hp hz hl hv)
  | true =>
    cases h2 : conflict N (renL N p cs) (renC N p l) with
    | true => rfl
    | false =>
      obtain ⟨v, hv⟩ := (conflict_iff (renL_all hp hz) (renC_lits hp hl)).1 h2
      obtain ⟨v', hv'⟩ := wit_ren (p := N + 1 - p) (by omega) (renL_all hp hz) (renC_lits hp hl) hv
      rw [renL_back hp hz, renC_back hp hl] at hv'
      rw [(conflict_iff hz hl).2 ⟨v', hv'⟩] at h
      cases h
theorem loop_ren : ∀ (pr cs : List (List Int)), AllZ N cs → AllZ N pr → provesLoop N (renL N p cs) (renL N p pr) = provesLoop N cs pr
  | [], _, _, _ => rfl
  | c :: pr, cs, hz, hpz => by
    have hc := hpz c (List.mem_cons_self ..)
    have ih := loop_ren pr (cs ++ [c]) (hz.append (AllZ.one hc)) (fun d hd => hpz d (List.mem_cons_of_mem _ hd))
    rw [show renL N p (c :: pr) = renC N p c :: renL N p pr from rfl, loop_cons, loop_cons, ← renC_neg hp hc, conflict_ren hp hz hc.neg, ← ih]
    rw [show renL N p (cs ++ [c]) = renL N p cs ++ [renC N p c] from by simp [renL]]
theorem proves_ren {cs pr : List (List Int)} (hz : AllZ N cs) (hpz : AllZ N pr) : provesS N (renL N p cs) (renL N p pr) = provesS N cs pr := by
  unfold provesS
  rw [loop_ren hp pr cs hz hpz, renL, List.getLast?_map]
  cases pr.getLast? with
  | none => rfl
  | some c => simp [renC]
end
theorem pick_ren {N p : Int} {l : List (List Int)} (is : List Int) : pick (renL N p l) is = renL N p (pick l is) := by
  unfold pick renL
  rw [List.map_map]
  refine List.map_congr_left fun i _ => ?_
  simp only [Function.comp, List.getD_eq_getElem?_getD, List.getElem?_map]
  cases l[i.toNat]? <;> rfl
theorem thin_ren {N p : Int} {good good2 : List (List Int) → Bool} {l : List (List Int)} (h : ∀ is, good2 (renL N p (pick l is)) = good (pick l is)) : ∀ (m : Nat) (left : List Int), thinS good2 (renL N p l) m left = thinS good l m left
  | 0, _ => rfl
  | m + 1, left => by
    simp only [thinS]
    rw [pick_ren, h, thin_ren h m, thin_ren h m]
theorem pick_allZ {N : Nat} {l : List (List Int)} (h : AllZ N l) (is : List Int) : AllZ N (pick l is) := by
  intro c hc
  simp only [pick, List.mem_map] at hc
  obtain ⟨i, _, rfl⟩ := hc
  rw [List.getD_eq_getElem?_getD]
  cases hi : l[i.toNat]? with
  | none => intro x hx; simp at hx
  | some c => exact h c (List.mem_of_getElem? hi)
section
variable {n : Nat} {p : Int} {cs pr : List (List Int)} (hn : n ≤ 5) (hp : 1 ≤ p ∧ p ≤ n) (hc : GoodL n cs) (hpr : GoodL n pr) (hl : cs.length + pr.length ≤ 16384)
include hn hp hc hpr hl
theorem check_ren : checkS n (renL n p cs) (renL n p pr) = checkS n cs pr := by
  rw [check_good hn hl hc hpr, check_good hn (by simpa [renL] using hl) (hc.ren hp) (hpr.ren hp), proves_ren hp hc.allZ hpr.allZ]
theorem core_ren : coreS n (renL n p cs) (renL n p pr) = coreS n cs pr := by
  unfold coreS
  rw [check_ren hn hp hc hpr hl]
  split
  · rw [show (renL n p cs).length = cs.length from by simp [renL]]
    exact thin_ren (good := fun r => provesS (n : Int).toNat r pr) (good2 := fun r => provesS (n : Int).toNat r (renL n p pr)) (fun is => proves_ren hp (pick_allZ hc.allZ is) hpr.allZ) _ _
  · rfl
theorem trim_ren : trimS n (renL n p cs) (renL n p pr) = renL n p (trimS n cs pr) := by
  unfold trimS
  rw [check_ren hn hp hc hpr hl]
  split
  · rw [show (renL n p pr).length = pr.length from by simp [renL], thin_ren (good := fun r => provesS (n : Int).toNat cs r) (good2 := fun r => provesS (n : Int).toNat (renL n p cs) r) (fun is => proves_ren hp hc.allZ (pick_allZ hpr.allZ is)), pick_ren]
  · rfl
end
end Go.Proofs.Ythagkljenbhbdaa
