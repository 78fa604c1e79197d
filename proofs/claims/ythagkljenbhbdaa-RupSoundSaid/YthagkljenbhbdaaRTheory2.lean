/-
  Checks of right clauses and proofs, plain: further clauses, clauses in another order, a clause of the proof twice. No program in sight.
-/
import Derived.Test.YthagkljenbhbdaaRTheory
import Derived.Test.YthagkljenbhbdaaRGen
namespace Go.Proofs.Ythagkljenbhbdaa
open Go Go.RowKit

theorem GoodL.allZ {n : Nat} {cs : List (List Int)} (h : GoodL n cs) : AllZ n cs := fun c hc x hx => (h c hc).2 x hx
theorem rightS_of {n : Nat} {cs : List (List Int)} (hz : AllZ n cs) (hw : ∀ c ∈ cs, c.length ≤ 4096) : rightS n cs = true := by
  unfold rightS
  rw [Bool.not_eq_true', List.any_eq_false]
  intro c hc
  unfold badClause
  rw [Bool.or_eq_true, not_or]
  refine ⟨by simpa using hw c hc, ?_⟩
  rw [List.any_eq_true]
  rintro ⟨x, hx, hb⟩
  have := hz c hc x hx
  unfold LitZ at this
  simp [badLit] at hb
  omega
theorem valid_of {n : Nat} {cs pr : List (List Int)} (hn : n ≤ 4096) (hl : cs.length + pr.length ≤ 16384) (h1 : AllZ n cs) (h2 : AllZ n pr) (w1 : ∀ c ∈ cs, c.length ≤ 4096) (w2 : ∀ c ∈ pr, c.length ≤ 4096) : validS n cs pr = true := by
  unfold validS
  rw [rightS_of h1 w1, rightS_of h2 w2]
  simp; omega
theorem check_of {n : Nat} {cs pr : List (List Int)} (h : validS n cs pr = true) : checkS n cs pr = if provesS n cs pr then 0 else 22 := by
  unfold checkS; rw [if_pos h]; rfl
theorem check_good {n : Nat} {cs pr : List (List Int)} (hn : n ≤ 5) (hl : cs.length + pr.length ≤ 16384) (h1 : GoodL n cs) (h2 : GoodL n pr) : checkS n cs pr = if provesS n cs pr then 0 else 22 :=
  check_of (valid_of (by omega) hl h1.allZ h2.allZ (fun c hc => by have := (h1 c hc).1; omega) (fun c hc => by have := (h2 c hc).1; omega))
theorem check_good0 {n : Nat} {cs pr : List (List Int)} (hn : n ≤ 5) (hl : cs.length + pr.length ≤ 16384) (h1 : GoodL n cs) (h2 : GoodL n pr) : checkS n cs pr = 0 ↔ provesS n cs pr = true := by
  rw [check_good hn hl h1 h2]
  cases provesS n cs pr <;> simp
theorem GoodL.sub {n : Nat} {cs ds : List (List Int)} (h : GoodL n ds) (hs : ∀ c ∈ cs, c ∈ ds) : GoodL n cs := fun c hc => h c (hs c hc)
/-- Further clauses. -/
theorem more_check {n : Nat} {cs ms pr : List (List Int)} (hn : n ≤ 5) (hc : GoodL n cs) (hm : GoodL n ms) (hp : GoodL n pr) (hl : ms.length + cs.length + pr.length ≤ 16384) (h : checkS n cs pr = 0) : checkS n (ms ++ cs) pr = 0 := by
  have hg : GoodL n (ms ++ cs) := fun c h => by
    rcases List.mem_append.1 h with h | h
    · exact hm c h
    · exact hc c h
  rw [check_good0 hn (by omega) hc hp] at h
  rw [check_good0 hn (by rw [List.length_append]; omega) hg hp]
  exact provesS_mono hg.allZ hp.allZ (fun c h => List.mem_append_right _ h) h
/-- The clauses turned round. -/
theorem turned_check {n : Nat} {cs pr : List (List Int)} (hn : n ≤ 5) (hc : GoodL n cs) (hp : GoodL n pr) (hl : cs.length + pr.length ≤ 16384) (h : checkS n cs pr = 0) : checkS n cs.reverse pr = 0 := by
  have hg : GoodL n cs.reverse := hc.sub (fun c h => List.mem_reverse.1 h)
  rw [check_good0 hn hl hc hp] at h
  rw [check_good0 hn (by rw [List.length_reverse]; omega) hg hp]
  exact provesS_mono hg.allZ hp.allZ (fun c h => List.mem_reverse.2 h) h
/-- A clause of the proof twice. -/
theorem twice_check {n : Nat} {cs pr : List (List Int)} (hn : n ≤ 5) (hc : GoodL n cs) (hp : GoodL n pr) (hl : cs.length + pr.length ≤ 16383) (j : Nat) (hj : j < pr.length) (h : checkS n cs pr = 0) : checkS n cs (pr.take j ++ [pr[j]] ++ pr.drop j) = 0 := by
  have hg : GoodL n (pr.take j ++ [pr[j]] ++ pr.drop j) := fun c h => by
    rcases List.mem_append.1 h with h | h
    · rcases List.mem_append.1 h with h | h
      · exact hp c (List.mem_of_mem_take h)
      · simp at h; subst h; exact hp _ (List.getElem_mem hj)
    · exact hp c (List.mem_of_mem_drop h)
  rw [check_good0 hn (by omega) hc hp] at h
  rw [check_good0 hn (by simp; omega) hc hg]
  rw [provesS_iff] at h ⊢
  obtain ⟨⟨p, hp1⟩, h2⟩ := h
  have hd : pr.drop j = pr[j] :: pr.drop (j + 1) := (List.getElem_cons_drop hj).symm
  have hzj : LitsZ n pr[j] := hp.allZ _ (List.getElem_mem hj)
  have hzd : AllZ n (pr.drop j) := fun c h => hp.allZ c (List.mem_of_mem_drop h)
  have hzt : AllZ n (cs ++ pr.take j) := hc.allZ.append (fun c h => hp.allZ c (List.mem_of_mem_take h))
  refine ⟨?_, ?_⟩
  · by_cases hl2 : pr.drop j = []
    · rw [hd] at hl2; cases hl2
    · have hlast : (pr.drop j).getLast hl2 = [] := by rw [List.getLast_drop]; simp [hp1]
      refine ⟨pr.take j ++ [pr[j]] ++ (pr.drop j).dropLast, ?_⟩
      rw [List.append_assoc, List.append_assoc, ← hlast, List.dropLast_concat_getLast, List.append_assoc]
  · rw [loop_append, loop_append, Bool.and_eq_true, Bool.and_eq_true]
    rw [← List.take_append_drop j pr, loop_append, Bool.and_eq_true] at h2
    have h3 := h2.2
    have h4 : conflict n (cs ++ pr.take j) (neg pr[j]) = true := by
      rw [hd, loop_cons, Bool.and_eq_true] at h3
      exact h3.1
    refine ⟨⟨h2.1, ?_⟩, ?_⟩
    · rw [loop_cons, h4]; rfl
    · refine loop_mono _ _ _ ((hc.allZ).append (AllZ.append (show AllZ n (pr.take j) from fun c h => hp.allZ c (List.mem_of_mem_take h)) (AllZ.one hzj))) hzd (fun c h => ?_) h3
      rcases List.mem_append.1 h with h | h
      · exact List.mem_append_left _ h
      · exact List.mem_append_right _ (List.mem_append_left _ h)
end Go.Proofs.Ythagkljenbhbdaa
