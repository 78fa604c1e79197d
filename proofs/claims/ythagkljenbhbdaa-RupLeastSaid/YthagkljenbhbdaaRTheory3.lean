/-
  What Core and Trim return is least, plain. No program in sight.
-/
import Derived.Test.YthagkljenbhbdaaRTheory2
import Derived.Test.YthagkljenbhbdaaRCore2
namespace Go.Proofs.Ythagkljenbhbdaa
open Go Go.RowKit

/-- What is left: a part of the indices that were looked at, and those that were kept ahead; good, if it was so; and without one of the former not good, whatever was not yet looked at. -/
theorem thin_spec {good : List (List Int) → Bool} {l : List (List Int)} : ∀ (m : Nat) (kept : List Int), ∃ r : List Int, thinS good l m (idx m ++ kept) = r ++ kept ∧ r.Sublist (idx m) ∧
    (good (pick l (idx m ++ kept)) = true → good (pick l (r ++ kept)) = true) ∧ ∀ r1 k r2, r = r1 ++ k :: r2 → good (pick l (idx k.toNat ++ (r2 ++ kept))) = false
  | 0, kept => ⟨[], rfl, List.Sublist.refl _, fun h => h, fun r1 k r2 h => by simp at h⟩
  | m + 1, kept => by
    cases hg : good (pick l (idx m ++ kept)) with
    | true =>
      obtain ⟨r, h1, h2, h3, h4⟩ := thin_spec (good := good) (l := l) m kept
      refine ⟨r, by rw [thin_stepY hg, h1], ?_, fun _ => h3 hg, h4⟩
      rw [idx_succ]
      exact h2.trans (List.sublist_append_left _ _)
    | false =>
      obtain ⟨r, h1, h2, h3, h4⟩ := thin_spec (good := good) (l := l) m ((m : Int) :: kept)
      refine ⟨r ++ [(m : Int)], by rw [thin_stepN hg, h1]; simp, ?_, fun h => ?_, fun r1 k r2 h => ?_⟩
      · rw [idx_succ]; exact h2.append (List.Sublist.refl _)
      · rw [List.append_assoc]; exact h3 (by rw [← idx_cons]; exact h)
      · rcases List.append_eq_append_iff.1 h with ⟨a, ha, hb⟩ | ⟨a, ha, hb⟩
        · cases a with
          | nil =>
            simp only [List.nil_append, List.cons.injEq] at hb
            obtain ⟨rfl, rfl⟩ := hb
            simpa using hg
          | cons x a => simp at hb
        · cases a with
          | nil =>
            simp only [List.nil_append, List.cons.injEq] at hb
            obtain ⟨rfl, rfl⟩ := hb
            simpa using hg
          | cons x a =>
            simp only [List.cons_append, List.cons.injEq] at hb
            obtain ⟨rfl, rfl⟩ := hb
            have := h4 r1 k a ha
            simpa using this
theorem idx_pairwise (m : Nat) : (idx m).Pairwise (· < ·) := by
  unfold idx
  rw [List.pairwise_map]
  exact List.pairwise_lt_range.imp (fun h => by omega)
theorem mem_idx {m : Nat} {i : Int} (h0 : 0 ≤ i) (h1 : i < m) : i ∈ idx m := by
  obtain ⟨k, rfl⟩ := Int.eq_ofNat_of_zero_le h0
  exact List.mem_map.2 ⟨k, List.mem_range.2 (by omega), rfl⟩
theorem pick_sub {l : List (List Int)} {a b : List Int} (h : ∀ i ∈ a, i ∈ b) : ∀ c ∈ pick l a, c ∈ pick l b := by
  intro c hc
  simp only [pick, List.mem_map] at hc ⊢
  obtain ⟨i, hi, rfl⟩ := hc
  exact ⟨i, h i hi, rfl⟩
theorem pick_append (l : List (List Int)) (a b : List Int) : pick l (a ++ b) = pick l a ++ pick l b := by simp [pick]
theorem pick_sublist {l : List (List Int)} {a b : List Int} (h : a.Sublist b) : (pick l a).Sublist (pick l b) := h.map _
theorem pick_take {l : List (List Int)} {k : Nat} (h : k ≤ l.length) : pick l (idx k) = l.take k := by
  apply List.ext_getElem
  · simp [pick, idx]; omega
  · intro i h1 h2
    have hi : i < k := by simpa [pick, idx] using h1
    simp [pick, idx, show i < l.length from by omega]
theorem before {r1 r2 : List Int} {k : Int} {m : Nat} (h : (r1 ++ k :: r2).Sublist (idx m)) : (∀ i ∈ r1, i ∈ idx k.toNat) ∧ 0 ≤ k ∧ k < m := by
  have hp := (idx_pairwise m).sublist h
  have hk := idx_mem (h.subset (List.mem_append_right _ (List.mem_cons_self ..)))
  refine ⟨fun i hi => ?_, hk⟩
  have h0 := idx_mem (h.subset (List.mem_append_left _ hi))
  have hlt := (List.pairwise_append.1 hp).2.2 i hi k (List.mem_cons_self ..)
  exact mem_idx h0.1 (by omega)
theorem split_at {r : List Int} {i : Nat} (h : i < r.length) : r = r.take i ++ r[i] :: r.drop (i + 1) := by
  rw [List.getElem_cons_drop, List.take_append_drop]

/-- The core, if the proof is one. -/
theorem core_least {n : Nat} {cs pr : List (List Int)} (hn : n ≤ 5) (hc : GoodL n cs) (hp : GoodL n pr) (hl : cs.length + pr.length ≤ 16384) (h : checkS n cs pr = 0) :
    (coreS n cs pr).Sublist (idx cs.length) ∧ checkS n (pick cs (coreS n cs pr)) pr = 0 ∧ ∀ i, i < (coreS n cs pr).length → checkS n ((pick cs (coreS n cs pr)).eraseIdx i) pr ≠ 0 := by
  have hpv := (check_good0 hn hl hc hp).1 h
  have e : coreS n cs pr = thinS (fun r => provesS n r pr) cs cs.length (idx cs.length ++ []) := by unfold coreS; rw [if_pos h]; simp
  obtain ⟨r, h1, h2, h3, h4⟩ := thin_spec (good := fun r => provesS n r pr) (l := cs) cs.length []
  rw [e, h1, List.append_nil]
  have hmem : ∀ i ∈ r, 0 ≤ i ∧ i < cs.length := fun i hi => idx_mem (h2.subset hi)
  have hlen : r.length ≤ cs.length := by have := h2.length_le; rwa [idx_len] at this
  have hg : GoodL n (pick cs r) := hc.sub (pick_mem hmem)
  refine ⟨h2, ?_, fun i hi => ?_⟩
  · rw [check_good0 hn (by rw [pick_len]; omega) hg hp]
    have := h3 (by rw [List.append_nil, pick_idx]; exact hpv)
    simpa using this
  · have hg2 : GoodL n ((pick cs r).eraseIdx i) := hg.sub (fun c hc => List.mem_of_mem_eraseIdx hc)
    rw [Ne, check_good0 hn (by have := List.length_eraseIdx_le (pick cs r) i; rw [pick_len] at this; omega) hg2 hp]
    intro hy
    have hs := split_at hi
    have hb := before (m := cs.length) (by rw [← hs]; exact h2)
    have h5 := h4 _ _ _ hs
    rw [List.append_nil] at h5
    rw [pick_erase, List.eraseIdx_eq_take_drop_succ] at hy
    have := provesS_mono (ds := pick cs (idx r[i].toNat ++ r.drop (i + 1))) (hc.sub (pick_mem (fun j hj => by
      rcases List.mem_append.1 hj with hj | hj
      · have := idx_mem hj; omega
      · exact hmem j (List.mem_of_mem_drop hj)))).allZ hp.allZ (pick_sub (fun j hj => by
      rcases List.mem_append.1 hj with hj | hj
      · exact List.mem_append_left _ (hb.1 j hj)
      · exact List.mem_append_right _ hj)) hy
    rw [h5] at this
    cases this
/-- The trimmed proof, if the proof is one. -/
theorem trim_least {n : Nat} {cs pr : List (List Int)} (hn : n ≤ 5) (hc : GoodL n cs) (hp : GoodL n pr) (hl : cs.length + pr.length ≤ 16384) (h : checkS n cs pr = 0) :
    (trimS n cs pr).Sublist pr ∧ checkS n cs (trimS n cs pr) = 0 ∧ ∀ i, i + 1 < (trimS n cs pr).length → checkS n cs ((trimS n cs pr).eraseIdx i) ≠ 0 := by
  have hpv := (check_good0 hn hl hc hp).1 h
  have hpos := proves_pos hpv
  obtain ⟨r, h1, h2, h3, h4⟩ := thin_spec (good := fun r => provesS n cs r) (l := pr) (pr.length - 1) [((pr.length - 1 : Nat) : Int)]
  rw [← idx_last hpos] at h1 h3
  have e : trimS n cs pr = pick pr (r ++ [((pr.length - 1 : Nat) : Int)]) := by unfold trimS; rw [if_pos h, ← h1]; rfl
  rw [e]
  have hsub : (r ++ [((pr.length - 1 : Nat) : Int)]).Sublist (idx pr.length) := by rw [idx_last hpos]; exact h2.append (List.Sublist.refl _)
  have hmem : ∀ i ∈ r ++ [((pr.length - 1 : Nat) : Int)], 0 ≤ i ∧ i < pr.length := fun i hi => idx_mem (hsub.subset hi)
  have hlen : (r ++ [((pr.length - 1 : Nat) : Int)]).length ≤ pr.length := by have := hsub.length_le; rwa [idx_len] at this
  have hg : GoodL n (pick pr (r ++ [((pr.length - 1 : Nat) : Int)])) := hp.sub (pick_mem hmem)
  refine ⟨by have := pick_sublist (l := pr) hsub; rwa [pick_idx] at this, ?_, fun i hi => ?_⟩
  · rw [check_good0 hn (by rw [pick_len]; omega) hc hg]
    exact h3 (by rw [pick_idx]; exact hpv)
  · have hg2 : GoodL n ((pick pr (r ++ [((pr.length - 1 : Nat) : Int)])).eraseIdx i) := hg.sub (fun c hc => List.mem_of_mem_eraseIdx hc)
    rw [Ne, check_good0 hn (by have := List.length_eraseIdx_le (pick pr (r ++ [((pr.length - 1 : Nat) : Int)])) i; rw [pick_len] at this; omega) hc hg2]
    intro hy
    rw [pick_len, List.length_append, List.length_singleton] at hi
    have hi' : i < r.length := by omega
    have hs := split_at hi'
    have hb := before (m := pr.length - 1) (by rw [← hs]; exact h2)
    have h5 := h4 _ _ _ hs
    rw [pick_erase, List.eraseIdx_append_of_lt_length hi', List.eraseIdx_eq_take_drop_succ, List.append_assoc, pick_append] at hy
    generalize hq : r.drop (i + 1) ++ [((pr.length - 1 : Nat) : Int)] = q at hy h5
    have hkl : r[i].toNat ≤ pr.length := by omega
    have hqm : ∀ j ∈ q, 0 ≤ j ∧ j < pr.length := fun j hj => by
      rw [← hq] at hj
      rcases List.mem_append.1 hj with hj | hj
      · exact hmem j (List.mem_append_left _ (List.mem_of_mem_drop hj))
      · exact hmem j (List.mem_append_right _ hj)
    have hyes : provesS n cs (pick pr (idx r[i].toNat ++ q)) = true := by
      rw [provesS_iff] at hy hpv ⊢
      obtain ⟨⟨p, hp1⟩, hy2⟩ := hy
      rw [loop_append, Bool.and_eq_true] at hy2
      rw [pick_append, pick_take hkl]
      refine ⟨?_, ?_⟩
      · have hqe : pick pr q ≠ [] := by
          rw [← hq]; simp [pick]
        have hlast : (pick pr q).getLast hqe = [] := by
          have h6 : (pick pr (List.take i r) ++ pick pr q).getLast (by simp [hqe]) = [] := by simp [hp1]
          rw [List.getLast_append_of_ne_nil _ hqe] at h6
          exact h6
        refine ⟨pr.take r[i].toNat ++ (pick pr q).dropLast, ?_⟩
        rw [List.append_assoc, ← hlast, List.dropLast_concat_getLast]
      · rw [loop_append, Bool.and_eq_true]
        have hpl := hpv.2
        rw [← List.take_append_drop r[i].toNat pr, loop_append, Bool.and_eq_true] at hpl
        refine ⟨hpl.1, loop_mono _ _ _ ?_ ?_ ?_ hy2.2⟩
        · exact hc.allZ.append (show AllZ n (pr.take r[i].toNat) from fun c h => hp.allZ c (List.mem_of_mem_take h))
        · exact (hp.sub (pick_mem hqm)).allZ
        · intro c hc
          rcases List.mem_append.1 hc with hc | hc
          · exact List.mem_append_left _ hc
          · refine List.mem_append_right _ ?_
            rw [← pick_take hkl]
            exact pick_sub hb.1 c hc
    rw [hyes] at h5
    cases h5
end Go.Proofs.Ythagkljenbhbdaa
