/-
  The disk's Mount and the reference's, sector by sector: plain words. No condition of its own.
-/
import Derived.Test.YtghdanpigohnjaaD4
namespace Go.Proofs.Ytghdanpigohnjaa
open Go
theorem step_bl (D : DK) : (stepS D).1.bl = D.bl := by unfold stepS; (repeat' split) <;> rfl
theorem flush_len {D : DK} (h : D.ok) : (flushS D).1.bl.length = D.bl.length := by
  unfold flushS
  (repeat' split)
  · rfl
  · exact congrArg List.length (step_bl D)
  · rw [← step_bl D]; exact (settleN_ok (step_ok h) _ _ (Nat.le_refl _)).2.1
theorem mount_len {D : DK} (h : D.ok) (picks : List Int) : (mountS D picks).bl.length = D.bl.length := (settleN_ok h _ _ (Nat.le_refl _)).2.1
theorem rot_len (D : DK) (i b : Int) : (rotS D i b).1.bl.length = D.bl.length := by unfold rotS; split <;> simp
theorem do_len {D : DK} (h : D.ok) (o : OpS) : (doS D o).1.bl.length = D.bl.length := by
  unfold doS
  (repeat' split)
  · show (writeS D o.i (textS o.text)).1.bl.length = _
    unfold writeS
    (repeat' split)
    · rfl
    · rfl
    · exact congrArg List.length (step_bl D)
    · exact congrArg List.length (step_bl D)
  · rfl
  · exact flush_len h
  · rfl
  · exact mount_len h _
  · exact rot_len _ _ _
  · show (wearS D o.i).1.bl.length = _
    unfold wearS; split <;> rfl
  · rfl
theorem mount_pd {D : DK} (h : D.ok) (picks : List Int) : (mountS D picks).pd = [] := by
  have h3 := (settleN_ok h (pickS picks) _ (Nat.le_refl _)).2.2
  show (settleN D (pendS D) (pickS picks) (pendS D).length).pd = []
  have key : ∀ x, getK (settleN D (pendS D) (pickS picks) (pendS D).length).pd x = none := by
    intro x
    rw [h3 x, List.take_length]
    split
    · rfl
    · rename_i hx
      cases hg : getK D.pd x with
      | none => rfl
      | some b => exact absurd (mem_pend.2 ⟨b, hg⟩) hx
  generalize (settleN D (pendS D) (pickS picks) (pendS D).length).pd = l at key
  cases l with
  | nil => rfl
  | cons p l =>
    obtain ⟨k, b⟩ := p
    have := key k
    simp [getK] at this
theorem mount_pend {D : DK} (h : D.ok) (picks : List Int) : pendS (mountS D picks) = [] := by
  rw [pendS, mount_pd h]; simp
/-- A sector behind Mount. -/
def setl (x : SecR) (p : Int) : SecR := if x.dy then ⟨if x.wn then x.tx else tearS x.tx x.nx p, [], false, x.wn⟩ else x
theorem rsetN_get {R : RK} (h : R.ok) (ps : Nat → Int) : ∀ j, j ≤ R.s.length → ∀ i (hi : i < R.s.length), i < j → (rsetN R ps j).1.s[i]? = some (setl (R.s[i]) (ps (rsetN R ps i).2))
  | 0, _, _, _, h => by omega
  | j + 1, hj, i, hi, hij => by
    obtain ⟨k1, k2, k3, k4⟩ := rsetN_ok h ps j (by omega)
    have hjl : j < (rsetN R ps j).1.s.length := by omega
    have hs : (rsetN R ps j).1.s[j] = R.s[j] := by
      have := k4 j (Nat.le_refl _)
      rw [List.getElem?_eq_getElem hjl, List.getElem?_eq_getElem (by omega)] at this
      simpa using this
    rw [rsetN, secAt_eq hjl, hs]
    by_cases hd : (R.s[j]).dy = true
    · rw [if_pos hd]
      simp only [rsettleS]
      by_cases e : i = j
      · subst e
        rw [List.getElem?_set_self hjl, secAt_eq hjl, hs, setl, if_pos hd]
      · rw [List.getElem?_set_ne (by omega)]
        exact rsetN_get h ps j (by omega) i hi (by omega)
    · rw [if_neg hd]
      by_cases e : i = j
      · subst e
        rw [List.getElem?_eq_getElem hjl, hs, setl, if_neg hd]
      · exact rsetN_get h ps j (by omega) i hi (by omega)
theorem rsetN_k {R : RK} (h : R.ok) (ps : Nat → Int) {j : Nat} (hj : j < R.s.length) : (rsetN R ps (j + 1)).2 = (rsetN R ps j).2 + if (R.s[j]).dy then 1 else 0 := by
  obtain ⟨k1, k2, k3, k4⟩ := rsetN_ok h ps j (by omega)
  have hjl : j < (rsetN R ps j).1.s.length := by omega
  have hs : (rsetN R ps j).1.s[j] = R.s[j] := by
    have := k4 j (Nat.le_refl _)
    rw [List.getElem?_eq_getElem hjl, List.getElem?_eq_getElem hj] at this
    simpa using this
  rw [rsetN, secAt_eq hjl, hs]
  split <;> simp
theorem mount_bl {D : DK} {R : RK} (h : Rel D R) (picks : List Int) {i : Nat} (hi : i < R.s.length) : (mountS D picks).bl.getD i [] = (setl (R.s[i]) (pickR picks (rsetN R (pickR picks) i).2)).tx := by
  have hm := rel_mount h picks
  have hl : (rmountS R picks).s.length = R.s.length := (rsetN_ok h.rok (pickR picks) R.s.length (Nat.le_refl _)).2.1
  rw [hm.bl i (by omega)]
  have hg := rsetN_get h.rok (pickR picks) R.s.length (Nat.le_refl _) i hi hi
  have e : (rmountS R picks).s[i]? = (rsetN R (pickR picks) R.s.length).1.s[i]? := rfl
  rw [← e, List.getElem?_eq_getElem (by omega)] at hg
  simp only [Option.some.injEq] at hg
  rw [hg]
end Go.Proofs.Ytghdanpigohnjaa
