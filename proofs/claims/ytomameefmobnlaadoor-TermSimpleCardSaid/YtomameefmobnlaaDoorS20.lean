/-
  Terms: the reference's Valid and Put. No condition of its own.
-/
import Derived.Test.YtomameefmobnlaaDoorS18
import Derived.Test.YtomameefmobnlaaDoorS19
import Derived.Test.YtomameefmobnlaaDoorS3
namespace Go.Proofs.YtomameefmobnlaaDoor
open Go Go.RowKit

attribute [local irreducible] EvOps EvC
attribute [local go_sem] List.getElem?_toArray getS List.flatten_cons List.flatten_nil List.contains_nil List.append_nil cellsTs
set_option linter.unusedSimpArgs false
set_option linter.unusedVariables false
set_option maxRecDepth 100000
set_option maxHeartbeats 8000000
theorem wt_vars {k : Int} {t : Tr} (h : Wt k t) : ∀ p ∈ varP t, (0 ≤ p.1 ∧ p.1 ≤ 63) ∧ (p.2 = 0 ∨ p.2 = 1) := by
  induction h with
  | num => intro p hp; simp [varP, varPs] at hp
  | truth => intro p hp; simp [varP, varPs] at hp
  | var h1 h2 h3 => intro p hp; simp [varP, varPs] at hp; subst hp; exact ⟨⟨h1, h2⟩, h3⟩
  | word h1 h2 ha hb iha ihb =>
    intro p hp
    simp [varP, varPs] at hp
    exact hp.elim (iha p) (ihb p)
  | comp h1 h2 ha hb iha ihb =>
    intro p hp
    simp [varP, varPs] at hp
    exact hp.elim (iha p) (ihb p)
  | both h1 h2 ha hb iha ihb =>
    intro p hp
    simp [varP, varPs] at hp
    exact hp.elim (iha p) (ihb p)
  | not ha ih =>
    intro p hp
    simp [varP, varPs] at hp
    exact ih p hp
  | cond hc ha hb ihc iha ihb =>
    intro p hp
    simp [varP, varPs] at hp
    exact hp.elim (ihc p) fun hp => hp.elim (iha p) (ihb p)
theorem rValid_ev (t : Tr) (hs : tsz t < 1000000) (sto : Sto) (lo : Nat) (hlo : lo ≤ sto.length) : CallEv Tryd.prog tab B0 14 [.v (TV t)] sto lo (.v (.tup [VI (max (validS t) 0), .bool (decide (0 ≤ validS t))])) sto := by
  have hsh := fun sto lo hlo => shaped_ev (tsz t) t sto lo (Nat.le_refl _) hs hlo
  have hty := fun sto lo hlo => type_ev (tsz t) t sto lo (Nat.le_refl _) hs hlo
  by_cases h1 : shapedS t = true
  · have hw := shaped_wt t h1
    have hft := fun sto lo hlo => fit_ev t hs (wt_vars hw) sto lo hlo
    have hk := hw.kind
    rw [h1] at hsh
    clear hw
    by_cases h2 : fitS t = true
    · have e : validS t = typeR t := by rw [validS, h1, h2]; rfl
      rw [e, show max (typeR t) 0 = typeR t from by omega, decide_eq_true (by omega)]
      rw [h2] at hft
      generalize typeR t = k at *
      clear e h1 h2
      obtain ⟨k0, n0, m0, l0⟩ := t
      refine CallEv.intro ⟨_, _, [], Tryd.func14, rfl, by decide, ?_⟩; simp only [go_sem, Tryd.ntmps14]
      repeat' (first | (refine go ⟨?_⟩) | (first | ((refine call ?_); (refine ⟨_, hsh _ _ (by first | omega | (simp; done) | (simp; omega)), ?_⟩); (try simp only [go_sem])) | ((refine call ?_); (refine ⟨_, hft _ _ (by first | omega | (simp; done) | (simp; omega)), ?_⟩); (try simp only [go_sem])) | ((refine call ?_); (refine ⟨_, hty _ _ (by first | omega | (simp; done) | (simp; omega)), ?_⟩); (try simp only [go_sem]))) | ((first | (refine bsp ?_ ?_) | (refine csp ?_ ?_)); all_goals (intro hb; (fail_if_success (cases hb; done)); (try simp only [decide_eq_true_eq, decide_eq_false_iff_not, beq_iff_eq, bne_iff_ne, ne_eq, beq_eq_false_iff_ne, bne_eq_false_iff_eq, Bool.not_eq_true', Bool.not_eq_false', Bool.and_eq_true, Bool.or_eq_true, Decidable.not_not] at hb); (try simp only [go_sem]))))
      refine ⟨by first | exact .inr rfl | exact .inl rfl, .inl ⟨[], _, (by dsimp only [Tryd.f14]; exact sv), ?_, by simp⟩⟩
      rfl
    · have h2' : fitS t = false := by simpa using h2
      have e : validS t = -1 := by rw [validS, h1, h2']; rfl
      rw [e]
      rw [h2'] at hft
      clear e h1 h2 h2'
      obtain ⟨k0, n0, m0, l0⟩ := t
      refine CallEv.intro ⟨_, _, [], Tryd.func14, rfl, by decide, ?_⟩; simp only [go_sem, Tryd.ntmps14]
      repeat' (first | (refine go ⟨?_⟩) | (first | ((refine call ?_); (refine ⟨_, hsh _ _ (by first | omega | (simp; done) | (simp; omega)), ?_⟩); (try simp only [go_sem])) | ((refine call ?_); (refine ⟨_, hft _ _ (by first | omega | (simp; done) | (simp; omega)), ?_⟩); (try simp only [go_sem])) | ((refine call ?_); (refine ⟨_, hty _ _ (by first | omega | (simp; done) | (simp; omega)), ?_⟩); (try simp only [go_sem]))) | ((first | (refine bsp ?_ ?_) | (refine csp ?_ ?_)); all_goals (intro hb; (fail_if_success (cases hb; done)); (try simp only [decide_eq_true_eq, decide_eq_false_iff_not, beq_iff_eq, bne_iff_ne, ne_eq, beq_eq_false_iff_ne, bne_eq_false_iff_eq, Bool.not_eq_true', Bool.not_eq_false', Bool.and_eq_true, Bool.or_eq_true, Decidable.not_not] at hb); (try simp only [go_sem]))))
      refine ⟨by first | exact .inr rfl | exact .inl rfl, .inl ⟨[], _, (by dsimp only [Tryd.f14]; exact sv), ?_, by simp⟩⟩
      rfl
  · have h1' : shapedS t = false := by simpa using h1
    have e : validS t = -1 := by rw [validS, h1']; rfl
    rw [e]
    rw [h1'] at hsh
    clear e h1 h1'
    obtain ⟨k0, n0, m0, l0⟩ := t
    refine CallEv.intro ⟨_, _, [], Tryd.func14, rfl, by decide, ?_⟩; simp only [go_sem, Tryd.ntmps14]
    repeat' (first | (refine go ⟨?_⟩) | (first | ((refine call ?_); (refine ⟨_, hsh _ _ (by first | omega | (simp; done) | (simp; omega)), ?_⟩); (try simp only [go_sem]))) | ((first | (refine bsp ?_ ?_) | (refine csp ?_ ?_)); all_goals (intro hb; (fail_if_success (cases hb; done)); (try simp only [decide_eq_true_eq, decide_eq_false_iff_not, beq_iff_eq, bne_iff_ne, ne_eq, beq_eq_false_iff_ne, bne_eq_false_iff_eq, Bool.not_eq_true', Bool.not_eq_false', Bool.and_eq_true, Bool.or_eq_true, Decidable.not_not] at hb); (try simp only [go_sem]))))
    refine ⟨by first | exact .inr rfl | exact .inl rfl, .inl ⟨[], _, (by dsimp only [Tryd.f14]; exact sv), ?_, by simp⟩⟩
    rfl
end Go.Proofs.YtomameefmobnlaaDoor
