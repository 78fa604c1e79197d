/-
  Terms: the package's types: a variable. No condition of its own.
-/
import Derived.Test.YtomameefmobnlaaDoorS7
namespace Go.Proofs.YtomameefmobnlaaDoor
open Go Go.RowKit

attribute [local irreducible] EvOps EvC
attribute [local go_sem] List.getElem?_toArray List.flatten_cons List.flatten_nil List.contains_nil List.append_nil List.length_set Bool.and_self implies_true eq_self List.contains_cons beq_self_eq_true Bool.true_or
attribute [local go_sem] getS sA0 sA sB0 sB sC sC2 sD sD2 sT
attribute [local go_sem] mget_map mput_map flat_rep List.getElem?_set_self
set_option linter.unusedSimpArgs false
set_option linter.unusedVariables false
set_option maxRecDepth 100000
set_option maxHeartbeats 20000000
theorem ty_6 (n m : Int) (l : List Tr) (zs : List Int) (mp1 : List (Int × Int)) (js : List Ent) (id : Nat) (sto : Sto) (lo : Nat) (hid : id < sto.length) (hlid : lo ≤ id) (hlo : lo ≤ sto.length) (hzl : zs.length < 1000000) (R : Exit → St → Prop) (s : St) (hB : (s.env.length = 217 ∧ s.sto = sto.set id (mpE mp1) ++ .cells [.v (VI 6), .v (VI n), .v (VI m), .v (.sl zs.length (cellsTs l))] :: .arr (some (3, 1)) true zs.length (zs.map VI) :: js ∧ s.env[0]? = some (.map id) ∧ s.env[3]? = some (.ptr sto.length 0) ∧ s.env[4]? = some (.v (VI 0)) ∧ s.env[5]? = some (.arr (sto.length + 1) zs.length)))
    (hR : ∀ s', s'.env[4]? = some (.v (VI (endT 6 n m zs mp1).1)) → (∃ l', s'.sto = sto.set id (mpE (endT 6 n m zs mp1).2) ++ l') → R .ret s') : EvC tab (CallEv Tryd.prog tab B0) sto.length lo [21] (tyTail Tryd.f42) R s := by
  have hp0 : True := trivial
  have hg : True := trivial
  have hz0 : zs = [] ∨ ¬ zs.length = 0 ∧ ¬ zs = [] := by cases zs <;> simp
  revert hB
  rintro ⟨hL, hT, k0, k3, k4, k5⟩
  obtain ⟨env, st0⟩ := s; obtain ⟨J, hJ⟩ := listJ hL; rw [show (List.range 217).map J = J 0 :: J 1 :: J 2 :: J 3 :: J 4 :: J 5 :: J 6 :: J 7 :: J 8 :: J 9 :: J 10 :: J 11 :: J 12 :: J 13 :: J 14 :: J 15 :: J 16 :: J 17 :: J 18 :: J 19 :: J 20 :: J 21 :: J 22 :: J 23 :: J 24 :: J 25 :: J 26 :: J 27 :: J 28 :: J 29 :: J 30 :: J 31 :: J 32 :: J 33 :: J 34 :: J 35 :: J 36 :: J 37 :: J 38 :: J 39 :: J 40 :: J 41 :: J 42 :: J 43 :: J 44 :: J 45 :: J 46 :: J 47 :: J 48 :: J 49 :: J 50 :: J 51 :: J 52 :: J 53 :: J 54 :: J 55 :: J 56 :: J 57 :: J 58 :: J 59 :: J 60 :: J 61 :: J 62 :: J 63 :: J 64 :: J 65 :: J 66 :: J 67 :: J 68 :: J 69 :: J 70 :: J 71 :: J 72 :: J 73 :: J 74 :: J 75 :: J 76 :: J 77 :: J 78 :: J 79 :: J 80 :: J 81 :: J 82 :: J 83 :: J 84 :: J 85 :: J 86 :: J 87 :: J 88 :: J 89 :: J 90 :: J 91 :: J 92 :: J 93 :: J 94 :: J 95 :: J 96 :: J 97 :: J 98 :: J 99 :: J 100 :: J 101 :: J 102 :: J 103 :: J 104 :: J 105 :: J 106 :: J 107 :: J 108 :: J 109 :: J 110 :: J 111 :: J 112 :: J 113 :: J 114 :: J 115 :: J 116 :: J 117 :: J 118 :: J 119 :: J 120 :: J 121 :: J 122 :: J 123 :: J 124 :: J 125 :: J 126 :: J 127 :: J 128 :: J 129 :: J 130 :: J 131 :: J 132 :: J 133 :: J 134 :: J 135 :: J 136 :: J 137 :: J 138 :: J 139 :: J 140 :: J 141 :: J 142 :: J 143 :: J 144 :: J 145 :: J 146 :: J 147 :: J 148 :: J 149 :: J 150 :: J 151 :: J 152 :: J 153 :: J 154 :: J 155 :: J 156 :: J 157 :: J 158 :: J 159 :: J 160 :: J 161 :: J 162 :: J 163 :: J 164 :: J 165 :: J 166 :: J 167 :: J 168 :: J 169 :: J 170 :: J 171 :: J 172 :: J 173 :: J 174 :: J 175 :: J 176 :: J 177 :: J 178 :: J 179 :: J 180 :: J 181 :: J 182 :: J 183 :: J 184 :: J 185 :: J 186 :: J 187 :: J 188 :: J 189 :: J 190 :: J 191 :: J 192 :: J 193 :: J 194 :: J 195 :: J 196 :: J 197 :: J 198 :: J 199 :: J 200 :: J 201 :: J 202 :: J 203 :: J 204 :: J 205 :: J 206 :: J 207 :: J 208 :: J 209 :: J 210 :: J 211 :: J 212 :: J 213 :: J 214 :: J 215 :: J 216 :: [] from by kernel_rfl] at hJ; replace k0 := Option.some.inj ((congrArg (·[0]?) hJ).symm.trans k0); replace k3 := Option.some.inj ((congrArg (·[3]?) hJ).symm.trans k3); replace k4 := Option.some.inj ((congrArg (·[4]?) hJ).symm.trans k4); replace k5 := Option.some.inj ((congrArg (·[5]?) hJ).symm.trans k5); rw [k0, k3, k4, k5] at hJ; dsimp only at hJ hT; subst hJ; replace hT := hT.symm; subst hT; clear hL k0 k3 k4 k5
  refine c_is (by unfold tyTail; dsimp only [Tryd.f42, snd4]) ?_
  refine c_seq ?_
  refine c_block ?_
  refine c_seq ?_
  rw [endT6] at hR
  rcases hz0 with rfl | ⟨hz0, hz1⟩
  · by_cases c : 0 ≤ n ∧ n ≤ 63 ∧ (m = 0 ∨ m = 1)
    · rw [if_pos ⟨rfl, c⟩] at hR
      obtain ⟨c1, c2, c3⟩ := c
      clear hg
      cases hg : aget mp1 n with
      | none =>
        simp only [hg] at hR
        ((with_reducible refine c_region_share [sto.length + 1] ?_ ?_); (intro h; cases h); simp (disch := (first | omega | assumption | ((repeat' with_reducible apply And.intro) <;> first | omega | assumption | rfl | (apply Or.inl; rfl) | (apply Or.inr; first | rfl | trivial | fail) | fail) | fail)) only [go_sem, if_pos, if_neg, wrapI, wrapU, decide_eq_true, decide_eq_false, beqT, beqF, bneT, bneF, hp0, hg])
        rcases c3 with rfl | rfl
        all_goals
          repeat' (first | (refine tygo ⟨?_⟩) | (fail) | ((first | (refine bsp ?_ ?_) | (refine csp ?_ ?_)); all_goals (intro hb; (fail_if_success (cases hb; done)); (try simp only [decide_eq_true_eq, decide_eq_false_iff_not, beq_iff_eq, bne_iff_ne, ne_eq, beq_eq_false_iff_ne, bne_eq_false_iff_eq, Bool.not_eq_true', Bool.not_eq_false', Bool.and_eq_true, Bool.or_eq_true, Decidable.not_not] at hb); (try simp only [go_sem]))))
        all_goals (refine hR _ (Eq.trans (b := some (.v (VI _))) rfl ?_) ⟨_, rfl⟩; (first | rfl | (congr 3; (repeat' split) <;> first | rfl | omega | (exfalso; omega) | (exfalso; simp_all; done))))
      | some m' =>
        simp only [hg] at hR
        by_cases e : m' = m
        · subst e
          rw [if_neg (by simp)] at hR
          ((with_reducible refine c_region_share [sto.length + 1] ?_ ?_); (intro h; cases h); simp (disch := (first | omega | assumption | ((repeat' with_reducible apply And.intro) <;> first | omega | assumption | rfl | (apply Or.inl; rfl) | (apply Or.inr; first | rfl | trivial | fail) | fail) | fail)) only [go_sem, if_pos, if_neg, wrapI, wrapU, decide_eq_true, decide_eq_false, beqT, beqF, bneT, bneF, hp0, hg])
          rcases c3 with rfl | rfl
          all_goals
            repeat' (first | (refine tygo ⟨?_⟩) | (fail) | ((first | (refine bsp ?_ ?_) | (refine csp ?_ ?_)); all_goals (intro hb; (fail_if_success (cases hb; done)); (try simp only [decide_eq_true_eq, decide_eq_false_iff_not, beq_iff_eq, bne_iff_ne, ne_eq, beq_eq_false_iff_ne, bne_eq_false_iff_eq, Bool.not_eq_true', Bool.not_eq_false', Bool.and_eq_true, Bool.or_eq_true, Decidable.not_not] at hb); (try simp only [go_sem]))))
          all_goals (refine hR _ (Eq.trans (b := some (.v (VI _))) rfl ?_) ⟨_, rfl⟩; (first | rfl | (congr 3; (repeat' split) <;> first | rfl | omega | (exfalso; omega) | (exfalso; simp_all; done))))
        · rw [if_pos e] at hR
          ((with_reducible refine c_region_share [sto.length + 1] ?_ ?_); (intro h; cases h); simp (disch := (first | omega | assumption | ((repeat' with_reducible apply And.intro) <;> first | omega | assumption | rfl | (apply Or.inl; rfl) | (apply Or.inr; first | rfl | trivial | fail) | fail) | fail)) only [go_sem, if_pos, if_neg, wrapI, wrapU, decide_eq_true, decide_eq_false, beqT, beqF, bneT, bneF, hp0, hg])
          rcases c3 with rfl | rfl
          all_goals
            repeat' (first | (refine tygo ⟨?_⟩) | (fail) | ((first | (refine bsp ?_ ?_) | (refine csp ?_ ?_)); all_goals (intro hb; (fail_if_success (cases hb; done)); (try simp only [decide_eq_true_eq, decide_eq_false_iff_not, beq_iff_eq, bne_iff_ne, ne_eq, beq_eq_false_iff_ne, bne_eq_false_iff_eq, Bool.not_eq_true', Bool.not_eq_false', Bool.and_eq_true, Bool.or_eq_true, Decidable.not_not] at hb); (try simp only [go_sem]))))
          all_goals (refine hR _ (Eq.trans (b := some (.v (VI _))) rfl ?_) ⟨_, rfl⟩; (first | rfl | (congr 3; (repeat' split) <;> first | rfl | omega | (exfalso; omega) | (exfalso; simp_all; done))))
    · rw [if_neg (fun h => c h.2)] at hR
      have c' : Later (¬ (0 ≤ n ∧ n ≤ 63 ∧ (m = 0 ∨ m = 1))) := ⟨c⟩
      clear c
      ((with_reducible refine c_region_share [sto.length + 1] ?_ ?_); (intro h; cases h); simp (disch := (first | omega | assumption | ((repeat' with_reducible apply And.intro) <;> first | omega | assumption | rfl | (apply Or.inl; rfl) | (apply Or.inr; first | rfl | trivial | fail) | fail) | fail)) only [go_sem, if_pos, if_neg, wrapI, wrapU, decide_eq_true, decide_eq_false, beqT, beqF, bneT, bneF, hp0, hg])
      repeat' (first | (refine tygo ⟨?_⟩) | (fail) | ((first | (refine bsp ?_ ?_) | (refine csp ?_ ?_)); all_goals (intro hb; (fail_if_success (cases hb; done)); (try simp only [decide_eq_true_eq, decide_eq_false_iff_not, beq_iff_eq, bne_iff_ne, ne_eq, beq_eq_false_iff_ne, bne_eq_false_iff_eq, Bool.not_eq_true', Bool.not_eq_false', Bool.and_eq_true, Bool.or_eq_true, Decidable.not_not] at hb); (try simp only [go_sem]))))
      all_goals have c := c'.get
      all_goals first | (exfalso; omega) | skip
      all_goals (refine hR _ (Eq.trans (b := some (.v (VI _))) rfl ?_) ⟨_, rfl⟩; (first | rfl | (congr 3; (repeat' split) <;> first | rfl | omega | (exfalso; omega) | (exfalso; simp_all; done))))
  · rw [if_neg (fun h => hz1 h.1)] at hR
    ((with_reducible refine c_region_share [sto.length + 1] ?_ ?_); (intro h; cases h); simp (disch := (first | omega | assumption | ((repeat' with_reducible apply And.intro) <;> first | omega | assumption | rfl | (apply Or.inl; rfl) | (apply Or.inr; first | rfl | trivial | fail) | fail) | fail)) only [go_sem, if_pos, if_neg, wrapI, wrapU, decide_eq_true, decide_eq_false, beqT, beqF, bneT, bneF, hp0, hg])
    repeat' (first | (refine tygo ⟨?_⟩) | (fail) | ((first | (refine bsp ?_ ?_) | (refine csp ?_ ?_)); all_goals (intro hb; (fail_if_success (cases hb; done)); (try simp only [decide_eq_true_eq, decide_eq_false_iff_not, beq_iff_eq, bne_iff_ne, ne_eq, beq_eq_false_iff_ne, bne_eq_false_iff_eq, Bool.not_eq_true', Bool.not_eq_false', Bool.and_eq_true, Bool.or_eq_true, Decidable.not_not] at hb); (try simp only [go_sem]))))
    all_goals (refine hR _ (Eq.trans (b := some (.v (VI _))) rfl ?_) ⟨_, rfl⟩; (first | rfl | (congr 3; (repeat' split) <;> first | rfl | omega | (exfalso; omega) | (exfalso; simp_all; done))))
end Go.Proofs.YtomameefmobnlaaDoor
