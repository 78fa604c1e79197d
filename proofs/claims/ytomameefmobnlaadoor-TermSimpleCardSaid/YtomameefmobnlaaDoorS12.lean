/-
  Terms: the package's types: whole. No condition of its own.
-/
import Derived.Test.YtomameefmobnlaaDoorS7
import Derived.Test.YtomameefmobnlaaDoorS9
import Derived.Test.YtomameefmobnlaaDoorS10
import Derived.Test.YtomameefmobnlaaDoorS11
namespace Go.Proofs.YtomameefmobnlaaDoor
open Go Go.RowKit

attribute [local irreducible] EvOps EvC
attribute [local go_sem] List.getElem?_toArray List.flatten_cons List.flatten_nil List.contains_nil List.append_nil List.length_set Bool.and_self implies_true eq_self List.contains_cons beq_self_eq_true Bool.true_or
attribute [local go_sem] getS sA0 sA sB0 sB sC sC2 sD sD2 sT
attribute [local go_sem] mget_map mput_map flat_rep List.getElem?_set_self
set_option linter.unusedSimpArgs false
set_option linter.unusedVariables false
set_option maxRecDepth 100000
set_option maxHeartbeats 20000000
theorem types_ev (N : Nat) : ∀ (t : Tr) (mp : List (Int × Int)) (id : Nat) (sto : Sto) (lo : Nat), tsz t ≤ N → tsz t < 1000000 → sto[id]? = some (mpE mp) → lo ≤ id → lo ≤ sto.length →
    CallEv Tryd.prog tab B0 42 [.map id, .v (TV t)] sto lo (.v (VI (typesC t mp).1)) (sto.set id (mpE (typesC t mp).2)) := by
  induction N with
  | zero => intro t mp id sto lo h; have := tsz_pos t; omega
  | succ N ih =>
    intro t mp id sto lo hN hs hp0 hlid hlo
    have hg : True := trivial
    obtain ⟨k, n, m, l⟩ := t
    simp only [tsz] at hN hs
    have hll := tszs_length l
    have hid : id < sto.length := (List.getElem?_eq_some_iff.1 hp0).1
    by_cases c0 : m ≠ 0 ∧ k ≠ 6
    · rw [typesC, if_pos c0]
      obtain ⟨h1, h2⟩ := c0
      clear ih hN hs hll
      refine CallEv.intro ⟨_, _, [], Tryd.func42, rfl, by decide, ?_⟩; simp only [go_sem, Tryd.ntmps42]
      refine c_sto (set_sameE hp0) ?_
      repeat' (first | (refine tygo ⟨?_⟩) | (fail) | ((first | (refine bsp ?_ ?_) | (refine csp ?_ ?_)); all_goals (intro hb; (fail_if_success (cases hb; done)); (try simp only [decide_eq_true_eq, decide_eq_false_iff_not, beq_iff_eq, bne_iff_ne, ne_eq, beq_eq_false_iff_ne, bne_eq_false_iff_eq, Bool.not_eq_true', Bool.not_eq_false', Bool.and_eq_true, Bool.or_eq_true, Decidable.not_not] at hb); (try simp only [go_sem]))))
      refine ⟨by first | exact .inr rfl | exact .inl rfl, .inl ⟨[], _, (by dsimp only [Tryd.f42]; exact tysv), ?_, ?_⟩⟩
      · rfl
      · simp only [sT]
    have c0' : m = 0 ∨ k = 6 := by
      by_cases e : m = 0
      · exact .inl e
      · exact .inr (Decidable.not_not.1 fun h6 => c0 ⟨e, h6⟩)
    refine CallEv.intro ⟨_, _, [21], Tryd.func42, rfl, by decide, ?_⟩; simp only [go_sem, Tryd.ntmps42]
    have c1 : m = 0 ∨ ¬ m = 0 := by omega
    have c0'' : ¬ m = 0 → k = 6 := by omega
    refine c_sto (set_sameE hp0) ?_
    refine c_seq ?_
    refine c_cut .normal (fun s => (s.env.length = 217 ∧ s.sto = sto.set id (mpE mp) ++ [.cells [.v (VI k), .v (VI n), .v (VI m), .v (.sl l.length (cellsTs l))]] ∧ s.env[0]? = some (.map id) ∧ s.env[3]? = some (.ptr sto.length 0) ∧ s.env[4]? = some (.v (VI 0)))) ?_ ?_
    · (try refine tygo ⟨?_⟩)
      first | refine ⟨rfl, rfl, rfl, ?_, ?_, ?_⟩ | refine ⟨rfl, rfl, ?_, ?_, ?_⟩
      all_goals rfl
    rintro s ⟨hL, hT, k0, k3, k4⟩
    obtain ⟨env, st0⟩ := s; obtain ⟨J, hJ⟩ := listJ hL; rw [show (List.range 217).map J = J 0 :: J 1 :: J 2 :: J 3 :: J 4 :: J 5 :: J 6 :: J 7 :: J 8 :: J 9 :: J 10 :: J 11 :: J 12 :: J 13 :: J 14 :: J 15 :: J 16 :: J 17 :: J 18 :: J 19 :: J 20 :: J 21 :: J 22 :: J 23 :: J 24 :: J 25 :: J 26 :: J 27 :: J 28 :: J 29 :: J 30 :: J 31 :: J 32 :: J 33 :: J 34 :: J 35 :: J 36 :: J 37 :: J 38 :: J 39 :: J 40 :: J 41 :: J 42 :: J 43 :: J 44 :: J 45 :: J 46 :: J 47 :: J 48 :: J 49 :: J 50 :: J 51 :: J 52 :: J 53 :: J 54 :: J 55 :: J 56 :: J 57 :: J 58 :: J 59 :: J 60 :: J 61 :: J 62 :: J 63 :: J 64 :: J 65 :: J 66 :: J 67 :: J 68 :: J 69 :: J 70 :: J 71 :: J 72 :: J 73 :: J 74 :: J 75 :: J 76 :: J 77 :: J 78 :: J 79 :: J 80 :: J 81 :: J 82 :: J 83 :: J 84 :: J 85 :: J 86 :: J 87 :: J 88 :: J 89 :: J 90 :: J 91 :: J 92 :: J 93 :: J 94 :: J 95 :: J 96 :: J 97 :: J 98 :: J 99 :: J 100 :: J 101 :: J 102 :: J 103 :: J 104 :: J 105 :: J 106 :: J 107 :: J 108 :: J 109 :: J 110 :: J 111 :: J 112 :: J 113 :: J 114 :: J 115 :: J 116 :: J 117 :: J 118 :: J 119 :: J 120 :: J 121 :: J 122 :: J 123 :: J 124 :: J 125 :: J 126 :: J 127 :: J 128 :: J 129 :: J 130 :: J 131 :: J 132 :: J 133 :: J 134 :: J 135 :: J 136 :: J 137 :: J 138 :: J 139 :: J 140 :: J 141 :: J 142 :: J 143 :: J 144 :: J 145 :: J 146 :: J 147 :: J 148 :: J 149 :: J 150 :: J 151 :: J 152 :: J 153 :: J 154 :: J 155 :: J 156 :: J 157 :: J 158 :: J 159 :: J 160 :: J 161 :: J 162 :: J 163 :: J 164 :: J 165 :: J 166 :: J 167 :: J 168 :: J 169 :: J 170 :: J 171 :: J 172 :: J 173 :: J 174 :: J 175 :: J 176 :: J 177 :: J 178 :: J 179 :: J 180 :: J 181 :: J 182 :: J 183 :: J 184 :: J 185 :: J 186 :: J 187 :: J 188 :: J 189 :: J 190 :: J 191 :: J 192 :: J 193 :: J 194 :: J 195 :: J 196 :: J 197 :: J 198 :: J 199 :: J 200 :: J 201 :: J 202 :: J 203 :: J 204 :: J 205 :: J 206 :: J 207 :: J 208 :: J 209 :: J 210 :: J 211 :: J 212 :: J 213 :: J 214 :: J 215 :: J 216 :: [] from by kernel_rfl] at hJ; replace k0 := Option.some.inj ((congrArg (·[0]?) hJ).symm.trans k0); replace k3 := Option.some.inj ((congrArg (·[3]?) hJ).symm.trans k3); replace k4 := Option.some.inj ((congrArg (·[4]?) hJ).symm.trans k4); rw [k0, k3, k4] at hJ; dsimp only at hJ hT; subst hJ; replace hT := hT.symm; subst hT; clear hL k0 k3 k4
    refine then_normal ?_
    refine c_seq ?_
    refine c_cut .normal (fun s => (s.env.length = 217 ∧ s.sto = sto.set id (mpE mp) ++ [.cells [.v (VI k), .v (VI n), .v (VI m), .v (.sl l.length (cellsTs l))]] ∧ s.env[0]? = some (.map id) ∧ s.env[3]? = some (.ptr sto.length 0) ∧ s.env[4]? = some (.v (VI 0)))) ?_ ?_
    · rcases c1 with h | h
      · (try refine tygo ⟨?_⟩)
        refine ⟨rfl, rfl, rfl, ?_, ?_, ?_⟩
        all_goals rfl
      · have h6 := c0'' h
        subst h6
        (try refine tygo ⟨?_⟩)
        refine ⟨rfl, rfl, rfl, ?_, ?_, ?_⟩
        all_goals rfl
    rintro s ⟨hL, hT, k0, k3, k4⟩
    obtain ⟨env, st0⟩ := s; obtain ⟨J, hJ⟩ := listJ hL; rw [show (List.range 217).map J = J 0 :: J 1 :: J 2 :: J 3 :: J 4 :: J 5 :: J 6 :: J 7 :: J 8 :: J 9 :: J 10 :: J 11 :: J 12 :: J 13 :: J 14 :: J 15 :: J 16 :: J 17 :: J 18 :: J 19 :: J 20 :: J 21 :: J 22 :: J 23 :: J 24 :: J 25 :: J 26 :: J 27 :: J 28 :: J 29 :: J 30 :: J 31 :: J 32 :: J 33 :: J 34 :: J 35 :: J 36 :: J 37 :: J 38 :: J 39 :: J 40 :: J 41 :: J 42 :: J 43 :: J 44 :: J 45 :: J 46 :: J 47 :: J 48 :: J 49 :: J 50 :: J 51 :: J 52 :: J 53 :: J 54 :: J 55 :: J 56 :: J 57 :: J 58 :: J 59 :: J 60 :: J 61 :: J 62 :: J 63 :: J 64 :: J 65 :: J 66 :: J 67 :: J 68 :: J 69 :: J 70 :: J 71 :: J 72 :: J 73 :: J 74 :: J 75 :: J 76 :: J 77 :: J 78 :: J 79 :: J 80 :: J 81 :: J 82 :: J 83 :: J 84 :: J 85 :: J 86 :: J 87 :: J 88 :: J 89 :: J 90 :: J 91 :: J 92 :: J 93 :: J 94 :: J 95 :: J 96 :: J 97 :: J 98 :: J 99 :: J 100 :: J 101 :: J 102 :: J 103 :: J 104 :: J 105 :: J 106 :: J 107 :: J 108 :: J 109 :: J 110 :: J 111 :: J 112 :: J 113 :: J 114 :: J 115 :: J 116 :: J 117 :: J 118 :: J 119 :: J 120 :: J 121 :: J 122 :: J 123 :: J 124 :: J 125 :: J 126 :: J 127 :: J 128 :: J 129 :: J 130 :: J 131 :: J 132 :: J 133 :: J 134 :: J 135 :: J 136 :: J 137 :: J 138 :: J 139 :: J 140 :: J 141 :: J 142 :: J 143 :: J 144 :: J 145 :: J 146 :: J 147 :: J 148 :: J 149 :: J 150 :: J 151 :: J 152 :: J 153 :: J 154 :: J 155 :: J 156 :: J 157 :: J 158 :: J 159 :: J 160 :: J 161 :: J 162 :: J 163 :: J 164 :: J 165 :: J 166 :: J 167 :: J 168 :: J 169 :: J 170 :: J 171 :: J 172 :: J 173 :: J 174 :: J 175 :: J 176 :: J 177 :: J 178 :: J 179 :: J 180 :: J 181 :: J 182 :: J 183 :: J 184 :: J 185 :: J 186 :: J 187 :: J 188 :: J 189 :: J 190 :: J 191 :: J 192 :: J 193 :: J 194 :: J 195 :: J 196 :: J 197 :: J 198 :: J 199 :: J 200 :: J 201 :: J 202 :: J 203 :: J 204 :: J 205 :: J 206 :: J 207 :: J 208 :: J 209 :: J 210 :: J 211 :: J 212 :: J 213 :: J 214 :: J 215 :: J 216 :: [] from by kernel_rfl] at hJ; replace k0 := Option.some.inj ((congrArg (·[0]?) hJ).symm.trans k0); replace k3 := Option.some.inj ((congrArg (·[3]?) hJ).symm.trans k3); replace k4 := Option.some.inj ((congrArg (·[4]?) hJ).symm.trans k4); rw [k0, k3, k4] at hJ; dsimp only at hJ hT; subst hJ; replace hT := hT.symm; subst hT; clear hL k0 k3 k4
    refine then_normal ?_
    (try refine tygo ⟨?_⟩)
    refine c_loop (fun mm s => ∃ (i : Nat) (mp1 : List (Int × Int)) (zs : List Int) (js : List Ent), (i ≤ l.length ∧ mm = l.length - i ∧ zs.length = l.length ∧ typesL (l.take i) mp = (some (zs.take i), mp1)) ∧ (s.env.length = 217 ∧ s.sto = sto.set id (mpE mp1) ++ .cells [.v (VI k), .v (VI n), .v (VI m), .v (.sl l.length (cellsTs l))] :: .arr (some (3, 1)) true l.length (zs.map VI) :: js ∧ s.env[0]? = some (.map id) ∧ s.env[3]? = some (.ptr sto.length 0) ∧ s.env[4]? = some (.v (VI 0)) ∧ s.env[5]? = some (.arr (sto.length + 1) l.length) ∧ s.env[23]? = some (.v (.sl l.length (cellsTs l))) ∧ s.env[24]? = some (.v (VI l.length)) ∧ s.env[25]? = some (.v (VI i)))) (.refl _) ⟨0, mp, List.replicate l.length 0, [], ⟨by omega, rfl, by simp, by simp [typesL]⟩, rfl, rfl, ?_, ?_, ?_, ?_, ?_, ?_, ?_⟩ ?_
    all_goals first | rfl | skip
    rintro mm s ⟨i, mp1, zs, js, ⟨h1, rfl, h2, h3⟩, hL, hT, k0, k3, k4, k5, k23, k24, k25⟩
    obtain ⟨env, st0⟩ := s; obtain ⟨J, hJ⟩ := listJ hL; rw [show (List.range 217).map J = J 0 :: J 1 :: J 2 :: J 3 :: J 4 :: J 5 :: J 6 :: J 7 :: J 8 :: J 9 :: J 10 :: J 11 :: J 12 :: J 13 :: J 14 :: J 15 :: J 16 :: J 17 :: J 18 :: J 19 :: J 20 :: J 21 :: J 22 :: J 23 :: J 24 :: J 25 :: J 26 :: J 27 :: J 28 :: J 29 :: J 30 :: J 31 :: J 32 :: J 33 :: J 34 :: J 35 :: J 36 :: J 37 :: J 38 :: J 39 :: J 40 :: J 41 :: J 42 :: J 43 :: J 44 :: J 45 :: J 46 :: J 47 :: J 48 :: J 49 :: J 50 :: J 51 :: J 52 :: J 53 :: J 54 :: J 55 :: J 56 :: J 57 :: J 58 :: J 59 :: J 60 :: J 61 :: J 62 :: J 63 :: J 64 :: J 65 :: J 66 :: J 67 :: J 68 :: J 69 :: J 70 :: J 71 :: J 72 :: J 73 :: J 74 :: J 75 :: J 76 :: J 77 :: J 78 :: J 79 :: J 80 :: J 81 :: J 82 :: J 83 :: J 84 :: J 85 :: J 86 :: J 87 :: J 88 :: J 89 :: J 90 :: J 91 :: J 92 :: J 93 :: J 94 :: J 95 :: J 96 :: J 97 :: J 98 :: J 99 :: J 100 :: J 101 :: J 102 :: J 103 :: J 104 :: J 105 :: J 106 :: J 107 :: J 108 :: J 109 :: J 110 :: J 111 :: J 112 :: J 113 :: J 114 :: J 115 :: J 116 :: J 117 :: J 118 :: J 119 :: J 120 :: J 121 :: J 122 :: J 123 :: J 124 :: J 125 :: J 126 :: J 127 :: J 128 :: J 129 :: J 130 :: J 131 :: J 132 :: J 133 :: J 134 :: J 135 :: J 136 :: J 137 :: J 138 :: J 139 :: J 140 :: J 141 :: J 142 :: J 143 :: J 144 :: J 145 :: J 146 :: J 147 :: J 148 :: J 149 :: J 150 :: J 151 :: J 152 :: J 153 :: J 154 :: J 155 :: J 156 :: J 157 :: J 158 :: J 159 :: J 160 :: J 161 :: J 162 :: J 163 :: J 164 :: J 165 :: J 166 :: J 167 :: J 168 :: J 169 :: J 170 :: J 171 :: J 172 :: J 173 :: J 174 :: J 175 :: J 176 :: J 177 :: J 178 :: J 179 :: J 180 :: J 181 :: J 182 :: J 183 :: J 184 :: J 185 :: J 186 :: J 187 :: J 188 :: J 189 :: J 190 :: J 191 :: J 192 :: J 193 :: J 194 :: J 195 :: J 196 :: J 197 :: J 198 :: J 199 :: J 200 :: J 201 :: J 202 :: J 203 :: J 204 :: J 205 :: J 206 :: J 207 :: J 208 :: J 209 :: J 210 :: J 211 :: J 212 :: J 213 :: J 214 :: J 215 :: J 216 :: [] from by kernel_rfl] at hJ; replace k0 := Option.some.inj ((congrArg (·[0]?) hJ).symm.trans k0); replace k3 := Option.some.inj ((congrArg (·[3]?) hJ).symm.trans k3); replace k4 := Option.some.inj ((congrArg (·[4]?) hJ).symm.trans k4); replace k5 := Option.some.inj ((congrArg (·[5]?) hJ).symm.trans k5); replace k23 := Option.some.inj ((congrArg (·[23]?) hJ).symm.trans k23); replace k24 := Option.some.inj ((congrArg (·[24]?) hJ).symm.trans k24); replace k25 := Option.some.inj ((congrArg (·[25]?) hJ).symm.trans k25); rw [k0, k3, k4, k5, k23, k24, k25] at hJ; dsimp only at hJ hT; subst hJ; replace hT := hT.symm; subst hT; clear hL k0 k3 k4 k5 k23 k24 k25
    by_cases hi : i < l.length
    · have hz := tsz_get hi
      have hk := fun sto' h5 h6 => ih l[i] mp1 id sto' lo (by omega) (by omega) h5 hlid h6
      clear ih
      generalize htt : l[i] = t at *
      obtain ⟨k2, n2, m2, l2⟩ := t
      by_cases c4 : (typesC (.mk k2 n2 m2 l2) mp1).1 < 0
      · rw [typesC_none (typesL_stop hi h3 (by rw [htt]; exact c4)) c0, htt]
        generalize typesC (.mk k2 n2 m2 l2) mp1 = c at *
        obtain ⟨c, mp2⟩ := c
        dsimp only at c4 hk ⊢
        (try refine tygo ⟨?_⟩)
        rw [htt]
        (try refine tygo ⟨?_⟩)
        ((with_reducible apply ops_callW); rfl; (simp (disch := (first | omega | assumption | ((repeat' with_reducible apply And.intro) <;> first | omega | assumption | rfl | (apply Or.inl; rfl) | (apply Or.inr; first | rfl | trivial | fail) | fail) | fail)) only [go_sem, if_pos, if_neg, wrapI, wrapU, decide_eq_true, decide_eq_false, beqT, beqF, bneT, bneF, hp0, hg] <;> rfl); (exact hk _ (by simp (disch := (first | omega | assumption | ((repeat' with_reducible apply And.intro) <;> first | omega | assumption | rfl | (apply Or.inl; rfl) | (apply Or.inr; first | rfl | trivial | fail) | fail) | fail)) only [go_sem, if_pos, if_neg, wrapI, wrapU, decide_eq_true, decide_eq_false, beqT, beqF, bneT, bneF, hp0, hg]) (by first | omega | (simp; done) | (simp; omega))); (simp (disch := omega) only [sC, sC2]; (exact ho_mp (Nat.le_refl _) hid)); (try simp (disch := (first | omega | assumption | ((repeat' with_reducible apply And.intro) <;> first | omega | assumption | rfl | (apply Or.inl; rfl) | (apply Or.inr; first | rfl | trivial | fail) | fail) | fail)) only [go_sem, if_pos, if_neg, wrapI, wrapU, decide_eq_true, decide_eq_false, beqT, beqF, bneT, bneF, hp0, hg]))
        (try refine tygo ⟨?_⟩)
        rw [mapSet (f := VI) (by omega)]
        (try refine tygo ⟨?_⟩)
        refine ⟨by first | exact .inr rfl | exact .inl rfl, .inl ⟨[], _, (by dsimp only [Tryd.f42]; exact tysv), ?_, ?_⟩⟩
        · rfl
        · simp only [sT]
      · have h4 := typesL_snoc hi h3 (by rw [htt]; exact c4)
        rw [htt] at h4
        generalize typesC (.mk k2 n2 m2 l2) mp1 = c at *
        obtain ⟨c, mp2⟩ := c
        dsimp only at c4 hk h4
        (try refine tygo ⟨?_⟩)
        rw [htt]
        (try refine tygo ⟨?_⟩)
        ((with_reducible apply ops_callW); rfl; (simp (disch := (first | omega | assumption | ((repeat' with_reducible apply And.intro) <;> first | omega | assumption | rfl | (apply Or.inl; rfl) | (apply Or.inr; first | rfl | trivial | fail) | fail) | fail)) only [go_sem, if_pos, if_neg, wrapI, wrapU, decide_eq_true, decide_eq_false, beqT, beqF, bneT, bneF, hp0, hg] <;> rfl); (exact hk _ (by simp (disch := (first | omega | assumption | ((repeat' with_reducible apply And.intro) <;> first | omega | assumption | rfl | (apply Or.inl; rfl) | (apply Or.inr; first | rfl | trivial | fail) | fail) | fail)) only [go_sem, if_pos, if_neg, wrapI, wrapU, decide_eq_true, decide_eq_false, beqT, beqF, bneT, bneF, hp0, hg]) (by first | omega | (simp; done) | (simp; omega))); (simp (disch := omega) only [sC, sC2]; (exact ho_mp (Nat.le_refl _) hid)); (try simp (disch := (first | omega | assumption | ((repeat' with_reducible apply And.intro) <;> first | omega | assumption | rfl | (apply Or.inl; rfl) | (apply Or.inr; first | rfl | trivial | fail) | fail) | fail)) only [go_sem, if_pos, if_neg, wrapI, wrapU, decide_eq_true, decide_eq_false, beqT, beqF, bneT, bneF, hp0, hg]))
        (try refine tygo ⟨?_⟩)
        rw [mapSet (f := VI) (by omega)]
        (try refine tygo ⟨?_⟩)
        refine ⟨_, _, ?_, .refl _, i + 1, mp2, zs.set i c, _, ⟨by omega, rfl, by simpa using h2, ?_⟩, rfl, rfl, ?_, ?_, ?_, ?_, ?_, ?_, ?_⟩
        · omega
        · rw [h4]
          congr 2
          rw [List.take_succ_eq_append_getElem (by simpa using by omega), List.getElem_set_self, List.take_set_of_le (by omega)]
        all_goals rfl
    · rw [List.take_of_length_le (by omega), List.take_of_length_le (by omega)] at h3
      rw [typesC_some h3 c0]
      clear ih c0
      refine c_seq ?_
      (repeat (first | with_reducible (first | refine c_block ?_ | refine c_region ?_ | refine c_skip ?_ | refine c_exit ?_ | refine c_ret ?_ | refine then_normal ?_ | refine then_exit ?_ | refine then_ret ?_ | refine block_normal ?_ | refine block_here ?_ | refine block_ret ?_ | refine block_far (by decide) ?_ | refine ops_nil ?_ | refine c_cond_t rfl ?_ | refine c_cond_f rfl ?_) | ((with_reducible apply ops_pure); rfl; (simp (disch := (first | omega | assumption | ((repeat' with_reducible apply And.intro) <;> first | omega | assumption | rfl | (apply Or.inl; rfl) | (apply Or.inr; first | rfl | trivial | fail) | fail) | fail)) only [go_sem, if_pos, if_neg, wrapI, wrapU, decide_eq_true, decide_eq_false, beqT, beqF, bneT, bneF, hp0, hg] <;> rfl); simp only [go_sem]) | ((with_reducible apply ops_skip); rfl; simp only [go_sem])))
      refine c_seq ?_
      (repeat (first | with_reducible (first | refine c_block ?_ | refine c_region ?_ | refine c_skip ?_ | refine c_exit ?_ | refine c_ret ?_ | refine then_normal ?_ | refine then_exit ?_ | refine then_ret ?_ | refine block_normal ?_ | refine block_here ?_ | refine block_ret ?_ | refine block_far (by decide) ?_ | refine ops_nil ?_ | refine c_cond_t rfl ?_ | refine c_cond_f rfl ?_) | ((with_reducible apply ops_pure); rfl; (simp (disch := (first | omega | assumption | ((repeat' with_reducible apply And.intro) <;> first | omega | assumption | rfl | (apply Or.inl; rfl) | (apply Or.inr; first | rfl | trivial | fail) | fail) | fail)) only [go_sem, if_pos, if_neg, wrapI, wrapU, decide_eq_true, decide_eq_false, beqT, beqF, bneT, bneF, hp0, hg] <;> rfl); simp only [go_sem]) | ((with_reducible apply ops_skip); rfl; simp only [go_sem])))
      rw [← h2]
      have hfin : ∀ s' : St, s'.env[4]? = some (.v (VI (endT k n m zs mp1).1)) → (∃ l', s'.sto = sto.set id (mpE (endT k n m zs mp1).2) ++ l') → bodyP tab Tryd.f42 sto.length (.v (VI (endT k n m zs mp1).1)) (sto.set id (mpE (endT k n m zs mp1).2)) .ret s' := by
        rintro ⟨env, st⟩ q1 ⟨l', q2⟩
        dsimp only at q1 q2
        subst q2
        refine ⟨.inr rfl, .inl ⟨[], .int .i64 (endT k n m zs mp1).1, ?_, rfl, ?_⟩⟩
        · simp only [Tryd.f42, resV, resL, resOf, q1, Option.getD_some, view, viewC]
        · simp only [sT]
      refine cut_c (P := fun s => (s.env.length = 217 ∧ s.sto = sto.set id (mpE mp1) ++ .cells [.v (VI k), .v (VI n), .v (VI m), .v (.sl zs.length (cellsTs l))] :: .arr (some (3, 1)) true zs.length (zs.map VI) :: js ∧ s.env[0]? = some (.map id) ∧ s.env[3]? = some (.ptr sto.length 0) ∧ s.env[4]? = some (.v (VI 0)) ∧ s.env[5]? = some (.arr (sto.length + 1) zs.length))) ⟨rfl, rfl, ?_, ?_, ?_, ?_⟩ ?_
      all_goals first | rfl | skip
      intro s hB
      have hzl : zs.length < 1000000 := by omega
      clear h1 hi h3 hll hN hs c0' c1 c0''
      by_cases k6 : k = 6
      · subst k6; exact ty_6 n m l zs mp1 js id sto lo hid hlid hlo hzl _ s hB hfin
      by_cases k4 : k = 4
      · subst k4; exact ty_4 n m l zs mp1 js id sto lo hid hlid hlo hzl _ s hB hfin
      by_cases k5 : k = 5
      · subst k5; exact ty_5 n m l zs mp1 js id sto lo hid hlid hlo hzl _ s hB hfin
      by_cases k9 : k = 9
      · subst k9; exact ty_9 n m l zs mp1 js id sto lo hid hlid hlo hzl _ s hB hfin
      by_cases k10 : k = 10
      · subst k10; exact ty_10 n m l zs mp1 js id sto lo hid hlid hlo hzl _ s hB hfin
      by_cases k29 : k = 29
      · subst k29; exact ty_29 n m l zs mp1 js id sto lo hid hlid hlo hzl _ s hB hfin
      · exact ty_0 k n m l zs mp1 js id sto lo k6 k4 k5 k9 k10 k29 hid hlid hlo hzl _ s hB hfin
end Go.Proofs.YtomameefmobnlaaDoor
