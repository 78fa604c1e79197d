/-
  DiskRots' walk. No condition of its own. DiskRots: whatever the input, it returns true.
-/
import Derived.Test.YtghdanpigohnjaaD5
import Derived.Test.YtghdanpigohnjaaD7
import Derived.Test.YtghdanpigohnjaaD0
namespace Go.Proofs.Ytghdanpigohnjaa
open Go Go.RowKit

attribute [local irreducible] EvOps EvC
attribute [local go_sem] List.getElem?_toArray List.flatten_cons List.flatten_nil List.contains_nil List.append_nil List.nil_append List.length_set Bool.and_self implies_true eq_self Nat.zero_mul Nat.add_zero Nat.zero_add Nat.sub_zero List.take_zero List.drop_zero List.drop_replicate Nat.sub_self List.replicate_zero List.map_nil List.map_append List.length_replicate
attribute [local go_sem] bytesV_bs strV_u8s bs_size u8s_len bs_extract bs_append bs_beq bs_nil bs_nil2
attribute [local go_sem] putD_len putD_b putD_p putD_w putD_d putD_app putD_put putD_get0 putD_get putD_set0 putD_set putD_take putD_takeN putD_setd putD_setw putD_setp getLD setLD
set_option linter.unusedSimpArgs false
set_option linter.unusedVariables false
set_option maxRecDepth 100000
set_option maxHeartbeats 4000000
attribute [local go_sem] take_u8 take_u8v drop_u8v len_u8v viewL_mv eqVs_u8s zsV_Z64 Z64_len Nat.min_self Nat.min_eq_right


theorem lfgo {p q : Prop} (k : Later q) (h : Later q → p := by (intro k; (first | with_reducible (first | refine c_seq ?_ | refine c_block ?_ | refine c_region ?_ | refine c_skip ?_ | refine c_exit ?_ | refine c_ret ?_ | refine then_normal ?_ | refine then_exit ?_ | refine then_ret ?_ | refine block_normal ?_ | refine block_here ?_ | refine block_ret ?_ | refine block_far (by decide) ?_ | refine ops_nil ?_ | refine c_cond_t rfl ?_ | refine c_cond_f rfl ?_) | ((with_reducible apply ops_pure); rfl; (simp (disch := (first | omega | assumption | ((repeat' with_reducible apply And.intro) <;> first | omega | assumption | rfl | (apply Or.inl; rfl) | (apply Or.inr; first | rfl | trivial | fail) | fail) | fail)) only [go_sem, if_pos, if_neg, wrapI, wrapU, decide_eq_true, decide_eq_false, beqT, beqF, bneT, bneF, hm, hm2, hm3, hm4, hm5] <;> rfl); simp only [go_sem]) | ((with_reducible apply ops_pureF); rfl; (intro _; simp (disch := (first | omega | assumption | ((repeat' with_reducible apply And.intro) <;> first | omega | assumption | rfl | (apply Or.inl; rfl) | (apply Or.inr; first | rfl | trivial | fail) | fail) | fail)) only [go_sem, if_pos, if_neg, wrapI, wrapU, decide_eq_true, decide_eq_false, beqT, beqF, bneT, bneF, hm, hm2, hm3, hm4, hm5] <;> rfl); simp only [go_sem]) | ((with_reducible apply ops_pureD); kernel_rfl; rfl; (simp (disch := (first | omega | assumption | ((repeat' with_reducible apply And.intro) <;> first | omega | assumption | rfl | (apply Or.inl; rfl) | (apply Or.inr; first | rfl | trivial | fail) | fail) | fail)) only [go_sem, if_pos, if_neg, wrapI, wrapU, decide_eq_true, decide_eq_false, beqT, beqF, bneT, bneF, hm, hm2, hm3, hm4, hm5] <;> rfl); simp only [go_sem]) | ((with_reducible apply ops_skip); rfl; simp only [go_sem]) | ((with_reducible apply c_regionD); kernel_rfl) | ((first | ((with_reducible apply ops_eff); decide) | (with_reducible apply ops_lit)); rfl; (simp (disch := (first | omega | assumption | ((repeat' with_reducible apply And.intro) <;> first | omega | assumption | rfl | (apply Or.inl; rfl) | (apply Or.inr; first | rfl | trivial | fail) | fail) | fail)) only [go_sem, if_pos, if_neg, wrapI, wrapU, decide_eq_true, decide_eq_false, beqT, beqF, bneT, bneF, hm, hm2, hm3, hm4, hm5] <;> rfl); simp only [go_sem])); (repeat (first | with_reducible (first | refine c_seq ?_ | refine c_block ?_ | refine c_region ?_ | refine c_skip ?_ | refine c_exit ?_ | refine c_ret ?_ | refine then_normal ?_ | refine then_exit ?_ | refine then_ret ?_ | refine block_normal ?_ | refine block_here ?_ | refine block_ret ?_ | refine block_far (by decide) ?_ | refine ops_nil ?_ | refine c_cond_t rfl ?_ | refine c_cond_f rfl ?_) | ((with_reducible apply ops_pure); rfl; (simp (disch := (first | omega | assumption | ((repeat' with_reducible apply And.intro) <;> first | omega | assumption | rfl | (apply Or.inl; rfl) | (apply Or.inr; first | rfl | trivial | fail) | fail) | fail)) only [go_sem, if_pos, if_neg, wrapI, wrapU, decide_eq_true, decide_eq_false, beqT, beqF, bneT, bneF, hm, hm2, hm3, hm4, hm5] <;> rfl); simp only [go_sem]) | ((with_reducible apply ops_pureF); rfl; (intro _; simp (disch := (first | omega | assumption | ((repeat' with_reducible apply And.intro) <;> first | omega | assumption | rfl | (apply Or.inl; rfl) | (apply Or.inr; first | rfl | trivial | fail) | fail) | fail)) only [go_sem, if_pos, if_neg, wrapI, wrapU, decide_eq_true, decide_eq_false, beqT, beqF, bneT, bneF, hm, hm2, hm3, hm4, hm5] <;> rfl); simp only [go_sem]) | ((with_reducible apply ops_pureD); kernel_rfl; rfl; (simp (disch := (first | omega | assumption | ((repeat' with_reducible apply And.intro) <;> first | omega | assumption | rfl | (apply Or.inl; rfl) | (apply Or.inr; first | rfl | trivial | fail) | fail) | fail)) only [go_sem, if_pos, if_neg, wrapI, wrapU, decide_eq_true, decide_eq_false, beqT, beqF, bneT, bneF, hm, hm2, hm3, hm4, hm5] <;> rfl); simp only [go_sem]) | ((with_reducible apply ops_skip); rfl; simp only [go_sem]) | ((with_reducible apply c_regionD); kernel_rfl) | ((first | ((with_reducible apply ops_eff); decide) | (with_reducible apply ops_lit)); rfl; (simp (disch := (first | omega | assumption | ((repeat' with_reducible apply And.intro) <;> first | omega | assumption | rfl | (apply Or.inl; rfl) | (apply Or.inr; first | rfl | trivial | fail) | fail) | fail)) only [go_sem, if_pos, if_neg, wrapI, wrapU, decide_eq_true, decide_eq_false, beqT, beqF, bneT, bneF, hm, hm2, hm3, hm4, hm5] <;> rfl); simp only [go_sem]))); exact k.get)) : p := h k
theorem lfgoX {p q : Prop} (k : Later q) (h : Later q → p := by (intro k; (first | with_reducible (first | refine c_seq ?_ | refine c_block ?_ | refine c_skip ?_ | refine c_exit ?_ | refine c_ret ?_ | refine then_normal ?_ | refine then_exit ?_ | refine then_ret ?_ | refine block_normal ?_ | refine block_here ?_ | refine block_ret ?_ | refine block_far (by decide) ?_ | refine ops_nil ?_ | refine c_cond_t rfl ?_ | refine c_cond_f rfl ?_) | ((with_reducible apply ops_pure); rfl; (simp (disch := (first | omega | assumption | ((repeat' with_reducible apply And.intro) <;> first | omega | assumption | rfl | (apply Or.inl; rfl) | (apply Or.inr; first | rfl | trivial | fail) | fail) | fail)) only [go_sem, if_pos, if_neg, wrapI, wrapU, decide_eq_true, decide_eq_false, beqT, beqF, bneT, bneF, hm, hm2, hm3, hm4, hm5] <;> rfl); simp only [go_sem]) | ((with_reducible apply ops_pureF); rfl; (intro _; simp (disch := (first | omega | assumption | ((repeat' with_reducible apply And.intro) <;> first | omega | assumption | rfl | (apply Or.inl; rfl) | (apply Or.inr; first | rfl | trivial | fail) | fail) | fail)) only [go_sem, if_pos, if_neg, wrapI, wrapU, decide_eq_true, decide_eq_false, beqT, beqF, bneT, bneF, hm, hm2, hm3, hm4, hm5] <;> rfl); simp only [go_sem]) | ((with_reducible apply ops_pureD); kernel_rfl; rfl; (simp (disch := (first | omega | assumption | ((repeat' with_reducible apply And.intro) <;> first | omega | assumption | rfl | (apply Or.inl; rfl) | (apply Or.inr; first | rfl | trivial | fail) | fail) | fail)) only [go_sem, if_pos, if_neg, wrapI, wrapU, decide_eq_true, decide_eq_false, beqT, beqF, bneT, bneF, hm, hm2, hm3, hm4, hm5] <;> rfl); simp only [go_sem]) | ((with_reducible apply ops_skip); rfl; simp only [go_sem]) | ((with_reducible apply c_regionD); kernel_rfl) | ((first | ((with_reducible apply ops_eff); decide) | (with_reducible apply ops_lit)); rfl; (simp (disch := (first | omega | assumption | ((repeat' with_reducible apply And.intro) <;> first | omega | assumption | rfl | (apply Or.inl; rfl) | (apply Or.inr; first | rfl | trivial | fail) | fail) | fail)) only [go_sem, if_pos, if_neg, wrapI, wrapU, decide_eq_true, decide_eq_false, beqT, beqF, bneT, bneF, hm, hm2, hm3, hm4, hm5] <;> rfl); simp only [go_sem])); (repeat (first | with_reducible (first | refine c_seq ?_ | refine c_block ?_ | refine c_skip ?_ | refine c_exit ?_ | refine c_ret ?_ | refine then_normal ?_ | refine then_exit ?_ | refine then_ret ?_ | refine block_normal ?_ | refine block_here ?_ | refine block_ret ?_ | refine block_far (by decide) ?_ | refine ops_nil ?_ | refine c_cond_t rfl ?_ | refine c_cond_f rfl ?_) | ((with_reducible apply ops_pure); rfl; (simp (disch := (first | omega | assumption | ((repeat' with_reducible apply And.intro) <;> first | omega | assumption | rfl | (apply Or.inl; rfl) | (apply Or.inr; first | rfl | trivial | fail) | fail) | fail)) only [go_sem, if_pos, if_neg, wrapI, wrapU, decide_eq_true, decide_eq_false, beqT, beqF, bneT, bneF, hm, hm2, hm3, hm4, hm5] <;> rfl); simp only [go_sem]) | ((with_reducible apply ops_pureF); rfl; (intro _; simp (disch := (first | omega | assumption | ((repeat' with_reducible apply And.intro) <;> first | omega | assumption | rfl | (apply Or.inl; rfl) | (apply Or.inr; first | rfl | trivial | fail) | fail) | fail)) only [go_sem, if_pos, if_neg, wrapI, wrapU, decide_eq_true, decide_eq_false, beqT, beqF, bneT, bneF, hm, hm2, hm3, hm4, hm5] <;> rfl); simp only [go_sem]) | ((with_reducible apply ops_pureD); kernel_rfl; rfl; (simp (disch := (first | omega | assumption | ((repeat' with_reducible apply And.intro) <;> first | omega | assumption | rfl | (apply Or.inl; rfl) | (apply Or.inr; first | rfl | trivial | fail) | fail) | fail)) only [go_sem, if_pos, if_neg, wrapI, wrapU, decide_eq_true, decide_eq_false, beqT, beqF, bneT, bneF, hm, hm2, hm3, hm4, hm5] <;> rfl); simp only [go_sem]) | ((with_reducible apply ops_skip); rfl; simp only [go_sem]) | ((with_reducible apply c_regionD); kernel_rfl) | ((first | ((with_reducible apply ops_eff); decide) | (with_reducible apply ops_lit)); rfl; (simp (disch := (first | omega | assumption | ((repeat' with_reducible apply And.intro) <;> first | omega | assumption | rfl | (apply Or.inl; rfl) | (apply Or.inr; first | rfl | trivial | fail) | fail) | fail)) only [go_sem, if_pos, if_neg, wrapI, wrapU, decide_eq_true, decide_eq_false, beqT, beqF, bneT, bneF, hm, hm2, hm3, hm4, hm5] <;> rfl); simp only [go_sem]))); exact k.get)) : p := h k
theorem lfsv {p : Prop} (h : p := by simp (disch := (first | omega | assumption | ((repeat' with_reducible apply And.intro) <;> first | omega | assumption | rfl | (apply Or.inl; rfl) | (apply Or.inr; first | rfl | trivial | fail) | fail) | fail)) only [go_sem, if_pos, if_neg, wrapI, wrapU, decide_eq_true, decide_eq_false, beqT, beqF, bneT, bneF, hm, hm2, hm3, hm4, hm5] <;> rfl) : p := h
theorem lfcall {T : Tab} {X : CallP} {n0 lo : Nat} {wt : List Tmp} {draw : Bool} {ops : Array Oper} {Q : St → Prop} {rest : List Oper} {o : Oper} {env : List D} {sto : Sto} {f : FuncId} {args : List D} (k : ∃ r, X f args sto (if draw then sto.length else lo) r sto ∧ EvOps T X n0 lo wt draw ops Q rest (St.put ⟨env, sto⟩ o.dst r)) (hg : guardD ops o env = some true := by rfl) (h : evCallee (opd env) sto o = some (f, args) := by simp (disch := (first | omega | assumption | ((repeat' with_reducible apply And.intro) <;> first | omega | assumption | rfl | (apply Or.inl; rfl) | (apply Or.inr; first | rfl | trivial | fail) | fail) | fail)) only [go_sem, if_pos, if_neg, wrapI, wrapU, decide_eq_true, decide_eq_false, beqT, beqF, bneT, bneF, hm, hm2, hm3, hm4, hm5] <;> rfl) : EvOps T X n0 lo wt draw ops Q (o :: rest) ⟨env, sto⟩ := k.elim fun _ k => ops_call hg h k.1 k.2
theorem wrap8 (x : UInt8) : IntKind.i64.wrap (x.toNat : Int) = x.toNat := by
  have := x.toNat_lt
  exact wrapI ⟨by omega, by omega⟩
attribute [local go_sem] strF bs_get tdiv8 tmod8 wrap8
theorem rots_ev (n : Int) (l : List OpS) (hl : ∀ o ∈ l, o.ok) (hll : l.length < 9223372036854775808) (t c : Int) (htb : Big t) (hcb : Big c) (sto : Sto) (lo : Nat) (hlo : lo ≤ sto.length) : CD 6 [.v (VI n), .v (OPL l), .v (VI t), .v (VI c)] sto lo (.v (.bool true)) sto := by
  have hm : True := trivial
  have hm2 := hm
  have hm3 := hm
  have hm4 := hm
  have hm5 := hm
  have hsan := sanity_ev sto lo hlo
  have hcl := lenO l
  have hcg := fun i hi => cellsO l (i := i) hi
  rw [OPL]
  generalize (l.map OpS.cells).flatten = C at *
  refine CallEv.intro ⟨_, _, [], Try.func6, rfl, by decide, ?_⟩; simp only [go_sem, Try.ntmps6]
  (try refine lfgo ⟨?_⟩)
  ((refine lfcall ?_); (refine ⟨_, hsan, ?_⟩); (try simp only [go_sem]))
  (try refine lfgo ⟨?_⟩)
  clear hsan
  by_cases hn : n < 1 ∨ n > 64
  · ((refine lfcall ?_); (refine ⟨_, start_bad n hn sto lo hlo, ?_⟩); (try simp only [go_sem]))
    rcases hn with hn | hn
    · (try refine lfgo ⟨?_⟩)
      refine ⟨by first | exact .inr rfl | exact .inl rfl, .inl ⟨[], _, (by dsimp only [Try.f6]; exact lfsv), ?_, by simp⟩⟩
      rfl
    · by_cases hn1 : n < 1
      · (try refine lfgo ⟨?_⟩)
        refine ⟨by first | exact .inr rfl | exact .inl rfl, .inl ⟨[], _, (by dsimp only [Try.f6]; exact lfsv), ?_, by simp⟩⟩
        rfl
      · (try refine lfgo ⟨?_⟩)
        refine ⟨by first | exact .inr rfl | exact .inl rfl, .inl ⟨[], _, (by dsimp only [Try.f6]; exact lfsv), ?_, by simp⟩⟩
        rfl
  obtain ⟨m, rfl⟩ : ∃ m : Nat, n = m := ⟨n.toNat, by omega⟩
  have h0 : 0 < m := by omega
  have h64 : m ≤ 64 := by omega
  clear hn
  refine ops_callW rfl (by exact lfsv) (start_ev m h0 h64 sto lo hlo) ho_st0 ?_
  simp only [go_sem]
  by_cases h60 : l.length > 60
  · (try refine lfgo ⟨?_⟩)
    refine ⟨by first | exact .inr rfl | exact .inl rfl, .inl ⟨[], _, (by dsimp only [Try.f6]; exact lfsv), ?_, ?_⟩⟩
    · rfl
    · exact st2_take
  (try refine lfgo ⟨?_⟩)
  obtain ⟨R0, hR0⟩ : ∃ R0, R0 = newRK m := ⟨_, rfl⟩
  rw [← hR0]
  refine c_loop (fun g s => ∃ (i : Nat) (D : DK) (R : RK), (i ≤ l.length ∧ g = l.length - i ∧ Rel D R ∧ D.bl.length = m) ∧ (s.env.length = 210 ∧ s.sto = st2 sto D R0 ∧ s.env[0]? = some (.v (VI m)) ∧ s.env[1]? = some (.v (.sl l.length C)) ∧ s.env[2]? = some (.v (VI t)) ∧ s.env[3]? = some (.v (VI c)) ∧ s.env[9]? = some (.v (.bool true)) ∧ s.env[10]? = some (.ptr (sto.length + 3) 0) ∧ s.env[12]? = some (.v (.bool true)) ∧ s.env[13]? = some (.v (VI i)))) (.refl _) ⟨0, newD m, newRK m, ⟨by omega, rfl, rel_new h0 (by omega), by simp [newD]⟩, rfl, rfl, ?_, ?_, ?_, ?_, ?_, ?_, ?_, ?_⟩ ?_
  all_goals first | rfl | (rw [hR0]; rfl) | skip
  clear hR0
  rintro g s ⟨i, D, R, ⟨h1, rfl, hrel, hbl⟩, hL, hT, k0, k1, k2, k3, k9, k10, k12, k13⟩
  obtain ⟨env, st0⟩ := s; obtain ⟨J, hJ⟩ := listJ hL; rw [show (List.range 210).map J = J 0 :: J 1 :: J 2 :: J 3 :: J 4 :: J 5 :: J 6 :: J 7 :: J 8 :: J 9 :: J 10 :: J 11 :: J 12 :: J 13 :: J 14 :: J 15 :: J 16 :: J 17 :: J 18 :: J 19 :: J 20 :: J 21 :: J 22 :: J 23 :: J 24 :: J 25 :: J 26 :: J 27 :: J 28 :: J 29 :: J 30 :: J 31 :: J 32 :: J 33 :: J 34 :: J 35 :: J 36 :: J 37 :: J 38 :: J 39 :: J 40 :: J 41 :: J 42 :: J 43 :: J 44 :: J 45 :: J 46 :: J 47 :: J 48 :: J 49 :: J 50 :: J 51 :: J 52 :: J 53 :: J 54 :: J 55 :: J 56 :: J 57 :: J 58 :: J 59 :: J 60 :: J 61 :: J 62 :: J 63 :: J 64 :: J 65 :: J 66 :: J 67 :: J 68 :: J 69 :: J 70 :: J 71 :: J 72 :: J 73 :: J 74 :: J 75 :: J 76 :: J 77 :: J 78 :: J 79 :: J 80 :: J 81 :: J 82 :: J 83 :: J 84 :: J 85 :: J 86 :: J 87 :: J 88 :: J 89 :: J 90 :: J 91 :: J 92 :: J 93 :: J 94 :: J 95 :: J 96 :: J 97 :: J 98 :: J 99 :: J 100 :: J 101 :: J 102 :: J 103 :: J 104 :: J 105 :: J 106 :: J 107 :: J 108 :: J 109 :: J 110 :: J 111 :: J 112 :: J 113 :: J 114 :: J 115 :: J 116 :: J 117 :: J 118 :: J 119 :: J 120 :: J 121 :: J 122 :: J 123 :: J 124 :: J 125 :: J 126 :: J 127 :: J 128 :: J 129 :: J 130 :: J 131 :: J 132 :: J 133 :: J 134 :: J 135 :: J 136 :: J 137 :: J 138 :: J 139 :: J 140 :: J 141 :: J 142 :: J 143 :: J 144 :: J 145 :: J 146 :: J 147 :: J 148 :: J 149 :: J 150 :: J 151 :: J 152 :: J 153 :: J 154 :: J 155 :: J 156 :: J 157 :: J 158 :: J 159 :: J 160 :: J 161 :: J 162 :: J 163 :: J 164 :: J 165 :: J 166 :: J 167 :: J 168 :: J 169 :: J 170 :: J 171 :: J 172 :: J 173 :: J 174 :: J 175 :: J 176 :: J 177 :: J 178 :: J 179 :: J 180 :: J 181 :: J 182 :: J 183 :: J 184 :: J 185 :: J 186 :: J 187 :: J 188 :: J 189 :: J 190 :: J 191 :: J 192 :: J 193 :: J 194 :: J 195 :: J 196 :: J 197 :: J 198 :: J 199 :: J 200 :: J 201 :: J 202 :: J 203 :: J 204 :: J 205 :: J 206 :: J 207 :: J 208 :: J 209 :: [] from by kernel_rfl] at hJ; replace k0 := Option.some.inj ((congrArg (·[0]?) hJ).symm.trans k0); replace k1 := Option.some.inj ((congrArg (·[1]?) hJ).symm.trans k1); replace k2 := Option.some.inj ((congrArg (·[2]?) hJ).symm.trans k2); replace k3 := Option.some.inj ((congrArg (·[3]?) hJ).symm.trans k3); replace k9 := Option.some.inj ((congrArg (·[9]?) hJ).symm.trans k9); replace k10 := Option.some.inj ((congrArg (·[10]?) hJ).symm.trans k10); replace k12 := Option.some.inj ((congrArg (·[12]?) hJ).symm.trans k12); replace k13 := Option.some.inj ((congrArg (·[13]?) hJ).symm.trans k13); rw [k0, k1, k2, k3, k9, k10, k12, k13] at hJ; dsimp only at hJ hT; subst hJ; replace hT := hT.symm; subst hT; clear hL k0 k1 k2 k3 k9 k10 k12 k13
  by_cases hb : i < l.length
  · have hm := hcg i hb
    have ho := hl _ (List.getElem_mem hb)
    clear hl hcg
    have c1 := do_ev D hrel.dok l[i] ho sto.length
    have hbl2 := do_len hrel.dok l[i]
    rw [hbl] at hbl2
    obtain ⟨e1, e2⟩ := rel_do hrel l[i] ho
    clear e1 hrel
    generalize (doS D l[i]).2 = r at *
    generalize (doS D l[i]).1 = D1 at *
    obtain ⟨ra, re⟩ := r
    dsimp only at c1
    (try refine lfgo ⟨?_⟩)
    refine ops_callW rfl (by exact lfsv) (DiskW.s2 c1 hlo) ho_st2 ?_; simp only [go_sem]
    (try refine lfgo ⟨?_⟩)
    refine ⟨_, _, ?_, .refl _, i + 1, D1, _, ⟨by omega, rfl, e2, hbl2⟩, rfl, rfl, ?_, ?_, ?_, ?_, ?_, ?_, ?_, ?_⟩
    · omega
    all_goals rfl
  clear hl hcg hcl
  have hok := hrel.dok
  clear hrel
  have c1 := image_ev D hok sto.length
  have c2 := rot_ev D hok t c hcb sto.length
  by_cases hbad : t < 0 ∨ t ≥ D.bl.length ∨ c < 0 ∨ c ≥ 512
  · rw [rot_bad hbad] at c2
    dsimp only at c2
    have st := sameTexts_ev D.bl D.bl (by omega) (by omega) (st2 sto D R0) lo (by rw [st2_len]; omega)
    rw [decide_eq_true rfl] at st
    generalize hX : D.bl = X at *
    (try refine lfgo ⟨?_⟩)
    refine ops_call rfl (by exact lfsv) (DiskR.s2 c1 hlo) ?_; simp only [go_sem]
    (try refine lfgo ⟨?_⟩)
    refine ops_callW rfl (by exact lfsv) (DiskW.s2 c2 hlo) ho_st2 ?_; simp only [go_sem]
    (try refine lfgo ⟨?_⟩)
    refine ops_call rfl (by exact lfsv) (DiskR.s2 c1 hlo) ?_; simp only [go_sem]
    (try refine lfgo ⟨?_⟩)
    refine ops_callW rfl (by exact lfsv) (DiskW.s2 c2 hlo) ho_st2 ?_; simp only [go_sem]
    (try refine lfgo ⟨?_⟩)
    refine ops_call rfl (by exact lfsv) (DiskR.s2 c1 hlo) ?_; simp only [go_sem]
    (try refine lfgo ⟨?_⟩)
    ((refine lfcall ?_); (refine ⟨_, st, ?_⟩); (try simp only [go_sem]))
    clear c1 c2 st hX
    by_cases q1 : t < 0
    · (try refine lfgo ⟨?_⟩)
      refine ⟨by first | exact .inr rfl | exact .inl rfl, .inl ⟨[], _, (by dsimp only [Try.f6]; exact lfsv), ?_, ?_⟩⟩
      · rfl
      · exact st2_take
    by_cases q2 : t ≥ m
    · (try refine lfgo ⟨?_⟩)
      refine ⟨by first | exact .inr rfl | exact .inl rfl, .inl ⟨[], _, (by dsimp only [Try.f6]; exact lfsv), ?_, ?_⟩⟩
      · rfl
      · exact st2_take
    by_cases q3 : c < 0
    · (try refine lfgo ⟨?_⟩)
      refine ⟨by first | exact .inr rfl | exact .inl rfl, .inl ⟨[], _, (by dsimp only [Try.f6]; exact lfsv), ?_, ?_⟩⟩
      · rfl
      · exact st2_take
    have q4 : c > 511 := by omega
    (try refine lfgo ⟨?_⟩)
    refine ⟨by first | exact .inr rfl | exact .inl rfl, .inl ⟨[], _, (by dsimp only [Try.f6]; exact lfsv), ?_, ?_⟩⟩
    · rfl
    · exact st2_take
  obtain ⟨t, rfl⟩ := Int.eq_ofNat_of_zero_le (by omega : 0 ≤ t)
  obtain ⟨c, rfl⟩ := Int.eq_ofNat_of_zero_le (by omega : 0 ≤ c)
  have ht : t < D.bl.length := by omega
  have hc : c < 512 := by omega
  clear hbad htb hcb
  have hok1 := rot_ok hok t c
  obtain ⟨k1, k2, k3, k4⟩ := rot_twice hok ht hc
  have c3 := image_ev (rotS D t c).1 hok1 sto.length
  have c4 := rot_ev (rotS D t c).1 hok1 t c (by simp [Big]; omega) sto.length
  have c5 := image_ev (rotS (rotS D t c).1 t c).1 (rot_ok hok1 t c) sto.length
  have h64s := hok.1
  rw [k1] at c2
  rw [k2] at c3
  rw [k3] at c4
  rw [k4] at c5
  clear hok hok1 k1 k2 k3 k4
  generalize (rotS (rotS D t c).1 t c).1 = D2 at *
  generalize (rotS D t c).1 = D1 at *
  have hYl : (D.bl.set t (rotB D.bl[t] c)).length = m := by simp [hbl]
  have hYt : (D.bl.set t (rotB D.bl[t] c))[t]? = some (rotB D.bl[t] c) := List.getElem?_set_self ht
  have hYn : ∀ i, i ≠ t → (D.bl.set t (rotB D.bl[t] c))[i]? = D.bl[i]? := fun i hi => List.getElem?_set_ne (fun e => hi e.symm)
  have hA := h64s _ (List.getElem_mem ht)
  have hAt : D.bl[t]? = some D.bl[t] := List.getElem?_eq_getElem ht
  have st := sameTexts_ev D.bl D.bl (by omega) (by omega) (st2 sto D2 R0) lo (by rw [st2_len]; omega)
  rw [decide_eq_true rfl] at st
  generalize D.bl.set t (rotB D.bl[t] c) = Y at *
  generalize D.bl[t] = A at *
  generalize hX : D.bl = X at *
  (try refine lfgo ⟨?_⟩)
  refine ops_call rfl (by exact lfsv) (DiskR.s2 c1 hlo) ?_; simp only [go_sem]
  (try refine lfgo ⟨?_⟩)
  refine ops_callW rfl (by exact lfsv) (DiskW.s2 c2 hlo) ho_st2 ?_; simp only [go_sem]
  (try refine lfgo ⟨?_⟩)
  refine ops_call rfl (by exact lfsv) (DiskR.s2 c3 hlo) ?_; simp only [go_sem]
  (try refine lfgo ⟨?_⟩)
  refine ops_callW rfl (by exact lfsv) (DiskW.s2 c4 hlo) ho_st2 ?_; simp only [go_sem]
  (try refine lfgo ⟨?_⟩)
  refine ops_call rfl (by exact lfsv) (DiskR.s2 c5 hlo) ?_; simp only [go_sem]
  (try refine lfgo ⟨?_⟩)
  ((refine lfcall ?_); (refine ⟨_, st, ?_⟩); (try simp only [go_sem]))
  clear c1 c2 c3 c4 c5 st hX
  have hT3 := @st2_take sto D2 R0
  generalize st2 sto D2 R0 = T at *
  (try refine lfgo ⟨?_⟩)
  refine c_loop (fun g s => ∃ (i : Nat), (i ≤ m ∧ g = m - i) ∧ (s.env.length = 210 ∧ s.sto = T ∧ s.env[0]? = some (.v (VI m)) ∧ s.env[2]? = some (.v (VI t)) ∧ s.env[3]? = some (.v (VI c)) ∧ s.env[9]? = some (.v (.bool true)) ∧ s.env[14]? = some (.v (LB X)) ∧ s.env[16]? = some (.v (LB Y)) ∧ s.env[19]? = some (.v (VI i)))) (.refl _) ⟨0, ⟨by omega, rfl⟩, rfl, rfl, ?_, ?_, ?_, ?_, ?_, ?_, ?_⟩ ?_
  all_goals first | rfl | skip
  rintro g s ⟨i, ⟨h1, rfl⟩, hL, hT, k0, k2, k3, k9, k14, k16, k19⟩
  obtain ⟨env, st0⟩ := s; obtain ⟨J, hJ⟩ := listJ hL; rw [show (List.range 210).map J = J 0 :: J 1 :: J 2 :: J 3 :: J 4 :: J 5 :: J 6 :: J 7 :: J 8 :: J 9 :: J 10 :: J 11 :: J 12 :: J 13 :: J 14 :: J 15 :: J 16 :: J 17 :: J 18 :: J 19 :: J 20 :: J 21 :: J 22 :: J 23 :: J 24 :: J 25 :: J 26 :: J 27 :: J 28 :: J 29 :: J 30 :: J 31 :: J 32 :: J 33 :: J 34 :: J 35 :: J 36 :: J 37 :: J 38 :: J 39 :: J 40 :: J 41 :: J 42 :: J 43 :: J 44 :: J 45 :: J 46 :: J 47 :: J 48 :: J 49 :: J 50 :: J 51 :: J 52 :: J 53 :: J 54 :: J 55 :: J 56 :: J 57 :: J 58 :: J 59 :: J 60 :: J 61 :: J 62 :: J 63 :: J 64 :: J 65 :: J 66 :: J 67 :: J 68 :: J 69 :: J 70 :: J 71 :: J 72 :: J 73 :: J 74 :: J 75 :: J 76 :: J 77 :: J 78 :: J 79 :: J 80 :: J 81 :: J 82 :: J 83 :: J 84 :: J 85 :: J 86 :: J 87 :: J 88 :: J 89 :: J 90 :: J 91 :: J 92 :: J 93 :: J 94 :: J 95 :: J 96 :: J 97 :: J 98 :: J 99 :: J 100 :: J 101 :: J 102 :: J 103 :: J 104 :: J 105 :: J 106 :: J 107 :: J 108 :: J 109 :: J 110 :: J 111 :: J 112 :: J 113 :: J 114 :: J 115 :: J 116 :: J 117 :: J 118 :: J 119 :: J 120 :: J 121 :: J 122 :: J 123 :: J 124 :: J 125 :: J 126 :: J 127 :: J 128 :: J 129 :: J 130 :: J 131 :: J 132 :: J 133 :: J 134 :: J 135 :: J 136 :: J 137 :: J 138 :: J 139 :: J 140 :: J 141 :: J 142 :: J 143 :: J 144 :: J 145 :: J 146 :: J 147 :: J 148 :: J 149 :: J 150 :: J 151 :: J 152 :: J 153 :: J 154 :: J 155 :: J 156 :: J 157 :: J 158 :: J 159 :: J 160 :: J 161 :: J 162 :: J 163 :: J 164 :: J 165 :: J 166 :: J 167 :: J 168 :: J 169 :: J 170 :: J 171 :: J 172 :: J 173 :: J 174 :: J 175 :: J 176 :: J 177 :: J 178 :: J 179 :: J 180 :: J 181 :: J 182 :: J 183 :: J 184 :: J 185 :: J 186 :: J 187 :: J 188 :: J 189 :: J 190 :: J 191 :: J 192 :: J 193 :: J 194 :: J 195 :: J 196 :: J 197 :: J 198 :: J 199 :: J 200 :: J 201 :: J 202 :: J 203 :: J 204 :: J 205 :: J 206 :: J 207 :: J 208 :: J 209 :: [] from by kernel_rfl] at hJ; replace k0 := Option.some.inj ((congrArg (·[0]?) hJ).symm.trans k0); replace k2 := Option.some.inj ((congrArg (·[2]?) hJ).symm.trans k2); replace k3 := Option.some.inj ((congrArg (·[3]?) hJ).symm.trans k3); replace k9 := Option.some.inj ((congrArg (·[9]?) hJ).symm.trans k9); replace k14 := Option.some.inj ((congrArg (·[14]?) hJ).symm.trans k14); replace k16 := Option.some.inj ((congrArg (·[16]?) hJ).symm.trans k16); replace k19 := Option.some.inj ((congrArg (·[19]?) hJ).symm.trans k19); rw [k0, k2, k3, k9, k14, k16, k19] at hJ; dsimp only at hJ hT; subst hJ; replace hT := hT.symm; subst hT; clear hL k0 k2 k3 k9 k14 k16 k19
  by_cases hb : i < m
  · have hXi : X[i]? = some X[i] := List.getElem?_eq_getElem (by omega)
    have hYi : Y[i]? = some Y[i] := List.getElem?_eq_getElem (by omega)
    by_cases e : i = t
    · subst e
      rw [hAt] at hXi
      rw [hYt] at hYi
      simp only [Option.some.injEq] at hXi hYi
      have hm := hXi.symm
      have hm2 := hYi.symm
      have hm3 : (rotB A c).length = 64 := by rw [rotB_len]; exact hA
      have hne := rotB_ne hA hc
      (try refine lfgo ⟨?_⟩)
      refine ⟨_, _, ?_, .refl _, i + 1, ⟨by omega, rfl⟩, rfl, rfl, ?_, ?_, ?_, ?_, ?_, ?_, ?_⟩
      · omega
      all_goals rfl
    · rw [hYn i e, hXi] at hYi
      simp only [Option.some.injEq] at hYi
      have hm := hYi.symm
      have hm3 := h64s _ (List.getElem_mem (l := X) (n := i) (by omega))
      (try refine lfgo ⟨?_⟩)
      refine ⟨_, _, ?_, .refl _, i + 1, ⟨by omega, rfl⟩, rfl, rfl, ?_, ?_, ?_, ?_, ?_, ?_, ?_⟩
      · omega
      all_goals rfl
  (try refine lfgo ⟨?_⟩)
  refine c_loop (fun g s => ∃ (i : Nat), (i ≤ 64 ∧ g = 64 - i) ∧ (s.env.length = 210 ∧ s.sto = T ∧ s.env[0]? = some (.v (VI m)) ∧ s.env[2]? = some (.v (VI t)) ∧ s.env[3]? = some (.v (VI c)) ∧ s.env[9]? = some (.v (.bool true)) ∧ s.env[14]? = some (.v (LB X)) ∧ s.env[16]? = some (.v (LB Y)) ∧ s.env[20]? = some (.v (VI i)))) (.refl _) ⟨0, ⟨by omega, rfl⟩, rfl, rfl, ?_, ?_, ?_, ?_, ?_, ?_, ?_⟩ ?_
  all_goals first | rfl | skip
  rintro g s ⟨i, ⟨h1, rfl⟩, hL, hT, k0, k2, k3, k9, k14, k16, k20⟩
  obtain ⟨env, st0⟩ := s; obtain ⟨J, hJ⟩ := listJ hL; rw [show (List.range 210).map J = J 0 :: J 1 :: J 2 :: J 3 :: J 4 :: J 5 :: J 6 :: J 7 :: J 8 :: J 9 :: J 10 :: J 11 :: J 12 :: J 13 :: J 14 :: J 15 :: J 16 :: J 17 :: J 18 :: J 19 :: J 20 :: J 21 :: J 22 :: J 23 :: J 24 :: J 25 :: J 26 :: J 27 :: J 28 :: J 29 :: J 30 :: J 31 :: J 32 :: J 33 :: J 34 :: J 35 :: J 36 :: J 37 :: J 38 :: J 39 :: J 40 :: J 41 :: J 42 :: J 43 :: J 44 :: J 45 :: J 46 :: J 47 :: J 48 :: J 49 :: J 50 :: J 51 :: J 52 :: J 53 :: J 54 :: J 55 :: J 56 :: J 57 :: J 58 :: J 59 :: J 60 :: J 61 :: J 62 :: J 63 :: J 64 :: J 65 :: J 66 :: J 67 :: J 68 :: J 69 :: J 70 :: J 71 :: J 72 :: J 73 :: J 74 :: J 75 :: J 76 :: J 77 :: J 78 :: J 79 :: J 80 :: J 81 :: J 82 :: J 83 :: J 84 :: J 85 :: J 86 :: J 87 :: J 88 :: J 89 :: J 90 :: J 91 :: J 92 :: J 93 :: J 94 :: J 95 :: J 96 :: J 97 :: J 98 :: J 99 :: J 100 :: J 101 :: J 102 :: J 103 :: J 104 :: J 105 :: J 106 :: J 107 :: J 108 :: J 109 :: J 110 :: J 111 :: J 112 :: J 113 :: J 114 :: J 115 :: J 116 :: J 117 :: J 118 :: J 119 :: J 120 :: J 121 :: J 122 :: J 123 :: J 124 :: J 125 :: J 126 :: J 127 :: J 128 :: J 129 :: J 130 :: J 131 :: J 132 :: J 133 :: J 134 :: J 135 :: J 136 :: J 137 :: J 138 :: J 139 :: J 140 :: J 141 :: J 142 :: J 143 :: J 144 :: J 145 :: J 146 :: J 147 :: J 148 :: J 149 :: J 150 :: J 151 :: J 152 :: J 153 :: J 154 :: J 155 :: J 156 :: J 157 :: J 158 :: J 159 :: J 160 :: J 161 :: J 162 :: J 163 :: J 164 :: J 165 :: J 166 :: J 167 :: J 168 :: J 169 :: J 170 :: J 171 :: J 172 :: J 173 :: J 174 :: J 175 :: J 176 :: J 177 :: J 178 :: J 179 :: J 180 :: J 181 :: J 182 :: J 183 :: J 184 :: J 185 :: J 186 :: J 187 :: J 188 :: J 189 :: J 190 :: J 191 :: J 192 :: J 193 :: J 194 :: J 195 :: J 196 :: J 197 :: J 198 :: J 199 :: J 200 :: J 201 :: J 202 :: J 203 :: J 204 :: J 205 :: J 206 :: J 207 :: J 208 :: J 209 :: [] from by kernel_rfl] at hJ; replace k0 := Option.some.inj ((congrArg (·[0]?) hJ).symm.trans k0); replace k2 := Option.some.inj ((congrArg (·[2]?) hJ).symm.trans k2); replace k3 := Option.some.inj ((congrArg (·[3]?) hJ).symm.trans k3); replace k9 := Option.some.inj ((congrArg (·[9]?) hJ).symm.trans k9); replace k14 := Option.some.inj ((congrArg (·[14]?) hJ).symm.trans k14); replace k16 := Option.some.inj ((congrArg (·[16]?) hJ).symm.trans k16); replace k20 := Option.some.inj ((congrArg (·[20]?) hJ).symm.trans k20); rw [k0, k2, k3, k9, k14, k16, k20] at hJ; dsimp only at hJ hT; subst hJ; replace hT := hT.symm; subst hT; clear hL k0 k2 k3 k9 k14 k16 k20
  by_cases hb : i < 64
  · have hg := rotB_get hA hc hb
    have hm : X[t]'(by omega) = A := by
      have : X[t]? = some (X[t]'(by omega)) := List.getElem?_eq_getElem _
      rw [hAt] at this
      simpa using this.symm
    have hm2 : Y[t]'(by omega) = rotB A c := by
      have : Y[t]? = some (Y[t]'(by omega)) := List.getElem?_eq_getElem _
      rw [hYt] at this
      simpa using this.symm
    have hm3 : A[i]? = some A[i] := List.getElem?_eq_getElem _
    have hrl : (rotB A c).length = 64 := by rw [rotB_len]; exact hA
    by_cases e : i = c / 8
    · rw [if_pos e] at hg
      have hm4 := hg
      have hm5 := (mask_all A[i] c).2.2
      (try refine lfgo ⟨?_⟩)
      refine ⟨_, _, ?_, .refl _, i + 1, ⟨by omega, rfl⟩, rfl, rfl, ?_, ?_, ?_, ?_, ?_, ?_, ?_⟩
      · omega
      all_goals rfl
    · rw [if_neg e] at hg
      have hm4 := hg
      have hm5 := xor_self8 A[i]
      (try refine lfgo ⟨?_⟩)
      refine ⟨_, _, ?_, .refl _, i + 1, ⟨by omega, rfl⟩, rfl, rfl, ?_, ?_, ?_, ?_, ?_, ?_, ?_⟩
      · omega
      all_goals rfl
  · (try refine lfgo ⟨?_⟩)
    refine ⟨by first | exact .inr rfl | exact .inl rfl, .inl ⟨[], _, (by dsimp only [Try.f6]; exact lfsv), ?_, ?_⟩⟩
    · rfl
    · exact hT3
end Go.Proofs.Ytghdanpigohnjaa
namespace Go.Proofs.Ytghdanpigohnjaa.diskRots
open Go Go.ChangeShapes Go.WideShapes Go.ChangeAt Go.RowKit

set_option maxRecDepth 100000 in
theorem lifted (os : Os) (started : os.Started) (H : Type) (enc : TypeId × Value → H) :
    ReturnsInHanded {} Try.checked os 6 .any (Rows.diskRotsSpec.pre6 enc Try.prog Try.f6 Rows.diskRotsRow.domain false) (Rows.diskRotsSpec.post enc Try.prog Try.f6 false true false false) := by
  refine returnsInHanded_of_change (C := Try.checked) own started (by kernel_rfl) Try.func6
    (ChangeSpec.witness6 (enc := enc) (C := Try.checked) false ⟨#[], #[.int .i64 0, .slice none 0 0, .int .i64 0, .int .i64 0], []⟩ 8 (by kernel_rfl) (by kernel_rfl) (by kernel_rfl) (by kernel_rfl)) ?_
  intro W base args ds gs before hval0 hW hcnd _
  have hval : ∀ (j : Nat) t v, Try.f6.params[j]? = some t → args[j]? = some v → Value.okWide Try.prog W .any base t v := hval0
  have hW' := hW
  obtain ⟨p, q, hA0, hV, rfl, hfz, hnd⟩ := hW
  have hA : DataW.TrodAll enc Try.prog W 0 (fun _ => true) true Try.f6.params.toList args.toList ds p := hA0
  rw [Try.params6] at hA hval
  obtain ⟨v0, vs0, d0, ds0, p0, q0, hargs, rfl, rfl, hd0, r0⟩ := trodAll_cons hA
  obtain ⟨v1, vs1, d1, ds1, p1, q1, rfl, rfl, rfl, hd1, r1⟩ := trodAll_cons r0
  obtain ⟨v2, vs2, d2, ds2, p2, q2, rfl, rfl, rfl, hd2, r2⟩ := trodAll_cons r1
  obtain ⟨v3, vs3, d3, ds3, p3, q3, rfl, rfl, rfl, hd3, r3⟩ := trodAll_cons r2
  obtain ⟨rfl, rfl, rfl⟩ := trodAll_nil r3
  obtain rfl : args = #[v0, v1, v2, v3] := by cases args; simp_all
  obtain ⟨a0, rfl, rfl, rfl, wa0⟩ := open_int Try.underlying3 (hval 0 3 v0 rfl rfl) hd0
  have b0 := i64_wf wa0
  obtain ⟨l1, h1⟩ := opens_ops.arg Try.underlying22 (hval 1 22 v1 rfl rfl) hd1
  obtain ⟨a2, rfl, rfl, rfl, wa2⟩ := open_int Try.underlying3 (hval 2 3 v2 rfl rfl) hd2
  have b2 := i64_wf wa2
  obtain ⟨a3, rfl, rfl, rfl, wa3⟩ := open_int Try.underlying3 (hval 3 3 v3 rfl rfl) hd3
  have b3 := i64_wf wa3
  refine (law_calls (vals := [.int .i64 a0, v1, .int .i64 a2, .int .i64 a3]) (xs := [VI a0, OPL l1, VI a2, VI a3]) dB_ok (rots_ev a0 l1 h1.1 h1.2.1 a2 a3 (big_of b2) (big_of b3) [] 0 (Nat.zero_le _)) (Pw.cons (rep_int a0) (Pw.cons h1.2.2 (Pw.cons (rep_int a2) (Pw.cons (rep_int a3) Pw.nil))))).mono fun e W' ⟨he, hb⟩ => ?_
  subst he
  exact ⟨_, rfl, law_post hW' rfl laidOut (by kernel_rfl) rfl Try.underlying4 (fun ds h => match ds, h with | [_, _, _, _], _ => rfl) hb⟩

theorem proved : Rows.DiskRotsSaid :=
  OpenClaim.holds_of_wide 6 Try.f6 rfl rfl rfl rfl rfl rfl rfl ⟨rfl, rfl, rfl, rfl, rfl⟩ rfl rfl rfl rfl rfl (by kernel_rfl) Try.func6 (by kernel_rfl)
    (of_decide_eq_true (by kernel_rfl)) (by unfold Func.isWrapper; first | (rw [if_pos (by decide +kernel)]; kernel_rfl) | (rw [if_neg (by decide +kernel)]; exact ⟨rfl, rfl⟩))
    (fun os started H enc _ => lifted os started H enc)
#print axioms proved
end Go.Proofs.Ytghdanpigohnjaa.diskRots
