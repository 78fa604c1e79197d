/-
  DiskTears' walk. No condition of its own. DiskTears: whatever the input, it returns true.
-/
import Derived.Test.YtghdanpigohnjaaD5
import Derived.Test.YtghdanpigohnjaaD6
import Derived.Test.YtghdanpigohnjaaD0
namespace Go.Proofs.Ytghdanpigohnjaa
open Go Go.RowKit

attribute [local irreducible] EvOps EvC
attribute [local go_sem] List.getElem?_toArray List.flatten_cons List.flatten_nil List.contains_nil List.append_nil List.nil_append List.length_set Bool.and_self implies_true eq_self Nat.zero_mul Nat.add_zero Nat.zero_add Nat.sub_zero List.take_zero List.drop_zero List.drop_replicate Nat.sub_self List.replicate_zero List.map_nil List.map_append List.length_replicate
attribute [local go_sem] bytesV_bs strV_u8s bs_size u8s_len bs_extract bs_append bs_beq bs_nil bs_nil2
attribute [local go_sem] putD_len putD_b putD_p putD_w putD_d putD_app putD_put putD_get0 putD_get putD_set0 putD_set putD_take putD_takeN putD_setd putD_setw putD_setp getLD setLD
set_option linter.unusedSimpArgs false
set_option linter.unusedVariables false
set_option maxRecDepth 100000
set_option maxHeartbeats 4000000
attribute [local go_sem] take_u8 take_u8v drop_u8v len_u8v viewL_mv eqVs_u8s zsV_Z64 Z64_len Nat.min_self Nat.min_eq_right


theorem lego {p q : Prop} (k : Later q) (h : Later q → p := by (intro k; (first | with_reducible (first | refine c_seq ?_ | refine c_block ?_ | refine c_region ?_ | refine c_skip ?_ | refine c_exit ?_ | refine c_ret ?_ | refine then_normal ?_ | refine then_exit ?_ | refine then_ret ?_ | refine block_normal ?_ | refine block_here ?_ | refine block_ret ?_ | refine block_far (by decide) ?_ | refine ops_nil ?_ | refine c_cond_t rfl ?_ | refine c_cond_f rfl ?_) | ((with_reducible apply ops_pure); rfl; (simp (disch := (first | omega | assumption | ((repeat' with_reducible apply And.intro) <;> first | omega | assumption | rfl | (apply Or.inl; rfl) | (apply Or.inr; first | rfl | trivial | fail) | fail) | fail)) only [go_sem, if_pos, if_neg, wrapI, wrapU, decide_eq_true, decide_eq_false, beqT, beqF, bneT, bneF, hm, hm2, hm3, hm4, hm5] <;> rfl); simp only [go_sem]) | ((with_reducible apply ops_pureF); rfl; (intro _; simp (disch := (first | omega | assumption | ((repeat' with_reducible apply And.intro) <;> first | omega | assumption | rfl | (apply Or.inl; rfl) | (apply Or.inr; first | rfl | trivial | fail) | fail) | fail)) only [go_sem, if_pos, if_neg, wrapI, wrapU, decide_eq_true, decide_eq_false, beqT, beqF, bneT, bneF, hm, hm2, hm3, hm4, hm5] <;> rfl); simp only [go_sem]) | ((with_reducible apply ops_pureD); kernel_rfl; rfl; (simp (disch := (first | omega | assumption | ((repeat' with_reducible apply And.intro) <;> first | omega | assumption | rfl | (apply Or.inl; rfl) | (apply Or.inr; first | rfl | trivial | fail) | fail) | fail)) only [go_sem, if_pos, if_neg, wrapI, wrapU, decide_eq_true, decide_eq_false, beqT, beqF, bneT, bneF, hm, hm2, hm3, hm4, hm5] <;> rfl); simp only [go_sem]) | ((with_reducible apply ops_skip); rfl; simp only [go_sem]) | ((with_reducible apply c_regionD); kernel_rfl) | ((first | ((with_reducible apply ops_eff); decide) | (with_reducible apply ops_lit)); rfl; (simp (disch := (first | omega | assumption | ((repeat' with_reducible apply And.intro) <;> first | omega | assumption | rfl | (apply Or.inl; rfl) | (apply Or.inr; first | rfl | trivial | fail) | fail) | fail)) only [go_sem, if_pos, if_neg, wrapI, wrapU, decide_eq_true, decide_eq_false, beqT, beqF, bneT, bneF, hm, hm2, hm3, hm4, hm5] <;> rfl); simp only [go_sem])); (repeat (first | with_reducible (first | refine c_seq ?_ | refine c_block ?_ | refine c_region ?_ | refine c_skip ?_ | refine c_exit ?_ | refine c_ret ?_ | refine then_normal ?_ | refine then_exit ?_ | refine then_ret ?_ | refine block_normal ?_ | refine block_here ?_ | refine block_ret ?_ | refine block_far (by decide) ?_ | refine ops_nil ?_ | refine c_cond_t rfl ?_ | refine c_cond_f rfl ?_) | ((with_reducible apply ops_pure); rfl; (simp (disch := (first | omega | assumption | ((repeat' with_reducible apply And.intro) <;> first | omega | assumption | rfl | (apply Or.inl; rfl) | (apply Or.inr; first | rfl | trivial | fail) | fail) | fail)) only [go_sem, if_pos, if_neg, wrapI, wrapU, decide_eq_true, decide_eq_false, beqT, beqF, bneT, bneF, hm, hm2, hm3, hm4, hm5] <;> rfl); simp only [go_sem]) | ((with_reducible apply ops_pureF); rfl; (intro _; simp (disch := (first | omega | assumption | ((repeat' with_reducible apply And.intro) <;> first | omega | assumption | rfl | (apply Or.inl; rfl) | (apply Or.inr; first | rfl | trivial | fail) | fail) | fail)) only [go_sem, if_pos, if_neg, wrapI, wrapU, decide_eq_true, decide_eq_false, beqT, beqF, bneT, bneF, hm, hm2, hm3, hm4, hm5] <;> rfl); simp only [go_sem]) | ((with_reducible apply ops_pureD); kernel_rfl; rfl; (simp (disch := (first | omega | assumption | ((repeat' with_reducible apply And.intro) <;> first | omega | assumption | rfl | (apply Or.inl; rfl) | (apply Or.inr; first | rfl | trivial | fail) | fail) | fail)) only [go_sem, if_pos, if_neg, wrapI, wrapU, decide_eq_true, decide_eq_false, beqT, beqF, bneT, bneF, hm, hm2, hm3, hm4, hm5] <;> rfl); simp only [go_sem]) | ((with_reducible apply ops_skip); rfl; simp only [go_sem]) | ((with_reducible apply c_regionD); kernel_rfl) | ((first | ((with_reducible apply ops_eff); decide) | (with_reducible apply ops_lit)); rfl; (simp (disch := (first | omega | assumption | ((repeat' with_reducible apply And.intro) <;> first | omega | assumption | rfl | (apply Or.inl; rfl) | (apply Or.inr; first | rfl | trivial | fail) | fail) | fail)) only [go_sem, if_pos, if_neg, wrapI, wrapU, decide_eq_true, decide_eq_false, beqT, beqF, bneT, bneF, hm, hm2, hm3, hm4, hm5] <;> rfl); simp only [go_sem]))); exact k.get)) : p := h k
theorem legoX {p q : Prop} (k : Later q) (h : Later q → p := by (intro k; (first | with_reducible (first | refine c_seq ?_ | refine c_block ?_ | refine c_skip ?_ | refine c_exit ?_ | refine c_ret ?_ | refine then_normal ?_ | refine then_exit ?_ | refine then_ret ?_ | refine block_normal ?_ | refine block_here ?_ | refine block_ret ?_ | refine block_far (by decide) ?_ | refine ops_nil ?_ | refine c_cond_t rfl ?_ | refine c_cond_f rfl ?_) | ((with_reducible apply ops_pure); rfl; (simp (disch := (first | omega | assumption | ((repeat' with_reducible apply And.intro) <;> first | omega | assumption | rfl | (apply Or.inl; rfl) | (apply Or.inr; first | rfl | trivial | fail) | fail) | fail)) only [go_sem, if_pos, if_neg, wrapI, wrapU, decide_eq_true, decide_eq_false, beqT, beqF, bneT, bneF, hm, hm2, hm3, hm4, hm5] <;> rfl); simp only [go_sem]) | ((with_reducible apply ops_pureF); rfl; (intro _; simp (disch := (first | omega | assumption | ((repeat' with_reducible apply And.intro) <;> first | omega | assumption | rfl | (apply Or.inl; rfl) | (apply Or.inr; first | rfl | trivial | fail) | fail) | fail)) only [go_sem, if_pos, if_neg, wrapI, wrapU, decide_eq_true, decide_eq_false, beqT, beqF, bneT, bneF, hm, hm2, hm3, hm4, hm5] <;> rfl); simp only [go_sem]) | ((with_reducible apply ops_pureD); kernel_rfl; rfl; (simp (disch := (first | omega | assumption | ((repeat' with_reducible apply And.intro) <;> first | omega | assumption | rfl | (apply Or.inl; rfl) | (apply Or.inr; first | rfl | trivial | fail) | fail) | fail)) only [go_sem, if_pos, if_neg, wrapI, wrapU, decide_eq_true, decide_eq_false, beqT, beqF, bneT, bneF, hm, hm2, hm3, hm4, hm5] <;> rfl); simp only [go_sem]) | ((with_reducible apply ops_skip); rfl; simp only [go_sem]) | ((with_reducible apply c_regionD); kernel_rfl) | ((first | ((with_reducible apply ops_eff); decide) | (with_reducible apply ops_lit)); rfl; (simp (disch := (first | omega | assumption | ((repeat' with_reducible apply And.intro) <;> first | omega | assumption | rfl | (apply Or.inl; rfl) | (apply Or.inr; first | rfl | trivial | fail) | fail) | fail)) only [go_sem, if_pos, if_neg, wrapI, wrapU, decide_eq_true, decide_eq_false, beqT, beqF, bneT, bneF, hm, hm2, hm3, hm4, hm5] <;> rfl); simp only [go_sem])); (repeat (first | with_reducible (first | refine c_seq ?_ | refine c_block ?_ | refine c_skip ?_ | refine c_exit ?_ | refine c_ret ?_ | refine then_normal ?_ | refine then_exit ?_ | refine then_ret ?_ | refine block_normal ?_ | refine block_here ?_ | refine block_ret ?_ | refine block_far (by decide) ?_ | refine ops_nil ?_ | refine c_cond_t rfl ?_ | refine c_cond_f rfl ?_) | ((with_reducible apply ops_pure); rfl; (simp (disch := (first | omega | assumption | ((repeat' with_reducible apply And.intro) <;> first | omega | assumption | rfl | (apply Or.inl; rfl) | (apply Or.inr; first | rfl | trivial | fail) | fail) | fail)) only [go_sem, if_pos, if_neg, wrapI, wrapU, decide_eq_true, decide_eq_false, beqT, beqF, bneT, bneF, hm, hm2, hm3, hm4, hm5] <;> rfl); simp only [go_sem]) | ((with_reducible apply ops_pureF); rfl; (intro _; simp (disch := (first | omega | assumption | ((repeat' with_reducible apply And.intro) <;> first | omega | assumption | rfl | (apply Or.inl; rfl) | (apply Or.inr; first | rfl | trivial | fail) | fail) | fail)) only [go_sem, if_pos, if_neg, wrapI, wrapU, decide_eq_true, decide_eq_false, beqT, beqF, bneT, bneF, hm, hm2, hm3, hm4, hm5] <;> rfl); simp only [go_sem]) | ((with_reducible apply ops_pureD); kernel_rfl; rfl; (simp (disch := (first | omega | assumption | ((repeat' with_reducible apply And.intro) <;> first | omega | assumption | rfl | (apply Or.inl; rfl) | (apply Or.inr; first | rfl | trivial | fail) | fail) | fail)) only [go_sem, if_pos, if_neg, wrapI, wrapU, decide_eq_true, decide_eq_false, beqT, beqF, bneT, bneF, hm, hm2, hm3, hm4, hm5] <;> rfl); simp only [go_sem]) | ((with_reducible apply ops_skip); rfl; simp only [go_sem]) | ((with_reducible apply c_regionD); kernel_rfl) | ((first | ((with_reducible apply ops_eff); decide) | (with_reducible apply ops_lit)); rfl; (simp (disch := (first | omega | assumption | ((repeat' with_reducible apply And.intro) <;> first | omega | assumption | rfl | (apply Or.inl; rfl) | (apply Or.inr; first | rfl | trivial | fail) | fail) | fail)) only [go_sem, if_pos, if_neg, wrapI, wrapU, decide_eq_true, decide_eq_false, beqT, beqF, bneT, bneF, hm, hm2, hm3, hm4, hm5] <;> rfl); simp only [go_sem]))); exact k.get)) : p := h k
theorem lesv {p : Prop} (h : p := by simp (disch := (first | omega | assumption | ((repeat' with_reducible apply And.intro) <;> first | omega | assumption | rfl | (apply Or.inl; rfl) | (apply Or.inr; first | rfl | trivial | fail) | fail) | fail)) only [go_sem, if_pos, if_neg, wrapI, wrapU, decide_eq_true, decide_eq_false, beqT, beqF, bneT, bneF, hm, hm2, hm3, hm4, hm5] <;> rfl) : p := h
theorem lecall {T : Tab} {X : CallP} {n0 lo : Nat} {wt : List Tmp} {draw : Bool} {ops : Array Oper} {Q : St → Prop} {rest : List Oper} {o : Oper} {env : List D} {sto : Sto} {f : FuncId} {args : List D} (k : ∃ r, X f args sto (if draw then sto.length else lo) r sto ∧ EvOps T X n0 lo wt draw ops Q rest (St.put ⟨env, sto⟩ o.dst r)) (hg : guardD ops o env = some true := by rfl) (h : evCallee (opd env) sto o = some (f, args) := by simp (disch := (first | omega | assumption | ((repeat' with_reducible apply And.intro) <;> first | omega | assumption | rfl | (apply Or.inl; rfl) | (apply Or.inr; first | rfl | trivial | fail) | fail) | fail)) only [go_sem, if_pos, if_neg, wrapI, wrapU, decide_eq_true, decide_eq_false, beqT, beqF, bneT, bneF, hm, hm2, hm3, hm4, hm5] <;> rfl) : EvOps T X n0 lo wt draw ops Q (o :: rest) ⟨env, sto⟩ := k.elim fun _ k => ops_call hg h k.1 k.2
attribute [local go_sem] List.length_take List.length_drop strF
theorem st2_len6 {sto : Sto} {D : DK} {R : RK} : sto.length + 6 ≤ (st2 sto D R).length := by rw [st2_len]; omega
theorem cut_of {x : Int} (h0 : 0 ≤ x) (h : x ≤ 64) : cutS x = x.toNat := by unfold cutS; rw [if_neg (by omega), if_neg (by omega)]
theorem RefAt.more {sto l : Sto} {q a : Nat} {R : RK} (h : RefAt sto q a R) : RefAt (sto ++ l) q a R := by
  obtain ⟨h1, h2⟩ := h.lt
  exact ⟨by rw [List.getElem?_append_left h2]; exact h.s, by rw [List.getElem?_append_left h1]; exact h.d⟩
theorem tears_ev (n : Int) (l : List OpS) (hl : ∀ o ∈ l, o.ok) (hll : l.length < 9223372036854775808) (picks : List Int) (hpi : ∀ p ∈ picks, Big p) (hpl : picks.length < 9223372036854775808) (sto : Sto) (lo : Nat) (hlo : lo ≤ sto.length) : CD 5 [.v (VI n), .v (OPL l), .v (LI picks)] sto lo (.v (.bool true)) sto := by
  have hm : True := trivial
  have hm2 := hm
  have hm3 := hm
  have hm4 := hm
  have hm5 := hm
  have hsan := sanity_ev sto lo hlo
  have hcl := lenO l
  have hcg := fun i hi => cellsO l (i := i) hi
  rw [OPL]
  generalize (l.map OpS.cells).flatten = C at *
  refine CallEv.intro ⟨_, _, [], Try.func5, rfl, by decide, ?_⟩; simp only [go_sem, Try.ntmps5]
  (try refine lego ⟨?_⟩)
  ((refine lecall ?_); (refine ⟨_, hsan, ?_⟩); (try simp only [go_sem]))
  (try refine lego ⟨?_⟩)
  clear hsan
  by_cases hn : n < 1 ∨ n > 64
  · ((refine lecall ?_); (refine ⟨_, start_bad n hn sto lo hlo, ?_⟩); (try simp only [go_sem]))
    rcases hn with hn | hn
    · (try refine lego ⟨?_⟩)
      refine ⟨by first | exact .inr rfl | exact .inl rfl, .inl ⟨[], _, (by dsimp only [Try.f5]; exact lesv), ?_, by simp⟩⟩
      rfl
    · by_cases hn1 : n < 1
      · (try refine lego ⟨?_⟩)
        refine ⟨by first | exact .inr rfl | exact .inl rfl, .inl ⟨[], _, (by dsimp only [Try.f5]; exact lesv), ?_, by simp⟩⟩
        rfl
      · (try refine lego ⟨?_⟩)
        refine ⟨by first | exact .inr rfl | exact .inl rfl, .inl ⟨[], _, (by dsimp only [Try.f5]; exact lesv), ?_, by simp⟩⟩
        rfl
  obtain ⟨m, rfl⟩ : ∃ m : Nat, n = m := ⟨n.toNat, by omega⟩
  have h0 : 0 < m := by omega
  have h64 : m ≤ 64 := by omega
  clear hn
  refine ops_callW rfl (by exact lesv) (start_ev m h0 h64 sto lo hlo) ho_st0 ?_
  simp only [go_sem]
  by_cases h60 : l.length > 60
  · (try refine lego ⟨?_⟩)
    refine ⟨by first | exact .inr rfl | exact .inl rfl, .inl ⟨[], _, (by dsimp only [Try.f5]; exact lesv), ?_, ?_⟩⟩
    · rfl
    · exact st2_take
  (try refine lego ⟨?_⟩)
  refine c_loop (fun g s => ∃ (i : Nat) (D : DK) (R : RK), (i ≤ l.length ∧ g = l.length - i ∧ Rel D R ∧ D.bl.length = m) ∧ (s.env.length = 146 ∧ s.sto = st2 sto D R ∧ s.env[0]? = some (.v (VI m)) ∧ s.env[1]? = some (.v (.sl l.length C)) ∧ s.env[2]? = some (.v (LI picks)) ∧ s.env[7]? = some (.v (.bool true)) ∧ s.env[8]? = some (.ptr (sto.length + 3) 0) ∧ s.env[9]? = some (.ptr (sto.length + 4) 0) ∧ s.env[10]? = some (.v (.bool true)) ∧ s.env[11]? = some (.v (VI i)))) (.refl _) ⟨0, newD m, newRK m, ⟨by omega, rfl, rel_new h0 (by omega), by simp [newD]⟩, rfl, rfl, ?_, ?_, ?_, ?_, ?_, ?_, ?_, ?_⟩ ?_
  all_goals first | rfl | skip
  rintro g s ⟨i, D, R, ⟨h1, rfl, hrel, hbl⟩, hL, hT, k0, k1, k2, k7, k8, k9, k10, k11⟩
  obtain ⟨env, st0⟩ := s; obtain ⟨J, hJ⟩ := listJ hL; rw [show (List.range 146).map J = J 0 :: J 1 :: J 2 :: J 3 :: J 4 :: J 5 :: J 6 :: J 7 :: J 8 :: J 9 :: J 10 :: J 11 :: J 12 :: J 13 :: J 14 :: J 15 :: J 16 :: J 17 :: J 18 :: J 19 :: J 20 :: J 21 :: J 22 :: J 23 :: J 24 :: J 25 :: J 26 :: J 27 :: J 28 :: J 29 :: J 30 :: J 31 :: J 32 :: J 33 :: J 34 :: J 35 :: J 36 :: J 37 :: J 38 :: J 39 :: J 40 :: J 41 :: J 42 :: J 43 :: J 44 :: J 45 :: J 46 :: J 47 :: J 48 :: J 49 :: J 50 :: J 51 :: J 52 :: J 53 :: J 54 :: J 55 :: J 56 :: J 57 :: J 58 :: J 59 :: J 60 :: J 61 :: J 62 :: J 63 :: J 64 :: J 65 :: J 66 :: J 67 :: J 68 :: J 69 :: J 70 :: J 71 :: J 72 :: J 73 :: J 74 :: J 75 :: J 76 :: J 77 :: J 78 :: J 79 :: J 80 :: J 81 :: J 82 :: J 83 :: J 84 :: J 85 :: J 86 :: J 87 :: J 88 :: J 89 :: J 90 :: J 91 :: J 92 :: J 93 :: J 94 :: J 95 :: J 96 :: J 97 :: J 98 :: J 99 :: J 100 :: J 101 :: J 102 :: J 103 :: J 104 :: J 105 :: J 106 :: J 107 :: J 108 :: J 109 :: J 110 :: J 111 :: J 112 :: J 113 :: J 114 :: J 115 :: J 116 :: J 117 :: J 118 :: J 119 :: J 120 :: J 121 :: J 122 :: J 123 :: J 124 :: J 125 :: J 126 :: J 127 :: J 128 :: J 129 :: J 130 :: J 131 :: J 132 :: J 133 :: J 134 :: J 135 :: J 136 :: J 137 :: J 138 :: J 139 :: J 140 :: J 141 :: J 142 :: J 143 :: J 144 :: J 145 :: [] from by kernel_rfl] at hJ; replace k0 := Option.some.inj ((congrArg (·[0]?) hJ).symm.trans k0); replace k1 := Option.some.inj ((congrArg (·[1]?) hJ).symm.trans k1); replace k2 := Option.some.inj ((congrArg (·[2]?) hJ).symm.trans k2); replace k7 := Option.some.inj ((congrArg (·[7]?) hJ).symm.trans k7); replace k8 := Option.some.inj ((congrArg (·[8]?) hJ).symm.trans k8); replace k9 := Option.some.inj ((congrArg (·[9]?) hJ).symm.trans k9); replace k10 := Option.some.inj ((congrArg (·[10]?) hJ).symm.trans k10); replace k11 := Option.some.inj ((congrArg (·[11]?) hJ).symm.trans k11); rw [k0, k1, k2, k7, k8, k9, k10, k11] at hJ; dsimp only at hJ hT; subst hJ; replace hT := hT.symm; subst hT; clear hL k0 k1 k2 k7 k8 k9 k10 k11
  by_cases hb : i < l.length
  · have hm := hcg i hb
    have ho := hl _ (List.getElem_mem hb)
    clear hl hcg
    have c1 := do_ev D hrel.dok l[i] ho sto.length
    have c2 := rdo_ev R hrel.rok l[i] ho (sto.length + 4) (sto.length + 5) (by omega)
    have hbl2 := do_len hrel.dok l[i]
    rw [hbl] at hbl2
    obtain ⟨e1, e2⟩ := rel_do hrel l[i] ho
    clear e1 hrel
    generalize (doS D l[i]).2 = r at *
    generalize (doS D l[i]).1 = D1 at *
    generalize (rdoS R l[i]).2 = rr at *
    generalize (rdoS R l[i]).1 = R1 at *
    obtain ⟨ra, re⟩ := r
    obtain ⟨rra, rre⟩ := rr
    dsimp only at c1 c2
    (try refine lego ⟨?_⟩)
    refine ops_callW rfl (by exact lesv) (DiskW.s2 c1 hlo) ho_st2 ?_; simp only [go_sem]
    (try refine lego ⟨?_⟩)
    refine ops_callW rfl (by exact lesv) (RefW.s2 c2 hlo) ho_st2 ?_; simp only [go_sem]
    (try refine lego ⟨?_⟩)
    refine ⟨_, _, ?_, .refl _, i + 1, D1, R1, ⟨by omega, rfl, e2, hbl2⟩, rfl, rfl, ?_, ?_, ?_, ?_, ?_, ?_, ?_, ?_⟩
    · omega
    all_goals rfl
  clear hl hcg hcl
  have hRl : R.s.length = m := by rw [← hrel.len]; exact hbl
  have c1 := image_ev D hrel.dok sto.length
  have c2 := mount_ev D hrel.dok picks hpi hpl sto.length
  have hd2 := mount_ok hrel.dok picks
  have c3 := image_ev (mountS D picks) hd2 sto.length
  have c4 := pending_ev (mountS D picks) hd2 sto.length
  have c5 := up_ev (mountS D picks) sto.length
  rw [mount_pend hrel.dok] at c4
  rw [show (mountS D picks).off = false from rfl] at c5
  have hy := fun i hi => mount_bl hrel picks (i := i) hi
  have hx := fun i hi => hrel.bl i hi
  have hk := fun j hj => rsetN_k hrel.rok (pickR picks) (j := j) hj
  have hYl := mount_len hrel.dok picks
  have hsl := hrel.rok.1
  have hbl3 : (mountS D picks).bl.length = m := by omega
  generalize hX : D.bl = X at *
  generalize mountS D picks = D2 at *
  (try refine lego ⟨?_⟩)
  refine ops_call rfl (by exact lesv) (DiskR.s2 c1 hlo) ?_; simp only [go_sem]
  (try refine lego ⟨?_⟩)
  refine ops_callW rfl (by exact lesv) (DiskW.s2 c2 hlo) ho_st2 ?_; simp only [go_sem]
  (try refine lego ⟨?_⟩)
  refine ops_call rfl (by exact lesv) (DiskR.s2 c3 hlo) ?_; simp only [go_sem]
  generalize D2.bl = Y at *
  (try refine lego ⟨?_⟩)
  refine ops_call rfl (by exact lesv) (DiskR.s2 c4 hlo) ?_; simp only [go_sem]
  (try refine lego ⟨?_⟩)
  refine ops_call rfl (by exact lesv) (DiskR.s2 c5 hlo) ?_; simp only [go_sem]
  (try refine lego ⟨?_⟩)
  clear c1 c2 c3 c4 c5 hd2 hX
  obtain ⟨K, hK⟩ : ∃ K : Nat → Nat, K = fun i => (rsetN R (pickR picks) i).2 := ⟨_, rfl⟩
  have hK0 : K 0 = 0 := by rw [hK]; rfl
  have hKi : ∀ i, (rsetN R (pickR picks) i).2 = K i := fun i => by rw [hK]
  clear hK
  simp only [hKi] at hy hk
  have hT1 := @st2_len6 sto D2 R
  have hT2 := @st2_ref sto D2 R
  have hT3 := @st2_take sto D2 R
  generalize st2 sto D2 R = T at *
  clear hrel
  refine c_loop (fun g s => ∃ (i : Nat) (T : Sto), (i ≤ m ∧ g = m - i ∧ K i ≤ i ∧ sto.length + 6 ≤ T.length ∧ RefAt T (sto.length + 4) (sto.length + 5) R ∧ T.take sto.length = sto) ∧ (s.env.length = 146 ∧ s.sto = T ∧ s.env[0]? = some (.v (VI m)) ∧ s.env[2]? = some (.v (LI picks)) ∧ s.env[7]? = some (.v (.bool true)) ∧ s.env[9]? = some (.ptr (sto.length + 4) 0) ∧ s.env[12]? = some (.v (LB X)) ∧ s.env[13]? = some (.v (LB Y)) ∧ s.env[14]? = some (.v (VI (K i))) ∧ s.env[15]? = some (.v (VI i)))) (.refl _) ⟨0, T, ⟨by omega, rfl, by omega, hT1, hT2, hT3⟩, rfl, rfl, ?_, ?_, ?_, ?_, ?_, ?_, ?_, ?_⟩ ?_
  all_goals first | rfl | (rw [hK0]; rfl) | skip
  rintro g s ⟨i, T, ⟨h1, rfl, hki, hT1, hT2, hT3⟩, hL, hT, k0, k2, k7, k9, k12, k13, k14, k15⟩
  obtain ⟨env, st0⟩ := s; obtain ⟨J, hJ⟩ := listJ hL; rw [show (List.range 146).map J = J 0 :: J 1 :: J 2 :: J 3 :: J 4 :: J 5 :: J 6 :: J 7 :: J 8 :: J 9 :: J 10 :: J 11 :: J 12 :: J 13 :: J 14 :: J 15 :: J 16 :: J 17 :: J 18 :: J 19 :: J 20 :: J 21 :: J 22 :: J 23 :: J 24 :: J 25 :: J 26 :: J 27 :: J 28 :: J 29 :: J 30 :: J 31 :: J 32 :: J 33 :: J 34 :: J 35 :: J 36 :: J 37 :: J 38 :: J 39 :: J 40 :: J 41 :: J 42 :: J 43 :: J 44 :: J 45 :: J 46 :: J 47 :: J 48 :: J 49 :: J 50 :: J 51 :: J 52 :: J 53 :: J 54 :: J 55 :: J 56 :: J 57 :: J 58 :: J 59 :: J 60 :: J 61 :: J 62 :: J 63 :: J 64 :: J 65 :: J 66 :: J 67 :: J 68 :: J 69 :: J 70 :: J 71 :: J 72 :: J 73 :: J 74 :: J 75 :: J 76 :: J 77 :: J 78 :: J 79 :: J 80 :: J 81 :: J 82 :: J 83 :: J 84 :: J 85 :: J 86 :: J 87 :: J 88 :: J 89 :: J 90 :: J 91 :: J 92 :: J 93 :: J 94 :: J 95 :: J 96 :: J 97 :: J 98 :: J 99 :: J 100 :: J 101 :: J 102 :: J 103 :: J 104 :: J 105 :: J 106 :: J 107 :: J 108 :: J 109 :: J 110 :: J 111 :: J 112 :: J 113 :: J 114 :: J 115 :: J 116 :: J 117 :: J 118 :: J 119 :: J 120 :: J 121 :: J 122 :: J 123 :: J 124 :: J 125 :: J 126 :: J 127 :: J 128 :: J 129 :: J 130 :: J 131 :: J 132 :: J 133 :: J 134 :: J 135 :: J 136 :: J 137 :: J 138 :: J 139 :: J 140 :: J 141 :: J 142 :: J 143 :: J 144 :: J 145 :: [] from by kernel_rfl] at hJ; replace k0 := Option.some.inj ((congrArg (·[0]?) hJ).symm.trans k0); replace k2 := Option.some.inj ((congrArg (·[2]?) hJ).symm.trans k2); replace k7 := Option.some.inj ((congrArg (·[7]?) hJ).symm.trans k7); replace k9 := Option.some.inj ((congrArg (·[9]?) hJ).symm.trans k9); replace k12 := Option.some.inj ((congrArg (·[12]?) hJ).symm.trans k12); replace k13 := Option.some.inj ((congrArg (·[13]?) hJ).symm.trans k13); replace k14 := Option.some.inj ((congrArg (·[14]?) hJ).symm.trans k14); replace k15 := Option.some.inj ((congrArg (·[15]?) hJ).symm.trans k15); rw [k0, k2, k7, k9, k12, k13, k14, k15] at hJ; dsimp only at hJ hT; subst hJ; replace hT := hT.symm; subst hT; clear hL k0 k2 k7 k9 k12 k13 k14 k15
  by_cases hb : i < m
  · have hiR : i < R.s.length := by omega
    have hy := hy i hiR
    have hx := hx i hiR
    have hk := hk i hiR
    have hsl := hsl _ (List.getElem_mem hiR)
    have hm := hT2.d
    have hm2 := hT2.s
    have hm3 := flatR_get hiR
    have hfl := flatR_len R.s
    rw [List.getD, List.getElem?_eq_getElem (by omega), Option.getD_some] at hy hx
    generalize R.s[i] = z at *
    obtain ⟨tx, nx, dy, wn⟩ := z
    simp only [cellsR] at hm3
    simp only at hx hy hsl hk
    have hm4 := hx
    have ht64 := hsl.1
    cases dy with
    | false =>
      simp only [Bool.false_eq_true, if_false, Nat.add_zero] at hk
      simp only [setl, Bool.false_eq_true, if_false] at hy
      have hm5 := hy
      (try refine lego ⟨?_⟩)
      refine ⟨_, _, ?_, .refl _, i + 1, T ++ [Ent.cells [.v (.str (bs tx)), .v (.str (bs nx)), .v (.bool false), .v (.bool wn)]], ⟨by omega, rfl, by omega, by simp only [List.length_append]; omega, hT2.more, by rw [List.take_append_of_le_length (by omega)]; exact hT3⟩, ?_⟩; (omega)
      refine ⟨rfl, rfl, ?_, ?_, ?_, ?_, ?_, ?_, ?_, ?_⟩ <;> first | rfl | (rw [hk]; rfl)
    | true =>
      simp only [if_true] at hk
      have hn64 := hsl.2 rfl
      simp only [setl, if_true] at hy
      clear hsl
      by_cases hkp : K i < picks.length
      · have hpv : pickR picks (K i) = picks[K i] := by simp [pickR, List.getD, hkp]
        rw [hpv] at hy
        have hbp := hpi _ (List.getElem_mem hkp)
        obtain ⟨pk, hpk⟩ : ∃ pk, pk = picks[K i] := ⟨_, rfl⟩
        rw [← hpk] at hy hbp
        obtain ⟨hp1, hp2⟩ := hbp
        have hk2 : picks[K i] = pk := hpk.symm
        clear hpk hpv
        have pc : pk < 0 ∨ pk > 64 ∨ (0 ≤ pk ∧ pk ≤ 64) := by omega
        cases wn with
        | true =>
          simp only [if_true] at hy
          have hm5 := hy
          rcases pc with h | h | ⟨ha1, ha2⟩
          · have hq := h
            (try refine lego ⟨?_⟩)
            refine ⟨_, _, ?_, .refl _, i + 1, T ++ [Ent.cells [.v (.str (bs tx)), .v (.str (bs nx)), .v (.bool true), .v (.bool true)]], ⟨by omega, rfl, by omega, by simp only [List.length_append]; omega, hT2.more, by rw [List.take_append_of_le_length (by omega)]; exact hT3⟩, ?_⟩; (omega)
            refine ⟨rfl, rfl, ?_, ?_, ?_, ?_, ?_, ?_, ?_, ?_⟩ <;> first | rfl | (rw [hk]; rfl)
          · have hq := h
            (try refine lego ⟨?_⟩)
            refine ⟨_, _, ?_, .refl _, i + 1, T ++ [Ent.cells [.v (.str (bs tx)), .v (.str (bs nx)), .v (.bool true), .v (.bool true)]], ⟨by omega, rfl, by omega, by simp only [List.length_append]; omega, hT2.more, by rw [List.take_append_of_le_length (by omega)]; exact hT3⟩, ?_⟩; (omega)
            refine ⟨rfl, rfl, ?_, ?_, ?_, ?_, ?_, ?_, ?_, ?_⟩ <;> first | rfl | (rw [hk]; rfl)
          · obtain ⟨p, rfl⟩ := Int.eq_ofNat_of_zero_le ha1
            have ha3 : p ≤ 64 := by omega
            by_cases h00 : p = 0
            · subst h00
              (try refine lego ⟨?_⟩)
              refine ⟨_, _, ?_, .refl _, i + 1, T ++ [Ent.cells [.v (.str (bs tx)), .v (.str (bs nx)), .v (.bool true), .v (.bool true)]], ⟨by omega, rfl, by omega, by simp only [List.length_append]; omega, hT2.more, by rw [List.take_append_of_le_length (by omega)]; exact hT3⟩, ?_⟩; (omega)
              refine ⟨rfl, rfl, ?_, ?_, ?_, ?_, ?_, ?_, ?_, ?_⟩ <;> first | rfl | (rw [hk]; rfl)
            · by_cases h6 : p = 64
              · subst h6
                (try refine lego ⟨?_⟩)
                refine ⟨_, _, ?_, .refl _, i + 1, T ++ [Ent.cells [.v (.str (bs tx)), .v (.str (bs nx)), .v (.bool true), .v (.bool true)]], ⟨by omega, rfl, by omega, by simp only [List.length_append]; omega, hT2.more, by rw [List.take_append_of_le_length (by omega)]; exact hT3⟩, ?_⟩; (omega)
                refine ⟨rfl, rfl, ?_, ?_, ?_, ?_, ?_, ?_, ?_, ?_⟩ <;> first | rfl | (rw [hk]; rfl)
              · have hq := h6
                (try refine lego ⟨?_⟩)
                refine ⟨_, _, ?_, .refl _, i + 1, T ++ [Ent.cells [.v (.str (bs tx)), .v (.str (bs nx)), .v (.bool true), .v (.bool true)]], ⟨by omega, rfl, by omega, by simp only [List.length_append]; omega, hT2.more, by rw [List.take_append_of_le_length (by omega)]; exact hT3⟩, ?_⟩; (omega)
                refine ⟨rfl, rfl, ?_, ?_, ?_, ?_, ?_, ?_, ?_, ?_⟩ <;> first | rfl | (rw [hk]; rfl)
        | false =>
          simp only [Bool.false_eq_true, if_false, tearS] at hy
          rcases pc with h | h | ⟨ha1, ha2⟩
          · have hc : cutS pk = 0 := by simp [cutS, h]
            have hm5 : Y[i] = List.take (Int.toNat 0) nx ++ List.drop (Int.toNat 0) (List.take tx.length tx) := by rw [hy, hc]; simp
            (try refine lego ⟨?_⟩)
            refine ⟨_, _, ?_, .refl _, i + 1, T ++ [Ent.cells [.v (.str (bs tx)), .v (.str (bs nx)), .v (.bool true), .v (.bool false)]], ⟨by omega, rfl, by omega, by simp only [List.length_append]; omega, hT2.more, by rw [List.take_append_of_le_length (by omega)]; exact hT3⟩, ?_⟩; (omega)
            refine ⟨rfl, rfl, ?_, ?_, ?_, ?_, ?_, ?_, ?_, ?_⟩ <;> first | rfl | (rw [hk]; rfl)
          · have hc : cutS pk = 64 := by simp [cutS, h]; omega
            have hm5 : Y[i] = List.take (Int.toNat 64) nx ++ List.drop (Int.toNat 64) (List.take tx.length tx) := by rw [hy, hc]; simp
            (try refine lego ⟨?_⟩)
            refine ⟨_, _, ?_, .refl _, i + 1, T ++ [Ent.cells [.v (.str (bs tx)), .v (.str (bs nx)), .v (.bool true), .v (.bool false)]], ⟨by omega, rfl, by omega, by simp only [List.length_append]; omega, hT2.more, by rw [List.take_append_of_le_length (by omega)]; exact hT3⟩, ?_⟩; (omega)
            refine ⟨rfl, rfl, ?_, ?_, ?_, ?_, ?_, ?_, ?_, ?_⟩ <;> first | rfl | (rw [hk]; rfl)
          · obtain ⟨p, rfl⟩ := Int.eq_ofNat_of_zero_le ha1
            have ha3 : p ≤ 64 := by omega
            have hc : cutS (p : Int) = p := by unfold cutS; rw [if_neg (by omega), if_neg (by omega)]; rfl
            by_cases h00 : p = 0
            · subst h00
              have hm5 : Y[i] = List.take (Int.toNat 0) nx ++ List.drop (Int.toNat 0) (List.take tx.length tx) := by rw [hy, hc]; simp
              (try refine lego ⟨?_⟩)
              refine ⟨_, _, ?_, .refl _, i + 1, T ++ [Ent.cells [.v (.str (bs tx)), .v (.str (bs nx)), .v (.bool true), .v (.bool false)]], ⟨by omega, rfl, by omega, by simp only [List.length_append]; omega, hT2.more, by rw [List.take_append_of_le_length (by omega)]; exact hT3⟩, ?_⟩; (omega)
              refine ⟨rfl, rfl, ?_, ?_, ?_, ?_, ?_, ?_, ?_, ?_⟩ <;> first | rfl | (rw [hk]; rfl)
            · by_cases h6 : p = 64
              · subst h6
                have hm5 : Y[i] = List.take (picks[K i]).toNat nx ++ List.drop (picks[K i]).toNat (List.take tx.length tx) := by rw [hy, hc, hk2]; simp
                (try refine lego ⟨?_⟩)
                refine ⟨_, _, ?_, .refl _, i + 1, T ++ [Ent.cells [.v (.str (bs tx)), .v (.str (bs nx)), .v (.bool true), .v (.bool false)]], ⟨by omega, rfl, by omega, by simp only [List.length_append]; omega, hT2.more, by rw [List.take_append_of_le_length (by omega)]; exact hT3⟩, ?_⟩; (omega)
                refine ⟨rfl, rfl, ?_, ?_, ?_, ?_, ?_, ?_, ?_, ?_⟩ <;> first | rfl | (rw [hk]; rfl)
              · have hq := h6
                have hm5 : Y[i] = List.take (picks[K i]).toNat nx ++ List.drop (picks[K i]).toNat (List.take tx.length tx) := by rw [hy, hc, hk2]; simp
                (try refine lego ⟨?_⟩)
                refine ⟨_, _, ?_, .refl _, i + 1, T ++ [Ent.cells [.v (.str (bs tx)), .v (.str (bs nx)), .v (.bool true), .v (.bool false)]], ⟨by omega, rfl, by omega, by simp only [List.length_append]; omega, hT2.more, by rw [List.take_append_of_le_length (by omega)]; exact hT3⟩, ?_⟩; (omega)
                refine ⟨rfl, rfl, ?_, ?_, ?_, ?_, ?_, ?_, ?_, ?_⟩ <;> first | rfl | (rw [hk]; rfl)
      · have hpv : pickR picks (K i) = 64 := by simp [pickR, List.getD, List.getElem?_eq_none (Nat.le_of_not_lt hkp)]
        rw [hpv] at hy
        cases wn with
        | true =>
          simp only [if_true] at hy
          have hm5 := hy
          (try refine lego ⟨?_⟩)
          refine ⟨_, _, ?_, .refl _, i + 1, T ++ [Ent.cells [.v (.str (bs tx)), .v (.str (bs nx)), .v (.bool true), .v (.bool true)]], ⟨by omega, rfl, by omega, by simp only [List.length_append]; omega, hT2.more, by rw [List.take_append_of_le_length (by omega)]; exact hT3⟩, ?_⟩; (omega)
          refine ⟨rfl, rfl, ?_, ?_, ?_, ?_, ?_, ?_, ?_, ?_⟩ <;> first | rfl | (rw [hk]; rfl)
        | false =>
          simp only [Bool.false_eq_true, if_false, tearS] at hy
          have hc : cutS 64 = 64 := by simp [cutS]
          have hm5 : Y[i] = List.take (Int.toNat 64) nx ++ List.drop (Int.toNat 64) (List.take tx.length tx) := by rw [hy, hc]; simp
          (try refine lego ⟨?_⟩)
          refine ⟨_, _, ?_, .refl _, i + 1, T ++ [Ent.cells [.v (.str (bs tx)), .v (.str (bs nx)), .v (.bool true), .v (.bool false)]], ⟨by omega, rfl, by omega, by simp only [List.length_append]; omega, hT2.more, by rw [List.take_append_of_le_length (by omega)]; exact hT3⟩, ?_⟩; (omega)
          refine ⟨rfl, rfl, ?_, ?_, ?_, ?_, ?_, ?_, ?_, ?_⟩ <;> first | rfl | (rw [hk]; rfl)
  · (try refine lego ⟨?_⟩)
    refine ⟨by first | exact .inr rfl | exact .inl rfl, .inl ⟨[], _, (by dsimp only [Try.f5]; exact lesv), ?_, ?_⟩⟩
    · rfl
    · exact hT3
end Go.Proofs.Ytghdanpigohnjaa
namespace Go.Proofs.Ytghdanpigohnjaa.diskTears
open Go Go.ChangeShapes Go.WideShapes Go.ChangeAt Go.RowKit

set_option maxRecDepth 100000 in
theorem lifted (os : Os) (started : os.Started) (H : Type) (enc : TypeId × Value → H) :
    ReturnsInHanded {} Try.checked os 5 .any (Rows.diskTearsSpec.pre6 enc Try.prog Try.f5 Rows.diskTearsRow.domain false) (Rows.diskTearsSpec.post enc Try.prog Try.f5 false true false false) := by
  refine returnsInHanded_of_change (C := Try.checked) own started (by kernel_rfl) Try.func5
    (ChangeSpec.witness6 (enc := enc) (C := Try.checked) false ⟨#[], #[.int .i64 0, .slice none 0 0, .slice none 0 0], []⟩ 8 (by kernel_rfl) (by kernel_rfl) (by kernel_rfl) (by kernel_rfl)) ?_
  intro W base args ds gs before hval0 hW hcnd _
  have hval : ∀ (j : Nat) t v, Try.f5.params[j]? = some t → args[j]? = some v → Value.okWide Try.prog W .any base t v := hval0
  have hW' := hW
  obtain ⟨p, q, hA0, hV, rfl, hfz, hnd⟩ := hW
  have hA : DataW.TrodAll enc Try.prog W 0 (fun _ => true) true Try.f5.params.toList args.toList ds p := hA0
  rw [Try.params5] at hA hval
  obtain ⟨v0, vs0, d0, ds0, p0, q0, hargs, rfl, rfl, hd0, r0⟩ := trodAll_cons hA
  obtain ⟨v1, vs1, d1, ds1, p1, q1, rfl, rfl, rfl, hd1, r1⟩ := trodAll_cons r0
  obtain ⟨v2, vs2, d2, ds2, p2, q2, rfl, rfl, rfl, hd2, r2⟩ := trodAll_cons r1
  obtain ⟨rfl, rfl, rfl⟩ := trodAll_nil r2
  obtain rfl : args = #[v0, v1, v2] := by cases args; simp_all
  obtain ⟨a0, rfl, rfl, rfl, wa0⟩ := open_int Try.underlying3 (hval 0 3 v0 rfl rfl) hd0
  have b0 := i64_wf wa0
  obtain ⟨l1, h1⟩ := opens_ops.arg Try.underlying22 (hval 1 22 v1 rfl rfl) hd1
  obtain ⟨l2, k2⟩ := (opens_slice Try.underlying31 (by kernel_rfl) (opens_int (k := .i64) Try.underlying3)).arg Try.underlying31 (hval 2 31 v2 rfl rfl) hd2
  obtain ⟨h2, q2⟩ := k2.ints
  refine (law_calls (vals := [.int .i64 a0, v1, v2]) (xs := [VI a0, OPL l1, LI l2]) dB_ok (tears_ev a0 l1 h1.1 h1.2.1 l2 (fun p hp => big_of (q2 p hp)) (rd_len h2) [] 0 (Nat.zero_le _)) (Pw.cons (rep_int a0) (Pw.cons h1.2.2 (Pw.cons (rep_ints h2) Pw.nil)))).mono fun e W' ⟨he, hb⟩ => ?_
  subst he
  exact ⟨_, rfl, law_post hW' rfl laidOut (by kernel_rfl) rfl Try.underlying4 (fun ds h => match ds, h with | [_, _, _], _ => rfl) hb⟩

theorem proved : Rows.DiskTearsSaid :=
  OpenClaim.holds_of_wide 5 Try.f5 rfl rfl rfl rfl rfl rfl rfl ⟨rfl, rfl, rfl, rfl, rfl⟩ rfl rfl rfl rfl rfl (by kernel_rfl) Try.func5 (by kernel_rfl)
    (of_decide_eq_true (by kernel_rfl)) (by unfold Func.isWrapper; first | (rw [if_pos (by decide +kernel)]; kernel_rfl) | (rw [if_neg (by decide +kernel)]; exact ⟨rfl, rfl⟩))
    (fun os started H enc _ => lifted os started H enc)
#print axioms proved
end Go.Proofs.Ytghdanpigohnjaa.diskTears
