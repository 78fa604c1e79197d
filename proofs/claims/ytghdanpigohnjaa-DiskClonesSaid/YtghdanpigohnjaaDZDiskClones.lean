/-
  DiskClones' walk. No condition of its own. DiskClones: whatever the input, it returns true.
-/
import Derived.Test.YtghdanpigohnjaaD8
import Derived.Test.YtghdanpigohnjaaD0
import Derived.Test.YtghdanpigohnjaaD5
namespace Go.Proofs.Ytghdanpigohnjaa
open Go Go.RowKit

attribute [local irreducible] EvOps EvC
attribute [local go_sem] List.getElem?_toArray List.flatten_cons List.flatten_nil List.contains_nil List.append_nil List.nil_append List.length_set Bool.and_self implies_true eq_self Nat.zero_mul Nat.add_zero Nat.zero_add Nat.sub_zero List.take_zero List.drop_zero List.drop_replicate Nat.sub_self List.replicate_zero List.map_nil List.map_append List.length_replicate
attribute [local go_sem] bytesV_bs strV_u8s bs_size u8s_len bs_extract bs_append bs_beq bs_nil bs_nil2
attribute [local go_sem] putD_len putD_b putD_p putD_w putD_d putD_app putD_put putD_get0 putD_get putD_set0 putD_set putD_take putD_takeN putD_setd putD_setw putD_setp getLD setLD
set_option linter.unusedSimpArgs false
set_option linter.unusedVariables false
set_option maxRecDepth 100000
set_option maxHeartbeats 4000000
attribute [local go_sem] take_u8 take_u8v drop_u8v len_u8v viewL_mv eqVs_u8s zsV_Z64 Z64_len Nat.min_self Nat.min_eq_right


theorem lhgo {p q : Prop} (k : Later q) (h : Later q → p := by (intro k; (first | with_reducible (first | refine c_seq ?_ | refine c_block ?_ | refine c_region ?_ | refine c_skip ?_ | refine c_exit ?_ | refine c_ret ?_ | refine then_normal ?_ | refine then_exit ?_ | refine then_ret ?_ | refine block_normal ?_ | refine block_here ?_ | refine block_ret ?_ | refine block_far (by decide) ?_ | refine ops_nil ?_ | refine c_cond_t rfl ?_ | refine c_cond_f rfl ?_) | ((with_reducible apply ops_pure); rfl; (simp (disch := (first | omega | assumption | ((repeat' with_reducible apply And.intro) <;> first | omega | assumption | rfl | (apply Or.inl; rfl) | (apply Or.inr; first | rfl | trivial | fail) | fail) | fail)) only [go_sem, if_pos, if_neg, wrapI, wrapU, decide_eq_true, decide_eq_false, beqT, beqF, bneT, bneF, hm, hm2, hm3] <;> rfl); simp only [go_sem]) | ((with_reducible apply ops_pureF); rfl; (intro _; simp (disch := (first | omega | assumption | ((repeat' with_reducible apply And.intro) <;> first | omega | assumption | rfl | (apply Or.inl; rfl) | (apply Or.inr; first | rfl | trivial | fail) | fail) | fail)) only [go_sem, if_pos, if_neg, wrapI, wrapU, decide_eq_true, decide_eq_false, beqT, beqF, bneT, bneF, hm, hm2, hm3] <;> rfl); simp only [go_sem]) | ((with_reducible apply ops_pureD); kernel_rfl; rfl; (simp (disch := (first | omega | assumption | ((repeat' with_reducible apply And.intro) <;> first | omega | assumption | rfl | (apply Or.inl; rfl) | (apply Or.inr; first | rfl | trivial | fail) | fail) | fail)) only [go_sem, if_pos, if_neg, wrapI, wrapU, decide_eq_true, decide_eq_false, beqT, beqF, bneT, bneF, hm, hm2, hm3] <;> rfl); simp only [go_sem]) | ((with_reducible apply ops_skip); rfl; simp only [go_sem]) | ((with_reducible apply c_regionD); kernel_rfl) | ((first | ((with_reducible apply ops_eff); decide) | (with_reducible apply ops_lit)); rfl; (simp (disch := (first | omega | assumption | ((repeat' with_reducible apply And.intro) <;> first | omega | assumption | rfl | (apply Or.inl; rfl) | (apply Or.inr; first | rfl | trivial | fail) | fail) | fail)) only [go_sem, if_pos, if_neg, wrapI, wrapU, decide_eq_true, decide_eq_false, beqT, beqF, bneT, bneF, hm, hm2, hm3] <;> rfl); simp only [go_sem])); (repeat (first | with_reducible (first | refine c_seq ?_ | refine c_block ?_ | refine c_region ?_ | refine c_skip ?_ | refine c_exit ?_ | refine c_ret ?_ | refine then_normal ?_ | refine then_exit ?_ | refine then_ret ?_ | refine block_normal ?_ | refine block_here ?_ | refine block_ret ?_ | refine block_far (by decide) ?_ | refine ops_nil ?_ | refine c_cond_t rfl ?_ | refine c_cond_f rfl ?_) | ((with_reducible apply ops_pure); rfl; (simp (disch := (first | omega | assumption | ((repeat' with_reducible apply And.intro) <;> first | omega | assumption | rfl | (apply Or.inl; rfl) | (apply Or.inr; first | rfl | trivial | fail) | fail) | fail)) only [go_sem, if_pos, if_neg, wrapI, wrapU, decide_eq_true, decide_eq_false, beqT, beqF, bneT, bneF, hm, hm2, hm3] <;> rfl); simp only [go_sem]) | ((with_reducible apply ops_pureF); rfl; (intro _; simp (disch := (first | omega | assumption | ((repeat' with_reducible apply And.intro) <;> first | omega | assumption | rfl | (apply Or.inl; rfl) | (apply Or.inr; first | rfl | trivial | fail) | fail) | fail)) only [go_sem, if_pos, if_neg, wrapI, wrapU, decide_eq_true, decide_eq_false, beqT, beqF, bneT, bneF, hm, hm2, hm3] <;> rfl); simp only [go_sem]) | ((with_reducible apply ops_pureD); kernel_rfl; rfl; (simp (disch := (first | omega | assumption | ((repeat' with_reducible apply And.intro) <;> first | omega | assumption | rfl | (apply Or.inl; rfl) | (apply Or.inr; first | rfl | trivial | fail) | fail) | fail)) only [go_sem, if_pos, if_neg, wrapI, wrapU, decide_eq_true, decide_eq_false, beqT, beqF, bneT, bneF, hm, hm2, hm3] <;> rfl); simp only [go_sem]) | ((with_reducible apply ops_skip); rfl; simp only [go_sem]) | ((with_reducible apply c_regionD); kernel_rfl) | ((first | ((with_reducible apply ops_eff); decide) | (with_reducible apply ops_lit)); rfl; (simp (disch := (first | omega | assumption | ((repeat' with_reducible apply And.intro) <;> first | omega | assumption | rfl | (apply Or.inl; rfl) | (apply Or.inr; first | rfl | trivial | fail) | fail) | fail)) only [go_sem, if_pos, if_neg, wrapI, wrapU, decide_eq_true, decide_eq_false, beqT, beqF, bneT, bneF, hm, hm2, hm3] <;> rfl); simp only [go_sem]))); exact k.get)) : p := h k
theorem lhgoX {p q : Prop} (k : Later q) (h : Later q → p := by (intro k; (first | with_reducible (first | refine c_seq ?_ | refine c_block ?_ | refine c_skip ?_ | refine c_exit ?_ | refine c_ret ?_ | refine then_normal ?_ | refine then_exit ?_ | refine then_ret ?_ | refine block_normal ?_ | refine block_here ?_ | refine block_ret ?_ | refine block_far (by decide) ?_ | refine ops_nil ?_ | refine c_cond_t rfl ?_ | refine c_cond_f rfl ?_) | ((with_reducible apply ops_pure); rfl; (simp (disch := (first | omega | assumption | ((repeat' with_reducible apply And.intro) <;> first | omega | assumption | rfl | (apply Or.inl; rfl) | (apply Or.inr; first | rfl | trivial | fail) | fail) | fail)) only [go_sem, if_pos, if_neg, wrapI, wrapU, decide_eq_true, decide_eq_false, beqT, beqF, bneT, bneF, hm, hm2, hm3] <;> rfl); simp only [go_sem]) | ((with_reducible apply ops_pureF); rfl; (intro _; simp (disch := (first | omega | assumption | ((repeat' with_reducible apply And.intro) <;> first | omega | assumption | rfl | (apply Or.inl; rfl) | (apply Or.inr; first | rfl | trivial | fail) | fail) | fail)) only [go_sem, if_pos, if_neg, wrapI, wrapU, decide_eq_true, decide_eq_false, beqT, beqF, bneT, bneF, hm, hm2, hm3] <;> rfl); simp only [go_sem]) | ((with_reducible apply ops_pureD); kernel_rfl; rfl; (simp (disch := (first | omega | assumption | ((repeat' with_reducible apply And.intro) <;> first | omega | assumption | rfl | (apply Or.inl; rfl) | (apply Or.inr; first | rfl | trivial | fail) | fail) | fail)) only [go_sem, if_pos, if_neg, wrapI, wrapU, decide_eq_true, decide_eq_false, beqT, beqF, bneT, bneF, hm, hm2, hm3] <;> rfl); simp only [go_sem]) | ((with_reducible apply ops_skip); rfl; simp only [go_sem]) | ((with_reducible apply c_regionD); kernel_rfl) | ((first | ((with_reducible apply ops_eff); decide) | (with_reducible apply ops_lit)); rfl; (simp (disch := (first | omega | assumption | ((repeat' with_reducible apply And.intro) <;> first | omega | assumption | rfl | (apply Or.inl; rfl) | (apply Or.inr; first | rfl | trivial | fail) | fail) | fail)) only [go_sem, if_pos, if_neg, wrapI, wrapU, decide_eq_true, decide_eq_false, beqT, beqF, bneT, bneF, hm, hm2, hm3] <;> rfl); simp only [go_sem])); (repeat (first | with_reducible (first | refine c_seq ?_ | refine c_block ?_ | refine c_skip ?_ | refine c_exit ?_ | refine c_ret ?_ | refine then_normal ?_ | refine then_exit ?_ | refine then_ret ?_ | refine block_normal ?_ | refine block_here ?_ | refine block_ret ?_ | refine block_far (by decide) ?_ | refine ops_nil ?_ | refine c_cond_t rfl ?_ | refine c_cond_f rfl ?_) | ((with_reducible apply ops_pure); rfl; (simp (disch := (first | omega | assumption | ((repeat' with_reducible apply And.intro) <;> first | omega | assumption | rfl | (apply Or.inl; rfl) | (apply Or.inr; first | rfl | trivial | fail) | fail) | fail)) only [go_sem, if_pos, if_neg, wrapI, wrapU, decide_eq_true, decide_eq_false, beqT, beqF, bneT, bneF, hm, hm2, hm3] <;> rfl); simp only [go_sem]) | ((with_reducible apply ops_pureF); rfl; (intro _; simp (disch := (first | omega | assumption | ((repeat' with_reducible apply And.intro) <;> first | omega | assumption | rfl | (apply Or.inl; rfl) | (apply Or.inr; first | rfl | trivial | fail) | fail) | fail)) only [go_sem, if_pos, if_neg, wrapI, wrapU, decide_eq_true, decide_eq_false, beqT, beqF, bneT, bneF, hm, hm2, hm3] <;> rfl); simp only [go_sem]) | ((with_reducible apply ops_pureD); kernel_rfl; rfl; (simp (disch := (first | omega | assumption | ((repeat' with_reducible apply And.intro) <;> first | omega | assumption | rfl | (apply Or.inl; rfl) | (apply Or.inr; first | rfl | trivial | fail) | fail) | fail)) only [go_sem, if_pos, if_neg, wrapI, wrapU, decide_eq_true, decide_eq_false, beqT, beqF, bneT, bneF, hm, hm2, hm3] <;> rfl); simp only [go_sem]) | ((with_reducible apply ops_skip); rfl; simp only [go_sem]) | ((with_reducible apply c_regionD); kernel_rfl) | ((first | ((with_reducible apply ops_eff); decide) | (with_reducible apply ops_lit)); rfl; (simp (disch := (first | omega | assumption | ((repeat' with_reducible apply And.intro) <;> first | omega | assumption | rfl | (apply Or.inl; rfl) | (apply Or.inr; first | rfl | trivial | fail) | fail) | fail)) only [go_sem, if_pos, if_neg, wrapI, wrapU, decide_eq_true, decide_eq_false, beqT, beqF, bneT, bneF, hm, hm2, hm3] <;> rfl); simp only [go_sem]))); exact k.get)) : p := h k
theorem lhsv {p : Prop} (h : p := by simp (disch := (first | omega | assumption | ((repeat' with_reducible apply And.intro) <;> first | omega | assumption | rfl | (apply Or.inl; rfl) | (apply Or.inr; first | rfl | trivial | fail) | fail) | fail)) only [go_sem, if_pos, if_neg, wrapI, wrapU, decide_eq_true, decide_eq_false, beqT, beqF, bneT, bneF, hm, hm2, hm3] <;> rfl) : p := h
theorem lhcall {T : Tab} {X : CallP} {n0 lo : Nat} {wt : List Tmp} {draw : Bool} {ops : Array Oper} {Q : St → Prop} {rest : List Oper} {o : Oper} {env : List D} {sto : Sto} {f : FuncId} {args : List D} (k : ∃ r, X f args sto (if draw then sto.length else lo) r sto ∧ EvOps T X n0 lo wt draw ops Q rest (St.put ⟨env, sto⟩ o.dst r)) (hg : guardD ops o env = some true := by rfl) (h : evCallee (opd env) sto o = some (f, args) := by simp (disch := (first | omega | assumption | ((repeat' with_reducible apply And.intro) <;> first | omega | assumption | rfl | (apply Or.inl; rfl) | (apply Or.inr; first | rfl | trivial | fail) | fail) | fail)) only [go_sem, if_pos, if_neg, wrapI, wrapU, decide_eq_true, decide_eq_false, beqT, beqF, bneT, bneF, hm, hm2, hm3] <;> rfl) : EvOps T X n0 lo wt draw ops Q (o :: rest) ⟨env, sto⟩ := k.elim fun _ k => ops_call hg h k.1 k.2
theorem clones_ev (n : Int) (l l2 l3 : List OpS) (hl : ∀ o ∈ l, o.ok) (hl2 : ∀ o ∈ l2, o.ok) (hl3 : ∀ o ∈ l3, o.ok) (hll : l.length < 9223372036854775808) (hll2 : l2.length < 9223372036854775808) (hll3 : l3.length < 9223372036854775808) (sto : Sto) (lo : Nat) (hlo : lo ≤ sto.length) : CD 7 [.v (VI n), .v (OPL l), .v (OPL l2), .v (OPL l3)] sto lo (.v (.bool true)) sto := by
  have hm : True := trivial
  have hm2 := hm
  have hm3 := hm
  have hsan := sanity_ev sto lo hlo
  have hcl := lenO l
  have hcg := fun i hi => cellsO l (i := i) hi
  have hcl2 := lenO l2
  have hcg2 := fun i hi => cellsO l2 (i := i) hi
  have hcl3 := lenO l3
  have hcg3 := fun i hi => cellsO l3 (i := i) hi
  rw [OPL, OPL, OPL]
  generalize (l.map OpS.cells).flatten = A at *
  generalize (l2.map OpS.cells).flatten = B at *
  generalize (l3.map OpS.cells).flatten = C at *
  refine CallEv.intro ⟨_, _, [], Try.func7, rfl, by decide, ?_⟩; simp only [go_sem, Try.ntmps7]
  (try refine lhgo ⟨?_⟩)
  ((refine lhcall ?_); (refine ⟨_, hsan, ?_⟩); (try simp only [go_sem]))
  (try refine lhgo ⟨?_⟩)
  clear hsan
  by_cases hn : n < 1 ∨ n > 64
  · ((refine lhcall ?_); (refine ⟨_, start_bad n hn sto lo hlo, ?_⟩); (try simp only [go_sem]))
    rcases hn with hn | hn
    · (try refine lhgo ⟨?_⟩)
      refine ⟨by first | exact .inr rfl | exact .inl rfl, .inl ⟨[], _, (by dsimp only [Try.f7]; exact lhsv), ?_, by simp⟩⟩
      rfl
    · by_cases hn1 : n < 1
      · (try refine lhgo ⟨?_⟩)
        refine ⟨by first | exact .inr rfl | exact .inl rfl, .inl ⟨[], _, (by dsimp only [Try.f7]; exact lhsv), ?_, by simp⟩⟩
        rfl
      · (try refine lhgo ⟨?_⟩)
        refine ⟨by first | exact .inr rfl | exact .inl rfl, .inl ⟨[], _, (by dsimp only [Try.f7]; exact lhsv), ?_, by simp⟩⟩
        rfl
  obtain ⟨m, rfl⟩ : ∃ m : Nat, n = m := ⟨n.toNat, by omega⟩
  have h0 : 0 < m := by omega
  have h64 : m ≤ 64 := by omega
  clear hn
  refine ops_callW rfl (by exact lhsv) (start_ev m h0 h64 sto lo hlo) ho_st0 ?_
  simp only [go_sem]
  by_cases h60 : l.length > 60
  · (try refine lhgo ⟨?_⟩)
    refine ⟨by first | exact .inr rfl | exact .inl rfl, .inl ⟨[], _, (by dsimp only [Try.f7]; exact lhsv), ?_, ?_⟩⟩
    · rfl
    · exact st2_take
  by_cases h61 : l2.length > 60
  · (try refine lhgo ⟨?_⟩)
    refine ⟨by first | exact .inr rfl | exact .inl rfl, .inl ⟨[], _, (by dsimp only [Try.f7]; exact lhsv), ?_, ?_⟩⟩
    · rfl
    · exact st2_take
  by_cases h62 : l3.length > 60
  · (try refine lhgo ⟨?_⟩)
    refine ⟨by first | exact .inr rfl | exact .inl rfl, .inl ⟨[], _, (by dsimp only [Try.f7]; exact lhsv), ?_, ?_⟩⟩
    · rfl
    · exact st2_take
  (try refine lhgo ⟨?_⟩)
  refine c_loop (fun g s => ∃ (i : Nat) (D : DK) (R : RK), (i ≤ l.length ∧ g = l.length - i ∧ Rel D R) ∧ (s.env.length = 131 ∧ s.sto = st2 sto D R ∧ s.env[0]? = some (.v (VI m)) ∧ s.env[1]? = some (.v (.sl l.length A)) ∧ s.env[2]? = some (.v (.sl l2.length B)) ∧ s.env[3]? = some (.v (.sl l3.length C)) ∧ s.env[9]? = some (.v (.bool true)) ∧ s.env[10]? = some (.ptr (sto.length + 3) 0) ∧ s.env[11]? = some (.ptr (sto.length + 4) 0) ∧ s.env[12]? = some (.v (.bool true)) ∧ s.env[13]? = some (.v (VI i)))) (.refl _) ⟨0, newD m, newRK m, ⟨by omega, rfl, rel_new h0 (by omega)⟩, rfl, rfl, ?_, ?_, ?_, ?_, ?_, ?_, ?_, ?_, ?_⟩ ?_
  all_goals first | rfl | skip
  rintro g s ⟨i, D, R, ⟨h1, rfl, hrel⟩, hL, hT, k0, k1, k2, k3, k9, k10, k11, k12, k13⟩
  obtain ⟨env, st0⟩ := s; obtain ⟨J, hJ⟩ := listJ hL; rw [show (List.range 131).map J = J 0 :: J 1 :: J 2 :: J 3 :: J 4 :: J 5 :: J 6 :: J 7 :: J 8 :: J 9 :: J 10 :: J 11 :: J 12 :: J 13 :: J 14 :: J 15 :: J 16 :: J 17 :: J 18 :: J 19 :: J 20 :: J 21 :: J 22 :: J 23 :: J 24 :: J 25 :: J 26 :: J 27 :: J 28 :: J 29 :: J 30 :: J 31 :: J 32 :: J 33 :: J 34 :: J 35 :: J 36 :: J 37 :: J 38 :: J 39 :: J 40 :: J 41 :: J 42 :: J 43 :: J 44 :: J 45 :: J 46 :: J 47 :: J 48 :: J 49 :: J 50 :: J 51 :: J 52 :: J 53 :: J 54 :: J 55 :: J 56 :: J 57 :: J 58 :: J 59 :: J 60 :: J 61 :: J 62 :: J 63 :: J 64 :: J 65 :: J 66 :: J 67 :: J 68 :: J 69 :: J 70 :: J 71 :: J 72 :: J 73 :: J 74 :: J 75 :: J 76 :: J 77 :: J 78 :: J 79 :: J 80 :: J 81 :: J 82 :: J 83 :: J 84 :: J 85 :: J 86 :: J 87 :: J 88 :: J 89 :: J 90 :: J 91 :: J 92 :: J 93 :: J 94 :: J 95 :: J 96 :: J 97 :: J 98 :: J 99 :: J 100 :: J 101 :: J 102 :: J 103 :: J 104 :: J 105 :: J 106 :: J 107 :: J 108 :: J 109 :: J 110 :: J 111 :: J 112 :: J 113 :: J 114 :: J 115 :: J 116 :: J 117 :: J 118 :: J 119 :: J 120 :: J 121 :: J 122 :: J 123 :: J 124 :: J 125 :: J 126 :: J 127 :: J 128 :: J 129 :: J 130 :: [] from by kernel_rfl] at hJ; replace k0 := Option.some.inj ((congrArg (·[0]?) hJ).symm.trans k0); replace k1 := Option.some.inj ((congrArg (·[1]?) hJ).symm.trans k1); replace k2 := Option.some.inj ((congrArg (·[2]?) hJ).symm.trans k2); replace k3 := Option.some.inj ((congrArg (·[3]?) hJ).symm.trans k3); replace k9 := Option.some.inj ((congrArg (·[9]?) hJ).symm.trans k9); replace k10 := Option.some.inj ((congrArg (·[10]?) hJ).symm.trans k10); replace k11 := Option.some.inj ((congrArg (·[11]?) hJ).symm.trans k11); replace k12 := Option.some.inj ((congrArg (·[12]?) hJ).symm.trans k12); replace k13 := Option.some.inj ((congrArg (·[13]?) hJ).symm.trans k13); rw [k0, k1, k2, k3, k9, k10, k11, k12, k13] at hJ; dsimp only at hJ hT; subst hJ; replace hT := hT.symm; subst hT; clear hL k0 k1 k2 k3 k9 k10 k11 k12 k13
  by_cases hb : i < l.length
  · have hm := hcg i hb
    have ho := hl _ (List.getElem_mem hb)
    clear hl hcg hl2 hcg2 hl3 hcg3
    have c1 := do_ev D hrel.dok l[i] ho sto.length
    have c2 := rdo_ev R hrel.rok l[i] ho (sto.length + 4) (sto.length + 5) (by omega)
    obtain ⟨e1, e2⟩ := rel_do hrel l[i] ho
    clear e1 hrel
    generalize (doS D l[i]).2 = r at *
    generalize (doS D l[i]).1 = D1 at *
    generalize (rdoS R l[i]).2 = rr at *
    generalize (rdoS R l[i]).1 = R1 at *
    obtain ⟨ra, re⟩ := r
    obtain ⟨rra, rre⟩ := rr
    dsimp only at c1 c2
    (try refine lhgo ⟨?_⟩)
    refine ops_callW rfl (by exact lhsv) (DiskW.s2 c1 hlo) ho_st2 ?_; simp only [go_sem]
    (try refine lhgo ⟨?_⟩)
    refine ops_callW rfl (by exact lhsv) (RefW.s2 c2 hlo) ho_st2 ?_; simp only [go_sem]
    (try refine lhgo ⟨?_⟩)
    refine ⟨_, _, ?_, .refl _, i + 1, D1, R1, ⟨by omega, rfl, e2⟩, rfl, rfl, ?_, ?_, ?_, ?_, ?_, ?_, ?_, ?_, ?_⟩
    · omega
    all_goals rfl
  clear hl hcg hcl
  have c1 := clone_s2 (sto := sto) (D := D) (R := R) hrel.dok hlo
  have c2 := rclone_s3 (sto := sto) (D := D) (R := R) hrel.rok hlo
  have c3 := same_at D R hrel (sto.length + 6) (sto.length + 11) (sto.length + 10) (by omega) (st4 sto D R D R) st4_c st4_s lo (by rw [st4_len]; omega)
  (try refine lhgo ⟨?_⟩)
  refine ops_callW rfl (by exact lhsv) c1 ho_st24 ?_
  simp only [go_sem]
  (try refine lhgo ⟨?_⟩)
  refine ops_callW rfl (by exact lhsv) c2 ho_st34 ?_
  simp only [go_sem]
  (try refine lhgo ⟨?_⟩)
  ((refine lhcall ?_); (refine ⟨_, c3, ?_⟩); (try simp only [go_sem]))
  (try refine lhgo ⟨?_⟩)
  clear c1 c2 c3
  obtain ⟨D0, hD0⟩ : ∃ D0, D0 = D := ⟨_, rfl⟩
  obtain ⟨R0, hR0⟩ : ∃ R0, R0 = R := ⟨_, rfl⟩
  have hrel0 : Rel D0 R0 := by rw [hD0, hR0]; exact hrel
  have est : st4 sto D R D R = st4 sto D R D0 R0 := by rw [hD0, hR0]
  rw [est]
  clear est hD0 hR0
  refine c_loop (fun g s => ∃ (i : Nat) (D : DK) (R : RK), (i ≤ l2.length ∧ g = l2.length - i ∧ Rel D R) ∧ (s.env.length = 131 ∧ s.sto = st4 sto D R D0 R0 ∧ s.env[2]? = some (.v (.sl l2.length B)) ∧ s.env[3]? = some (.v (.sl l3.length C)) ∧ s.env[9]? = some (.v (.bool true)) ∧ s.env[10]? = some (.ptr (sto.length + 3) 0) ∧ s.env[11]? = some (.ptr (sto.length + 4) 0) ∧ s.env[14]? = some (.ptr (sto.length + 9) 0) ∧ s.env[15]? = some (.ptr (sto.length + 11) 0) ∧ s.env[16]? = some (.v (VI i)))) (.refl _) ⟨0, D, R, ⟨by omega, rfl, hrel⟩, rfl, rfl, ?_, ?_, ?_, ?_, ?_, ?_, ?_, ?_⟩ ?_
  all_goals first | rfl | skip
  clear hrel
  rintro g s ⟨i, D, R, ⟨h1, rfl, hrel⟩, hL, hT, k2, k3, k9, k10, k11, k14, k15, k16⟩
  obtain ⟨env, st0⟩ := s; obtain ⟨J, hJ⟩ := listJ hL; rw [show (List.range 131).map J = J 0 :: J 1 :: J 2 :: J 3 :: J 4 :: J 5 :: J 6 :: J 7 :: J 8 :: J 9 :: J 10 :: J 11 :: J 12 :: J 13 :: J 14 :: J 15 :: J 16 :: J 17 :: J 18 :: J 19 :: J 20 :: J 21 :: J 22 :: J 23 :: J 24 :: J 25 :: J 26 :: J 27 :: J 28 :: J 29 :: J 30 :: J 31 :: J 32 :: J 33 :: J 34 :: J 35 :: J 36 :: J 37 :: J 38 :: J 39 :: J 40 :: J 41 :: J 42 :: J 43 :: J 44 :: J 45 :: J 46 :: J 47 :: J 48 :: J 49 :: J 50 :: J 51 :: J 52 :: J 53 :: J 54 :: J 55 :: J 56 :: J 57 :: J 58 :: J 59 :: J 60 :: J 61 :: J 62 :: J 63 :: J 64 :: J 65 :: J 66 :: J 67 :: J 68 :: J 69 :: J 70 :: J 71 :: J 72 :: J 73 :: J 74 :: J 75 :: J 76 :: J 77 :: J 78 :: J 79 :: J 80 :: J 81 :: J 82 :: J 83 :: J 84 :: J 85 :: J 86 :: J 87 :: J 88 :: J 89 :: J 90 :: J 91 :: J 92 :: J 93 :: J 94 :: J 95 :: J 96 :: J 97 :: J 98 :: J 99 :: J 100 :: J 101 :: J 102 :: J 103 :: J 104 :: J 105 :: J 106 :: J 107 :: J 108 :: J 109 :: J 110 :: J 111 :: J 112 :: J 113 :: J 114 :: J 115 :: J 116 :: J 117 :: J 118 :: J 119 :: J 120 :: J 121 :: J 122 :: J 123 :: J 124 :: J 125 :: J 126 :: J 127 :: J 128 :: J 129 :: J 130 :: [] from by kernel_rfl] at hJ; replace k2 := Option.some.inj ((congrArg (·[2]?) hJ).symm.trans k2); replace k3 := Option.some.inj ((congrArg (·[3]?) hJ).symm.trans k3); replace k9 := Option.some.inj ((congrArg (·[9]?) hJ).symm.trans k9); replace k10 := Option.some.inj ((congrArg (·[10]?) hJ).symm.trans k10); replace k11 := Option.some.inj ((congrArg (·[11]?) hJ).symm.trans k11); replace k14 := Option.some.inj ((congrArg (·[14]?) hJ).symm.trans k14); replace k15 := Option.some.inj ((congrArg (·[15]?) hJ).symm.trans k15); replace k16 := Option.some.inj ((congrArg (·[16]?) hJ).symm.trans k16); rw [k2, k3, k9, k10, k11, k14, k15, k16] at hJ; dsimp only at hJ hT; subst hJ; replace hT := hT.symm; subst hT; clear hL k2 k3 k9 k10 k11 k14 k15 k16
  by_cases hb : i < l2.length
  · have hm := hcg2 i hb
    have ho := hl2 _ (List.getElem_mem hb)
    clear hl2 hcg2 hl3 hcg3 hrel0
    have c1 := (do_ev D hrel.dok l2[i] ho sto.length).here (s := st4 sto D R D0 R0) st4_d hlo
    rw [st4_putd] at c1
    have c2 := (rdo_ev R hrel.rok l2[i] ho (sto.length + 4) (sto.length + 5) (by omega)).here (by omega) (s := st4 sto (doS D l2[i]).1 R D0 R0) st4_r (lo := lo) (by omega) (by omega)
    rw [st4_putr] at c2
    obtain ⟨e1, e2⟩ := rel_do hrel l2[i] ho
    clear e1 hrel
    generalize (doS D l2[i]).2 = r at *
    generalize (doS D l2[i]).1 = D1 at *
    generalize (rdoS R l2[i]).2 = rr at *
    generalize (rdoS R l2[i]).1 = R1 at *
    obtain ⟨ra, re⟩ := r
    obtain ⟨rra, rre⟩ := rr
    dsimp only at c1 c2
    (try refine lhgo ⟨?_⟩)
    refine ops_callW rfl (by exact lhsv) c1 ho_st4 ?_; simp only [go_sem]
    (try refine lhgo ⟨?_⟩)
    refine ops_callW rfl (by exact lhsv) c2 ho_st4 ?_; simp only [go_sem]
    (try refine lhgo ⟨?_⟩)
    refine ⟨_, _, ?_, .refl _, i + 1, D1, R1, ⟨by omega, rfl, e2⟩, rfl, rfl, ?_, ?_, ?_, ?_, ?_, ?_, ?_, ?_⟩
    · omega
    all_goals rfl
  clear hl2 hcg2 hcl2
  obtain ⟨D2, hD2⟩ : ∃ D2, D2 = D := ⟨_, rfl⟩
  obtain ⟨R2, hR2⟩ : ∃ R2, R2 = R := ⟨_, rfl⟩
  rw [← hD2, ← hR2] at hrel ⊢
  clear hD2 hR2
  (try refine lhgo ⟨?_⟩)
  refine c_loop (fun g s => ∃ (i : Nat) (D : DK) (R : RK), (i ≤ l3.length ∧ g = l3.length - i ∧ Rel D R) ∧ (s.env.length = 131 ∧ s.sto = st4 sto D2 R2 D R ∧ s.env[3]? = some (.v (.sl l3.length C)) ∧ s.env[9]? = some (.v (.bool true)) ∧ s.env[10]? = some (.ptr (sto.length + 3) 0) ∧ s.env[11]? = some (.ptr (sto.length + 4) 0) ∧ s.env[14]? = some (.ptr (sto.length + 9) 0) ∧ s.env[15]? = some (.ptr (sto.length + 11) 0) ∧ s.env[17]? = some (.v (VI i)))) (.refl _) ⟨0, D0, R0, ⟨by omega, rfl, hrel0⟩, rfl, rfl, ?_, ?_, ?_, ?_, ?_, ?_, ?_⟩ ?_
  all_goals first | rfl | skip
  clear hrel0
  rintro g s ⟨i, D, R, ⟨h1, rfl, hrel3⟩, hL, hT, k3, k9, k10, k11, k14, k15, k17⟩
  obtain ⟨env, st0⟩ := s; obtain ⟨J, hJ⟩ := listJ hL; rw [show (List.range 131).map J = J 0 :: J 1 :: J 2 :: J 3 :: J 4 :: J 5 :: J 6 :: J 7 :: J 8 :: J 9 :: J 10 :: J 11 :: J 12 :: J 13 :: J 14 :: J 15 :: J 16 :: J 17 :: J 18 :: J 19 :: J 20 :: J 21 :: J 22 :: J 23 :: J 24 :: J 25 :: J 26 :: J 27 :: J 28 :: J 29 :: J 30 :: J 31 :: J 32 :: J 33 :: J 34 :: J 35 :: J 36 :: J 37 :: J 38 :: J 39 :: J 40 :: J 41 :: J 42 :: J 43 :: J 44 :: J 45 :: J 46 :: J 47 :: J 48 :: J 49 :: J 50 :: J 51 :: J 52 :: J 53 :: J 54 :: J 55 :: J 56 :: J 57 :: J 58 :: J 59 :: J 60 :: J 61 :: J 62 :: J 63 :: J 64 :: J 65 :: J 66 :: J 67 :: J 68 :: J 69 :: J 70 :: J 71 :: J 72 :: J 73 :: J 74 :: J 75 :: J 76 :: J 77 :: J 78 :: J 79 :: J 80 :: J 81 :: J 82 :: J 83 :: J 84 :: J 85 :: J 86 :: J 87 :: J 88 :: J 89 :: J 90 :: J 91 :: J 92 :: J 93 :: J 94 :: J 95 :: J 96 :: J 97 :: J 98 :: J 99 :: J 100 :: J 101 :: J 102 :: J 103 :: J 104 :: J 105 :: J 106 :: J 107 :: J 108 :: J 109 :: J 110 :: J 111 :: J 112 :: J 113 :: J 114 :: J 115 :: J 116 :: J 117 :: J 118 :: J 119 :: J 120 :: J 121 :: J 122 :: J 123 :: J 124 :: J 125 :: J 126 :: J 127 :: J 128 :: J 129 :: J 130 :: [] from by kernel_rfl] at hJ; replace k3 := Option.some.inj ((congrArg (·[3]?) hJ).symm.trans k3); replace k9 := Option.some.inj ((congrArg (·[9]?) hJ).symm.trans k9); replace k10 := Option.some.inj ((congrArg (·[10]?) hJ).symm.trans k10); replace k11 := Option.some.inj ((congrArg (·[11]?) hJ).symm.trans k11); replace k14 := Option.some.inj ((congrArg (·[14]?) hJ).symm.trans k14); replace k15 := Option.some.inj ((congrArg (·[15]?) hJ).symm.trans k15); replace k17 := Option.some.inj ((congrArg (·[17]?) hJ).symm.trans k17); rw [k3, k9, k10, k11, k14, k15, k17] at hJ; dsimp only at hJ hT; subst hJ; replace hT := hT.symm; subst hT; clear hL k3 k9 k10 k11 k14 k15 k17
  by_cases hb : i < l3.length
  · have hm := hcg3 i hb
    have ho := hl3 _ (List.getElem_mem hb)
    clear hl3 hcg3 hrel
    have c1 := (do_ev D hrel3.dok l3[i] ho (sto.length + 6)).here (s := st4 sto D2 R2 D R) st4_c (lo := lo) (by omega)
    rw [st4_putc] at c1
    have c2 := (rdo_ev R hrel3.rok l3[i] ho (sto.length + 11) (sto.length + 10) (by omega)).here (by omega) (s := st4 sto D2 R2 (doS D l3[i]).1 R) st4_s (lo := lo) (by omega) (by omega)
    rw [st4_puts] at c2
    obtain ⟨e1, e2⟩ := rel_do hrel3 l3[i] ho
    clear e1 hrel3
    generalize (doS D l3[i]).2 = r at *
    generalize (doS D l3[i]).1 = D1 at *
    generalize (rdoS R l3[i]).2 = rr at *
    generalize (rdoS R l3[i]).1 = R1 at *
    obtain ⟨ra, re⟩ := r
    obtain ⟨rra, rre⟩ := rr
    dsimp only at c1 c2
    (try refine lhgo ⟨?_⟩)
    refine ops_callW rfl (by exact lhsv) c1 ho_st4 ?_; simp only [go_sem]
    (try refine lhgo ⟨?_⟩)
    refine ops_callW rfl (by exact lhsv) c2 ho_st4 ?_; simp only [go_sem]
    (try refine lhgo ⟨?_⟩)
    refine ⟨_, _, ?_, .refl _, i + 1, D1, R1, ⟨by omega, rfl, e2⟩, rfl, rfl, ?_, ?_, ?_, ?_, ?_, ?_, ?_⟩
    · omega
    all_goals rfl
  clear hl3 hcg3 hcl3
  have c1 := same_at D2 R2 hrel sto.length (sto.length + 4) (sto.length + 5) (by omega) (st4 sto D2 R2 D R) st4_d st4_r lo (by rw [st4_len]; omega)
  have c2 := same_at D R hrel3 (sto.length + 6) (sto.length + 11) (sto.length + 10) (by omega) (st4 sto D2 R2 D R) st4_c st4_s lo (by rw [st4_len]; omega)
  (try refine lhgo ⟨?_⟩)
  ((refine lhcall ?_); (refine ⟨_, c1, ?_⟩); (try simp only [go_sem]))
  (try refine lhgo ⟨?_⟩)
  ((refine lhcall ?_); (refine ⟨_, c2, ?_⟩); (try simp only [go_sem]))
  (try refine lhgo ⟨?_⟩)
  refine ⟨by first | exact .inr rfl | exact .inl rfl, .inl ⟨[], _, (by dsimp only [Try.f7]; exact lhsv), ?_, ?_⟩⟩
  · rfl
  · exact st4_take
end Go.Proofs.Ytghdanpigohnjaa
namespace Go.Proofs.Ytghdanpigohnjaa.diskClones
open Go Go.ChangeShapes Go.WideShapes Go.ChangeAt Go.RowKit

set_option maxRecDepth 100000 in
theorem lifted (os : Os) (started : os.Started) (H : Type) (enc : TypeId × Value → H) :
    ReturnsInHanded {} Try.checked os 7 .any (Rows.diskClonesSpec.pre6 enc Try.prog Try.f7 Rows.diskClonesRow.domain false) (Rows.diskClonesSpec.post enc Try.prog Try.f7 false true false false) := by
  refine returnsInHanded_of_change (C := Try.checked) own started (by kernel_rfl) Try.func7
    (ChangeSpec.witness6 (enc := enc) (C := Try.checked) false ⟨#[], #[.int .i64 0, .slice none 0 0, .slice none 0 0, .slice none 0 0], []⟩ 8 (by kernel_rfl) (by kernel_rfl) (by kernel_rfl) (by kernel_rfl)) ?_
  intro W base args ds gs before hval0 hW hcnd _
  have hval : ∀ (j : Nat) t v, Try.f7.params[j]? = some t → args[j]? = some v → Value.okWide Try.prog W .any base t v := hval0
  have hW' := hW
  obtain ⟨p, q, hA0, hV, rfl, hfz, hnd⟩ := hW
  have hA : DataW.TrodAll enc Try.prog W 0 (fun _ => true) true Try.f7.params.toList args.toList ds p := hA0
  rw [Try.params7] at hA hval
  obtain ⟨v0, vs0, d0, ds0, p0, q0, hargs, rfl, rfl, hd0, r0⟩ := trodAll_cons hA
  obtain ⟨v1, vs1, d1, ds1, p1, q1, rfl, rfl, rfl, hd1, r1⟩ := trodAll_cons r0
  obtain ⟨v2, vs2, d2, ds2, p2, q2, rfl, rfl, rfl, hd2, r2⟩ := trodAll_cons r1
  obtain ⟨v3, vs3, d3, ds3, p3, q3, rfl, rfl, rfl, hd3, r3⟩ := trodAll_cons r2
  obtain ⟨rfl, rfl, rfl⟩ := trodAll_nil r3
  obtain rfl : args = #[v0, v1, v2, v3] := by cases args; simp_all
  obtain ⟨a0, rfl, rfl, rfl, wa0⟩ := open_int Try.underlying3 (hval 0 3 v0 rfl rfl) hd0
  have b0 := i64_wf wa0
  obtain ⟨l1, h1⟩ := opens_ops.arg Try.underlying22 (hval 1 22 v1 rfl rfl) hd1
  obtain ⟨l2, h2⟩ := opens_ops.arg Try.underlying22 (hval 2 22 v2 rfl rfl) hd2
  obtain ⟨l3, h3⟩ := opens_ops.arg Try.underlying22 (hval 3 22 v3 rfl rfl) hd3
  refine (law_calls (vals := [.int .i64 a0, v1, v2, v3]) (xs := [VI a0, OPL l1, OPL l2, OPL l3]) dB_ok (clones_ev a0 l1 l2 l3 h1.1 h2.1 h3.1 h1.2.1 h2.2.1 h3.2.1 [] 0 (Nat.zero_le _)) (Pw.cons (rep_int a0) (Pw.cons h1.2.2 (Pw.cons h2.2.2 (Pw.cons h3.2.2 Pw.nil))))).mono fun e W' ⟨he, hb⟩ => ?_
  subst he
  exact ⟨_, rfl, law_post hW' rfl laidOut (by kernel_rfl) rfl Try.underlying4 (fun ds h => match ds, h with | [_, _, _, _], _ => rfl) hb⟩

theorem proved : Rows.DiskClonesSaid :=
  OpenClaim.holds_of_wide 7 Try.f7 rfl rfl rfl rfl rfl rfl rfl ⟨rfl, rfl, rfl, rfl, rfl⟩ rfl rfl rfl rfl rfl (by kernel_rfl) Try.func7 (by kernel_rfl)
    (of_decide_eq_true (by kernel_rfl)) (by unfold Func.isWrapper; first | (rw [if_pos (by decide +kernel)]; kernel_rfl) | (rw [if_neg (by decide +kernel)]; exact ⟨rfl, rfl⟩))
    (fun os started H enc _ => lifted os started H enc)
#print axioms proved
end Go.Proofs.Ytghdanpigohnjaa.diskClones
