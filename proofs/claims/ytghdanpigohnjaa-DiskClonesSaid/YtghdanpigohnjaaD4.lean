/-
  The reference's disk: Write, settle. No condition of its own. The reference's disk: Rot. No condition of its own. The reference's disk: New. No condition of its own. The reference's disk: Image, Pending, Worn. No condition of its own. The reference's disk: settle, Rot. No condition of its own. The reference's disk: Flush, Mount. No condition of its own. The disk and the reference's disk answer alike: plain words. No condition of its own. The disk and the reference's disk answer alike: Flush, Mount, scripts. No condition of its own. The law's small functions: Text, SameTexts, SameInts, full. No condition of its own. The law's small functions: SameTexts, full, do. No condition of its own. The law's small functions: the reference's Do. No condition of its own. The law's small functions: full. No condition of its own.
-/
import Derived.Test.YtghdanpigohnjaaD3
namespace Go.Proofs.Ytghdanpigohnjaa
open Go Go.RowKit

attribute [local irreducible] EvOps EvC
attribute [local go_sem] List.getElem?_toArray List.flatten_cons List.flatten_nil List.contains_nil List.append_nil List.nil_append List.length_set Bool.and_self implies_true eq_self Nat.zero_mul Nat.add_zero Nat.zero_add Nat.sub_zero List.take_zero List.drop_zero List.drop_replicate Nat.sub_self List.replicate_zero List.map_nil List.map_append List.length_replicate
attribute [local go_sem] bytesV_bs strV_u8s bs_size u8s_len bs_extract bs_append bs_beq bs_nil bs_nil2
attribute [local go_sem] putD_len putD_b putD_p putD_w putD_d putD_app putD_put putD_get0 putD_get putD_set0 putD_set putD_take putD_takeN putD_setd putD_setw putD_setp getLD setLD
set_option linter.unusedSimpArgs false
set_option linter.unusedVariables false
set_option maxRecDepth 100000
set_option maxHeartbeats 4000000
attribute [local go_sem] take_u8 take_u8v drop_u8v len_u8v viewL_mv eqVs_u8s zsV_Z64 Z64_len Nat.min_self Nat.min_eq_right

attribute [local go_sem] putR_len putR_s putR_d putR_app putR_put putR_get0 putR_get putR_set0 putR_set putR_take putR_takeN putR_setd getLR setLR cellsR

theorem rtgo {p q : Prop} (k : Later q) (h : Later q → p := by (intro k; (first | with_reducible (first | refine c_seq ?_ | refine c_block ?_ | refine c_region ?_ | refine c_skip ?_ | refine c_exit ?_ | refine c_ret ?_ | refine then_normal ?_ | refine then_exit ?_ | refine then_ret ?_ | refine block_normal ?_ | refine block_here ?_ | refine block_ret ?_ | refine block_far (by decide) ?_ | refine ops_nil ?_ | refine c_cond_t rfl ?_ | refine c_cond_f rfl ?_) | ((with_reducible apply ops_pure); rfl; (simp (disch := (first | omega | assumption | ((repeat' with_reducible apply And.intro) <;> first | omega | assumption | rfl | (apply Or.inl; rfl) | (apply Or.inr; first | rfl | trivial | fail) | fail) | fail)) only [go_sem, if_pos, if_neg, wrapI, wrapU, decide_eq_true, decide_eq_false, beqT, beqF, bneT, bneF, hm, hm2, hm3, hm4, hm5] <;> rfl); simp only [go_sem]) | ((with_reducible apply ops_pureF); rfl; (intro _; simp (disch := (first | omega | assumption | ((repeat' with_reducible apply And.intro) <;> first | omega | assumption | rfl | (apply Or.inl; rfl) | (apply Or.inr; first | rfl | trivial | fail) | fail) | fail)) only [go_sem, if_pos, if_neg, wrapI, wrapU, decide_eq_true, decide_eq_false, beqT, beqF, bneT, bneF, hm, hm2, hm3, hm4, hm5] <;> rfl); simp only [go_sem]) | ((with_reducible apply ops_pureD); kernel_rfl; rfl; (simp (disch := (first | omega | assumption | ((repeat' with_reducible apply And.intro) <;> first | omega | assumption | rfl | (apply Or.inl; rfl) | (apply Or.inr; first | rfl | trivial | fail) | fail) | fail)) only [go_sem, if_pos, if_neg, wrapI, wrapU, decide_eq_true, decide_eq_false, beqT, beqF, bneT, bneF, hm, hm2, hm3, hm4, hm5] <;> rfl); simp only [go_sem]) | ((with_reducible apply ops_skip); rfl; simp only [go_sem]) | ((with_reducible apply c_regionD); kernel_rfl) | ((first | ((with_reducible apply ops_eff); decide) | (with_reducible apply ops_lit)); rfl; (simp (disch := (first | omega | assumption | ((repeat' with_reducible apply And.intro) <;> first | omega | assumption | rfl | (apply Or.inl; rfl) | (apply Or.inr; first | rfl | trivial | fail) | fail) | fail)) only [go_sem, if_pos, if_neg, wrapI, wrapU, decide_eq_true, decide_eq_false, beqT, beqF, bneT, bneF, hm, hm2, hm3, hm4, hm5] <;> rfl); simp only [go_sem])); (repeat (first | with_reducible (first | refine c_seq ?_ | refine c_block ?_ | refine c_region ?_ | refine c_skip ?_ | refine c_exit ?_ | refine c_ret ?_ | refine then_normal ?_ | refine then_exit ?_ | refine then_ret ?_ | refine block_normal ?_ | refine block_here ?_ | refine block_ret ?_ | refine block_far (by decide) ?_ | refine ops_nil ?_ | refine c_cond_t rfl ?_ | refine c_cond_f rfl ?_) | ((with_reducible apply ops_pure); rfl; (simp (disch := (first | omega | assumption | ((repeat' with_reducible apply And.intro) <;> first | omega | assumption | rfl | (apply Or.inl; rfl) | (apply Or.inr; first | rfl | trivial | fail) | fail) | fail)) only [go_sem, if_pos, if_neg, wrapI, wrapU, decide_eq_true, decide_eq_false, beqT, beqF, bneT, bneF, hm, hm2, hm3, hm4, hm5] <;> rfl); simp only [go_sem]) | ((with_reducible apply ops_pureF); rfl; (intro _; simp (disch := (first | omega | assumption | ((repeat' with_reducible apply And.intro) <;> first | omega | assumption | rfl | (apply Or.inl; rfl) | (apply Or.inr; first | rfl | trivial | fail) | fail) | fail)) only [go_sem, if_pos, if_neg, wrapI, wrapU, decide_eq_true, decide_eq_false, beqT, beqF, bneT, bneF, hm, hm2, hm3, hm4, hm5] <;> rfl); simp only [go_sem]) | ((with_reducible apply ops_pureD); kernel_rfl; rfl; (simp (disch := (first | omega | assumption | ((repeat' with_reducible apply And.intro) <;> first | omega | assumption | rfl | (apply Or.inl; rfl) | (apply Or.inr; first | rfl | trivial | fail) | fail) | fail)) only [go_sem, if_pos, if_neg, wrapI, wrapU, decide_eq_true, decide_eq_false, beqT, beqF, bneT, bneF, hm, hm2, hm3, hm4, hm5] <;> rfl); simp only [go_sem]) | ((with_reducible apply ops_skip); rfl; simp only [go_sem]) | ((with_reducible apply c_regionD); kernel_rfl) | ((first | ((with_reducible apply ops_eff); decide) | (with_reducible apply ops_lit)); rfl; (simp (disch := (first | omega | assumption | ((repeat' with_reducible apply And.intro) <;> first | omega | assumption | rfl | (apply Or.inl; rfl) | (apply Or.inr; first | rfl | trivial | fail) | fail) | fail)) only [go_sem, if_pos, if_neg, wrapI, wrapU, decide_eq_true, decide_eq_false, beqT, beqF, bneT, bneF, hm, hm2, hm3, hm4, hm5] <;> rfl); simp only [go_sem]))); exact k.get)) : p := h k
theorem rtgoL {p q : Prop} (k : Later q) (h : Later q → p := by (intro k; (first | with_reducible (first | refine c_seq ?_ | refine c_block ?_ | refine c_region ?_ | refine c_skip ?_ | refine c_exit ?_ | refine c_ret ?_ | refine then_normal ?_ | refine then_exit ?_ | refine then_ret ?_ | refine block_normal ?_ | refine block_here ?_ | refine block_ret ?_ | refine block_far (by decide) ?_ | refine ops_nil ?_ | refine c_cond_t rfl ?_ | refine c_cond_f rfl ?_) | ((with_reducible apply ops_lit); rfl; (simp (disch := (first | omega | assumption | ((repeat' with_reducible apply And.intro) <;> first | omega | assumption | rfl | (apply Or.inl; rfl) | (apply Or.inr; first | rfl | trivial | fail) | fail) | fail)) only [go_sem, if_pos, if_neg, wrapI, wrapU, decide_eq_true, decide_eq_false, beqT, beqF, bneT, bneF, hm, hm2, hm3, hm4, hm5] <;> rfl); simp only [go_sem]) | ((with_reducible apply ops_pure); rfl; (simp (disch := (first | omega | assumption | ((repeat' with_reducible apply And.intro) <;> first | omega | assumption | rfl | (apply Or.inl; rfl) | (apply Or.inr; first | rfl | trivial | fail) | fail) | fail)) only [go_sem, if_pos, if_neg, wrapI, wrapU, decide_eq_true, decide_eq_false, beqT, beqF, bneT, bneF, hm, hm2, hm3, hm4, hm5] <;> rfl); simp only [go_sem]) | ((with_reducible apply ops_pureF); rfl; (intro _; simp (disch := (first | omega | assumption | ((repeat' with_reducible apply And.intro) <;> first | omega | assumption | rfl | (apply Or.inl; rfl) | (apply Or.inr; first | rfl | trivial | fail) | fail) | fail)) only [go_sem, if_pos, if_neg, wrapI, wrapU, decide_eq_true, decide_eq_false, beqT, beqF, bneT, bneF, hm, hm2, hm3, hm4, hm5] <;> rfl); simp only [go_sem]) | ((with_reducible apply ops_pureD); kernel_rfl; rfl; (simp (disch := (first | omega | assumption | ((repeat' with_reducible apply And.intro) <;> first | omega | assumption | rfl | (apply Or.inl; rfl) | (apply Or.inr; first | rfl | trivial | fail) | fail) | fail)) only [go_sem, if_pos, if_neg, wrapI, wrapU, decide_eq_true, decide_eq_false, beqT, beqF, bneT, bneF, hm, hm2, hm3, hm4, hm5] <;> rfl); simp only [go_sem]) | ((with_reducible apply ops_skip); rfl; simp only [go_sem]) | ((with_reducible apply c_regionD); kernel_rfl) | ((first | ((with_reducible apply ops_eff); decide) | (with_reducible apply ops_lit)); rfl; (simp (disch := (first | omega | assumption | ((repeat' with_reducible apply And.intro) <;> first | omega | assumption | rfl | (apply Or.inl; rfl) | (apply Or.inr; first | rfl | trivial | fail) | fail) | fail)) only [go_sem, if_pos, if_neg, wrapI, wrapU, decide_eq_true, decide_eq_false, beqT, beqF, bneT, bneF, hm, hm2, hm3, hm4, hm5] <;> rfl); simp only [go_sem])); (repeat (first | with_reducible (first | refine c_seq ?_ | refine c_block ?_ | refine c_region ?_ | refine c_skip ?_ | refine c_exit ?_ | refine c_ret ?_ | refine then_normal ?_ | refine then_exit ?_ | refine then_ret ?_ | refine block_normal ?_ | refine block_here ?_ | refine block_ret ?_ | refine block_far (by decide) ?_ | refine ops_nil ?_ | refine c_cond_t rfl ?_ | refine c_cond_f rfl ?_) | ((with_reducible apply ops_lit); rfl; (simp (disch := (first | omega | assumption | ((repeat' with_reducible apply And.intro) <;> first | omega | assumption | rfl | (apply Or.inl; rfl) | (apply Or.inr; first | rfl | trivial | fail) | fail) | fail)) only [go_sem, if_pos, if_neg, wrapI, wrapU, decide_eq_true, decide_eq_false, beqT, beqF, bneT, bneF, hm, hm2, hm3, hm4, hm5] <;> rfl); simp only [go_sem]) | ((with_reducible apply ops_pure); rfl; (simp (disch := (first | omega | assumption | ((repeat' with_reducible apply And.intro) <;> first | omega | assumption | rfl | (apply Or.inl; rfl) | (apply Or.inr; first | rfl | trivial | fail) | fail) | fail)) only [go_sem, if_pos, if_neg, wrapI, wrapU, decide_eq_true, decide_eq_false, beqT, beqF, bneT, bneF, hm, hm2, hm3, hm4, hm5] <;> rfl); simp only [go_sem]) | ((with_reducible apply ops_pureF); rfl; (intro _; simp (disch := (first | omega | assumption | ((repeat' with_reducible apply And.intro) <;> first | omega | assumption | rfl | (apply Or.inl; rfl) | (apply Or.inr; first | rfl | trivial | fail) | fail) | fail)) only [go_sem, if_pos, if_neg, wrapI, wrapU, decide_eq_true, decide_eq_false, beqT, beqF, bneT, bneF, hm, hm2, hm3, hm4, hm5] <;> rfl); simp only [go_sem]) | ((with_reducible apply ops_pureD); kernel_rfl; rfl; (simp (disch := (first | omega | assumption | ((repeat' with_reducible apply And.intro) <;> first | omega | assumption | rfl | (apply Or.inl; rfl) | (apply Or.inr; first | rfl | trivial | fail) | fail) | fail)) only [go_sem, if_pos, if_neg, wrapI, wrapU, decide_eq_true, decide_eq_false, beqT, beqF, bneT, bneF, hm, hm2, hm3, hm4, hm5] <;> rfl); simp only [go_sem]) | ((with_reducible apply ops_skip); rfl; simp only [go_sem]) | ((with_reducible apply c_regionD); kernel_rfl) | ((first | ((with_reducible apply ops_eff); decide) | (with_reducible apply ops_lit)); rfl; (simp (disch := (first | omega | assumption | ((repeat' with_reducible apply And.intro) <;> first | omega | assumption | rfl | (apply Or.inl; rfl) | (apply Or.inr; first | rfl | trivial | fail) | fail) | fail)) only [go_sem, if_pos, if_neg, wrapI, wrapU, decide_eq_true, decide_eq_false, beqT, beqF, bneT, bneF, hm, hm2, hm3, hm4, hm5] <;> rfl); simp only [go_sem]))); exact k.get)) : p := h k
theorem rtgoX {p q : Prop} (k : Later q) (h : Later q → p := by (intro k; (first | with_reducible (first | refine c_seq ?_ | refine c_block ?_ | refine c_skip ?_ | refine c_exit ?_ | refine c_ret ?_ | refine then_normal ?_ | refine then_exit ?_ | refine then_ret ?_ | refine block_normal ?_ | refine block_here ?_ | refine block_ret ?_ | refine block_far (by decide) ?_ | refine ops_nil ?_ | refine c_cond_t rfl ?_ | refine c_cond_f rfl ?_) | ((with_reducible apply ops_pure); rfl; (simp (disch := (first | omega | assumption | ((repeat' with_reducible apply And.intro) <;> first | omega | assumption | rfl | (apply Or.inl; rfl) | (apply Or.inr; first | rfl | trivial | fail) | fail) | fail)) only [go_sem, if_pos, if_neg, wrapI, wrapU, decide_eq_true, decide_eq_false, beqT, beqF, bneT, bneF, hm, hm2, hm3, hm4, hm5] <;> rfl); simp only [go_sem]) | ((with_reducible apply ops_pureF); rfl; (intro _; simp (disch := (first | omega | assumption | ((repeat' with_reducible apply And.intro) <;> first | omega | assumption | rfl | (apply Or.inl; rfl) | (apply Or.inr; first | rfl | trivial | fail) | fail) | fail)) only [go_sem, if_pos, if_neg, wrapI, wrapU, decide_eq_true, decide_eq_false, beqT, beqF, bneT, bneF, hm, hm2, hm3, hm4, hm5] <;> rfl); simp only [go_sem]) | ((with_reducible apply ops_pureD); kernel_rfl; rfl; (simp (disch := (first | omega | assumption | ((repeat' with_reducible apply And.intro) <;> first | omega | assumption | rfl | (apply Or.inl; rfl) | (apply Or.inr; first | rfl | trivial | fail) | fail) | fail)) only [go_sem, if_pos, if_neg, wrapI, wrapU, decide_eq_true, decide_eq_false, beqT, beqF, bneT, bneF, hm, hm2, hm3, hm4, hm5] <;> rfl); simp only [go_sem]) | ((with_reducible apply ops_skip); rfl; simp only [go_sem]) | ((with_reducible apply c_regionD); kernel_rfl) | ((first | ((with_reducible apply ops_eff); decide) | (with_reducible apply ops_lit)); rfl; (simp (disch := (first | omega | assumption | ((repeat' with_reducible apply And.intro) <;> first | omega | assumption | rfl | (apply Or.inl; rfl) | (apply Or.inr; first | rfl | trivial | fail) | fail) | fail)) only [go_sem, if_pos, if_neg, wrapI, wrapU, decide_eq_true, decide_eq_false, beqT, beqF, bneT, bneF, hm, hm2, hm3, hm4, hm5] <;> rfl); simp only [go_sem])); (repeat (first | with_reducible (first | refine c_seq ?_ | refine c_block ?_ | refine c_skip ?_ | refine c_exit ?_ | refine c_ret ?_ | refine then_normal ?_ | refine then_exit ?_ | refine then_ret ?_ | refine block_normal ?_ | refine block_here ?_ | refine block_ret ?_ | refine block_far (by decide) ?_ | refine ops_nil ?_ | refine c_cond_t rfl ?_ | refine c_cond_f rfl ?_) | ((with_reducible apply ops_pure); rfl; (simp (disch := (first | omega | assumption | ((repeat' with_reducible apply And.intro) <;> first | omega | assumption | rfl | (apply Or.inl; rfl) | (apply Or.inr; first | rfl | trivial | fail) | fail) | fail)) only [go_sem, if_pos, if_neg, wrapI, wrapU, decide_eq_true, decide_eq_false, beqT, beqF, bneT, bneF, hm, hm2, hm3, hm4, hm5] <;> rfl); simp only [go_sem]) | ((with_reducible apply ops_pureF); rfl; (intro _; simp (disch := (first | omega | assumption | ((repeat' with_reducible apply And.intro) <;> first | omega | assumption | rfl | (apply Or.inl; rfl) | (apply Or.inr; first | rfl | trivial | fail) | fail) | fail)) only [go_sem, if_pos, if_neg, wrapI, wrapU, decide_eq_true, decide_eq_false, beqT, beqF, bneT, bneF, hm, hm2, hm3, hm4, hm5] <;> rfl); simp only [go_sem]) | ((with_reducible apply ops_pureD); kernel_rfl; rfl; (simp (disch := (first | omega | assumption | ((repeat' with_reducible apply And.intro) <;> first | omega | assumption | rfl | (apply Or.inl; rfl) | (apply Or.inr; first | rfl | trivial | fail) | fail) | fail)) only [go_sem, if_pos, if_neg, wrapI, wrapU, decide_eq_true, decide_eq_false, beqT, beqF, bneT, bneF, hm, hm2, hm3, hm4, hm5] <;> rfl); simp only [go_sem]) | ((with_reducible apply ops_skip); rfl; simp only [go_sem]) | ((with_reducible apply c_regionD); kernel_rfl) | ((first | ((with_reducible apply ops_eff); decide) | (with_reducible apply ops_lit)); rfl; (simp (disch := (first | omega | assumption | ((repeat' with_reducible apply And.intro) <;> first | omega | assumption | rfl | (apply Or.inl; rfl) | (apply Or.inr; first | rfl | trivial | fail) | fail) | fail)) only [go_sem, if_pos, if_neg, wrapI, wrapU, decide_eq_true, decide_eq_false, beqT, beqF, bneT, bneF, hm, hm2, hm3, hm4, hm5] <;> rfl); simp only [go_sem]))); exact k.get)) : p := h k
theorem rtsv {p : Prop} (h : p := by simp (disch := (first | omega | assumption | ((repeat' with_reducible apply And.intro) <;> first | omega | assumption | rfl | (apply Or.inl; rfl) | (apply Or.inr; first | rfl | trivial | fail) | fail) | fail)) only [go_sem, if_pos, if_neg, wrapI, wrapU, decide_eq_true, decide_eq_false, beqT, beqF, bneT, bneF, hm, hm2, hm3, hm4, hm5] <;> rfl) : p := h
theorem rtcall {T : Tab} {X : CallP} {n0 lo : Nat} {wt : List Tmp} {draw : Bool} {ops : Array Oper} {Q : St → Prop} {rest : List Oper} {o : Oper} {env : List D} {sto : Sto} {f : FuncId} {args : List D} (k : ∃ r, X f args sto (if draw then sto.length else lo) r sto ∧ EvOps T X n0 lo wt draw ops Q rest (St.put ⟨env, sto⟩ o.dst r)) (hg : guardD ops o env = some true := by rfl) (h : evCallee (opd env) sto o = some (f, args) := by simp (disch := (first | omega | assumption | ((repeat' with_reducible apply And.intro) <;> first | omega | assumption | rfl | (apply Or.inl; rfl) | (apply Or.inr; first | rfl | trivial | fail) | fail) | fail)) only [go_sem, if_pos, if_neg, wrapI, wrapU, decide_eq_true, decide_eq_false, beqT, beqF, bneT, bneF, hm, hm2, hm3, hm4, hm5] <;> rfl) : EvOps T X n0 lo wt draw ops Q (o :: rest) ⟨env, sto⟩ := k.elim fun _ k => ops_call hg h k.1 k.2
attribute [local go_sem] Nat.zero_mul
def rwriteS (R : RK) (i : Int) (s : By) : RK × Int :=
  if R.off then (R, 18) else if isR R i = false ∨ s.length ≠ 64 then (R, 1) else if (rstepS R).2 ≠ 0 then ((rstepS R).1, (rstepS R).2) else ({ (rstepS R).1 with s := (rstepS R).1.s.set i.toNat { secAt (rstepS R).1 i with nx := s, dy := true } }, 0)
theorem rstep_s (R : RK) : (rstepS R).1.s = R.s := by unfold rstepS; (repeat' split) <;> rfl
theorem rwrite_ev (R : RK) (hR : R.ok) (i : Int) (t : By) (ht : t.length < 9223372036854775808) (q a : Nat) (hqa : q ≠ a) : RefW 32 [.ptr q 0, .v (VI i), .v (STR t)] q a R (.v (VI (rwriteS R i t).2)) (rwriteS R i t).1 := by
  have hc := is_ev R i q a hqa
  have hst := rstep_ev R hR q a hqa
  have hfl := flatR_len R.s
  have hm3 : True := trivial
  have hm4 := hm3
  intro sto lo hq ha hlq hla; refine CallEv.intro ⟨_, _, [], Try.func32, rfl, by decide, ?_⟩; simp only [go_sem, Try.ntmps32]
  cases ho : R.off with
  | true =>
    rw [show rwriteS R i t = (R, 18) by simp [rwriteS, ho]]
    have hm := ho
    have hm2 := hm3
    have hm5 := hm3
    (try refine rtgo ⟨?_⟩)
    refine ⟨by first | exact .inr rfl | exact .inl rfl, .inl ⟨[], _, (by dsimp only [Try.f32]; exact rtsv), ?_, ?_⟩⟩; all_goals (first | rfl | (simp (disch := first | omega | assumption) only [putR_setd, putR_takeN, putR_take]; done) | (simp (disch := first | omega | assumption) only [putR_setd, putR_takeN, putR_take]; rfl) | skip)
  | false =>
    have hm := ho
    cases hi : isR R i with
    | false =>
      rw [show rwriteS R i t = (R, 1) by simp [rwriteS, ho, hi]]
      rw [hi] at hc
      have hm2 := hm3
      have hm5 := hm3
      (try refine rtgo ⟨?_⟩)
      ((refine rtcall ?_); (refine ⟨_, hc _ _ hq ha (by first | omega | (simp only [putR_len, if_true, if_false, reduceIte, Bool.false_eq_true, List.length_append]; omega)), ?_⟩); (try simp only [go_sem]))
      (try refine rtgo ⟨?_⟩)
      refine ⟨by first | exact .inr rfl | exact .inl rfl, .inl ⟨[], _, (by dsimp only [Try.f32]; exact rtsv), ?_, ?_⟩⟩; all_goals (first | rfl | (simp (disch := first | omega | assumption) only [putR_setd, putR_takeN, putR_take]; done) | (simp (disch := first | omega | assumption) only [putR_setd, putR_takeN, putR_take]; rfl) | skip)
    | true =>
      rw [hi] at hc
      by_cases hl : t.length = 64
      · by_cases h3 : (rstepS R).2 = 0
        · obtain ⟨h1, h2⟩ := isR_iff.1 hi
          obtain ⟨i, rfl⟩ := Int.eq_ofNat_of_zero_le h1
          have h4' : i < R.s.length := by omega
          have hs := rstep_s R
          have e : rwriteS R i t = ({ (rstepS R).1 with s := R.s.set i { R.s[i] with nx := t, dy := true } }, 0) := by simp [rwriteS, ho, hi, hl, h3, hs, secAt, List.getD, h4']
          rw [e]
          have hm2 := flatR_put h4' (j := 1) [.str (bs t)] { R.s[i] with nx := t } (by simp) rfl
          have h5 : i < (R.s.set i { R.s[i] with nx := t }).length := by simpa using h4'
          have hm5 := flatR_put h5 (j := 2) [.bool true] { R.s[i] with nx := t, dy := true } (by simp) (by simp [cellsR])
          rw [List.set_set] at hm5
          simp only [List.length_cons, List.length_nil, Nat.zero_add, List.append_assoc, List.cons_append, List.nil_append] at hm2 hm5
          have hl1 : (R.s.set i { R.s[i] with nx := t }).length = R.s.length := by simp
          have hl2 : (R.s.set i { R.s[i] with nx := t, dy := true }).length = (R.s.set i { R.s[i] with nx := t }).length := by simp
          have hf1 := flatR_len (R.s.set i { R.s[i] with nx := t })
          rw [hl1] at hf1
          generalize R.s.set i { R.s[i] with nx := t, dy := true } = s2 at *
          generalize R.s.set i { R.s[i] with nx := t } = s1 at *
          generalize (rstepS R).2 = r at *
          generalize (rstepS R).1 = E at *
          obtain ⟨s, off, lf⟩ := R
          obtain ⟨s', off', lf'⟩ := E
          simp only at *
          subst hs
          subst h3
          (try refine rtgo ⟨?_⟩)
          ((refine rtcall ?_); (refine ⟨_, hc _ _ hq ha (by first | omega | (simp only [putR_len, if_true, if_false, reduceIte, Bool.false_eq_true, List.length_append]; omega)), ?_⟩); (try simp only [go_sem]))
          (try refine rtgo ⟨?_⟩)
          ((with_reducible apply ops_callW); rfl; (simp (disch := (first | omega | assumption | ((repeat' with_reducible apply And.intro) <;> first | omega | assumption | rfl | (apply Or.inl; rfl) | (apply Or.inr; first | rfl | trivial | fail) | fail) | fail)) only [go_sem, if_pos, if_neg, wrapI, wrapU, decide_eq_true, decide_eq_false, beqT, beqF, bneT, bneF, hm, hm2, hm3, hm4, hm5] <;> rfl); (exact hst _ _ hq ha (by omega) (by omega)); (exact ho_putR0 hqa hq ha (by omega) (by omega)); (try simp only [go_sem]))
          (try refine rtgo ⟨?_⟩)
          rw [putR_sets hqa hl1, ← hl1]
          (try refine rtgo ⟨?_⟩)
          rw [putR_sets hqa hl2]
          refine ⟨by first | exact .inr rfl | exact .inl rfl, .inl ⟨[], _, (by dsimp only [Try.f32]; exact rtsv), ?_, ?_⟩⟩; all_goals (first | rfl | (simp (disch := first | omega | assumption) only [putR_setd, putR_takeN, putR_take]; done) | (simp (disch := first | omega | assumption) only [putR_setd, putR_takeN, putR_take]; rfl) | skip)
        · have e : rwriteS R i t = ((rstepS R).1, (rstepS R).2) := by simp [rwriteS, ho, hi, hl, h3]
          rw [e]
          have hm2 := hm3
          have hm5 := hm3
          (try refine rtgo ⟨?_⟩)
          ((refine rtcall ?_); (refine ⟨_, hc _ _ hq ha (by first | omega | (simp only [putR_len, if_true, if_false, reduceIte, Bool.false_eq_true, List.length_append]; omega)), ?_⟩); (try simp only [go_sem]))
          (try refine rtgo ⟨?_⟩)
          ((with_reducible apply ops_callW); rfl; (simp (disch := (first | omega | assumption | ((repeat' with_reducible apply And.intro) <;> first | omega | assumption | rfl | (apply Or.inl; rfl) | (apply Or.inr; first | rfl | trivial | fail) | fail) | fail)) only [go_sem, if_pos, if_neg, wrapI, wrapU, decide_eq_true, decide_eq_false, beqT, beqF, bneT, bneF, hm, hm2, hm3, hm4, hm5] <;> rfl); (exact hst _ _ hq ha (by omega) (by omega)); (exact ho_putR0 hqa hq ha (by omega) (by omega)); (try simp only [go_sem]))
          (try refine rtgo ⟨?_⟩)
          refine ⟨by first | exact .inr rfl | exact .inl rfl, .inl ⟨[], _, (by dsimp only [Try.f32]; exact rtsv), ?_, ?_⟩⟩; all_goals (first | rfl | (simp (disch := first | omega | assumption) only [putR_setd, putR_takeN, putR_take]; done) | (simp (disch := first | omega | assumption) only [putR_setd, putR_takeN, putR_take]; rfl) | skip)
      · have e : rwriteS R i t = (R, 1) := by simp [rwriteS, ho, hl]
        rw [e]
        have hm2 := hm3
        have hm5 := hm3
        (try refine rtgo ⟨?_⟩)
        ((refine rtcall ?_); (refine ⟨_, hc _ _ hq ha (by first | omega | (simp only [putR_len, if_true, if_false, reduceIte, Bool.false_eq_true, List.length_append]; omega)), ?_⟩); (try simp only [go_sem]))
        (try refine rtgo ⟨?_⟩)
        refine ⟨by first | exact .inr rfl | exact .inl rfl, .inl ⟨[], _, (by dsimp only [Try.f32]; exact rtsv), ?_, ?_⟩⟩; all_goals (first | rfl | (simp (disch := first | omega | assumption) only [putR_setd, putR_takeN, putR_take]; done) | (simp (disch := first | omega | assumption) only [putR_setd, putR_takeN, putR_take]; rfl) | skip)
end Go.Proofs.Ytghdanpigohnjaa
namespace Go.Proofs.Ytghdanpigohnjaa
open Go Go.RowKit

attribute [local irreducible] EvOps EvC
attribute [local go_sem] List.getElem?_toArray List.flatten_cons List.flatten_nil List.contains_nil List.append_nil List.nil_append List.length_set Bool.and_self implies_true eq_self Nat.zero_mul Nat.add_zero Nat.zero_add Nat.sub_zero List.take_zero List.drop_zero List.drop_replicate Nat.sub_self List.replicate_zero List.map_nil List.map_append List.length_replicate
attribute [local go_sem] bytesV_bs strV_u8s bs_size u8s_len bs_extract bs_append bs_beq bs_nil bs_nil2
attribute [local go_sem] putD_len putD_b putD_p putD_w putD_d putD_app putD_put putD_get0 putD_get putD_set0 putD_set putD_take putD_takeN putD_setd putD_setw putD_setp getLD setLD
set_option linter.unusedSimpArgs false
set_option linter.unusedVariables false
set_option maxRecDepth 100000
set_option maxHeartbeats 4000000
attribute [local go_sem] take_u8 take_u8v drop_u8v len_u8v viewL_mv eqVs_u8s zsV_Z64 Z64_len Nat.min_self Nat.min_eq_right

attribute [local go_sem] putR_len putR_s putR_d putR_app putR_put putR_get0 putR_get putR_set0 putR_set putR_take putR_takeN putR_setd getLR setLR cellsR

theorem rvgo {p q : Prop} (k : Later q) (h : Later q → p := by (intro k; (first | with_reducible (first | refine c_seq ?_ | refine c_block ?_ | refine c_region ?_ | refine c_skip ?_ | refine c_exit ?_ | refine c_ret ?_ | refine then_normal ?_ | refine then_exit ?_ | refine then_ret ?_ | refine block_normal ?_ | refine block_here ?_ | refine block_ret ?_ | refine block_far (by decide) ?_ | refine ops_nil ?_ | refine c_cond_t rfl ?_ | refine c_cond_f rfl ?_) | ((with_reducible apply ops_pure); rfl; (simp (disch := (first | omega | assumption | ((repeat' with_reducible apply And.intro) <;> first | omega | assumption | rfl | (apply Or.inl; rfl) | (apply Or.inr; first | rfl | trivial | fail) | fail) | fail)) only [go_sem, if_pos, if_neg, wrapI, wrapU, decide_eq_true, decide_eq_false, beqT, beqF, bneT, bneF, hm, hm2, hm3, hm4, hm5] <;> rfl); simp only [go_sem]) | ((with_reducible apply ops_pureF); rfl; (intro _; simp (disch := (first | omega | assumption | ((repeat' with_reducible apply And.intro) <;> first | omega | assumption | rfl | (apply Or.inl; rfl) | (apply Or.inr; first | rfl | trivial | fail) | fail) | fail)) only [go_sem, if_pos, if_neg, wrapI, wrapU, decide_eq_true, decide_eq_false, beqT, beqF, bneT, bneF, hm, hm2, hm3, hm4, hm5] <;> rfl); simp only [go_sem]) | ((with_reducible apply ops_pureD); kernel_rfl; rfl; (simp (disch := (first | omega | assumption | ((repeat' with_reducible apply And.intro) <;> first | omega | assumption | rfl | (apply Or.inl; rfl) | (apply Or.inr; first | rfl | trivial | fail) | fail) | fail)) only [go_sem, if_pos, if_neg, wrapI, wrapU, decide_eq_true, decide_eq_false, beqT, beqF, bneT, bneF, hm, hm2, hm3, hm4, hm5] <;> rfl); simp only [go_sem]) | ((with_reducible apply ops_skip); rfl; simp only [go_sem]) | ((with_reducible apply c_regionD); kernel_rfl) | ((first | ((with_reducible apply ops_eff); decide) | (with_reducible apply ops_lit)); rfl; (simp (disch := (first | omega | assumption | ((repeat' with_reducible apply And.intro) <;> first | omega | assumption | rfl | (apply Or.inl; rfl) | (apply Or.inr; first | rfl | trivial | fail) | fail) | fail)) only [go_sem, if_pos, if_neg, wrapI, wrapU, decide_eq_true, decide_eq_false, beqT, beqF, bneT, bneF, hm, hm2, hm3, hm4, hm5] <;> rfl); simp only [go_sem])); (repeat (first | with_reducible (first | refine c_seq ?_ | refine c_block ?_ | refine c_region ?_ | refine c_skip ?_ | refine c_exit ?_ | refine c_ret ?_ | refine then_normal ?_ | refine then_exit ?_ | refine then_ret ?_ | refine block_normal ?_ | refine block_here ?_ | refine block_ret ?_ | refine block_far (by decide) ?_ | refine ops_nil ?_ | refine c_cond_t rfl ?_ | refine c_cond_f rfl ?_) | ((with_reducible apply ops_pure); rfl; (simp (disch := (first | omega | assumption | ((repeat' with_reducible apply And.intro) <;> first | omega | assumption | rfl | (apply Or.inl; rfl) | (apply Or.inr; first | rfl | trivial | fail) | fail) | fail)) only [go_sem, if_pos, if_neg, wrapI, wrapU, decide_eq_true, decide_eq_false, beqT, beqF, bneT, bneF, hm, hm2, hm3, hm4, hm5] <;> rfl); simp only [go_sem]) | ((with_reducible apply ops_pureF); rfl; (intro _; simp (disch := (first | omega | assumption | ((repeat' with_reducible apply And.intro) <;> first | omega | assumption | rfl | (apply Or.inl; rfl) | (apply Or.inr; first | rfl | trivial | fail) | fail) | fail)) only [go_sem, if_pos, if_neg, wrapI, wrapU, decide_eq_true, decide_eq_false, beqT, beqF, bneT, bneF, hm, hm2, hm3, hm4, hm5] <;> rfl); simp only [go_sem]) | ((with_reducible apply ops_pureD); kernel_rfl; rfl; (simp (disch := (first | omega | assumption | ((repeat' with_reducible apply And.intro) <;> first | omega | assumption | rfl | (apply Or.inl; rfl) | (apply Or.inr; first | rfl | trivial | fail) | fail) | fail)) only [go_sem, if_pos, if_neg, wrapI, wrapU, decide_eq_true, decide_eq_false, beqT, beqF, bneT, bneF, hm, hm2, hm3, hm4, hm5] <;> rfl); simp only [go_sem]) | ((with_reducible apply ops_skip); rfl; simp only [go_sem]) | ((with_reducible apply c_regionD); kernel_rfl) | ((first | ((with_reducible apply ops_eff); decide) | (with_reducible apply ops_lit)); rfl; (simp (disch := (first | omega | assumption | ((repeat' with_reducible apply And.intro) <;> first | omega | assumption | rfl | (apply Or.inl; rfl) | (apply Or.inr; first | rfl | trivial | fail) | fail) | fail)) only [go_sem, if_pos, if_neg, wrapI, wrapU, decide_eq_true, decide_eq_false, beqT, beqF, bneT, bneF, hm, hm2, hm3, hm4, hm5] <;> rfl); simp only [go_sem]))); exact k.get)) : p := h k
theorem rvgoL {p q : Prop} (k : Later q) (h : Later q → p := by (intro k; (first | with_reducible (first | refine c_seq ?_ | refine c_block ?_ | refine c_region ?_ | refine c_skip ?_ | refine c_exit ?_ | refine c_ret ?_ | refine then_normal ?_ | refine then_exit ?_ | refine then_ret ?_ | refine block_normal ?_ | refine block_here ?_ | refine block_ret ?_ | refine block_far (by decide) ?_ | refine ops_nil ?_ | refine c_cond_t rfl ?_ | refine c_cond_f rfl ?_) | ((with_reducible apply ops_lit); rfl; (simp (disch := (first | omega | assumption | ((repeat' with_reducible apply And.intro) <;> first | omega | assumption | rfl | (apply Or.inl; rfl) | (apply Or.inr; first | rfl | trivial | fail) | fail) | fail)) only [go_sem, if_pos, if_neg, wrapI, wrapU, decide_eq_true, decide_eq_false, beqT, beqF, bneT, bneF, hm, hm2, hm3, hm4, hm5] <;> rfl); simp only [go_sem]) | ((with_reducible apply ops_pure); rfl; (simp (disch := (first | omega | assumption | ((repeat' with_reducible apply And.intro) <;> first | omega | assumption | rfl | (apply Or.inl; rfl) | (apply Or.inr; first | rfl | trivial | fail) | fail) | fail)) only [go_sem, if_pos, if_neg, wrapI, wrapU, decide_eq_true, decide_eq_false, beqT, beqF, bneT, bneF, hm, hm2, hm3, hm4, hm5] <;> rfl); simp only [go_sem]) | ((with_reducible apply ops_pureF); rfl; (intro _; simp (disch := (first | omega | assumption | ((repeat' with_reducible apply And.intro) <;> first | omega | assumption | rfl | (apply Or.inl; rfl) | (apply Or.inr; first | rfl | trivial | fail) | fail) | fail)) only [go_sem, if_pos, if_neg, wrapI, wrapU, decide_eq_true, decide_eq_false, beqT, beqF, bneT, bneF, hm, hm2, hm3, hm4, hm5] <;> rfl); simp only [go_sem]) | ((with_reducible apply ops_pureD); kernel_rfl; rfl; (simp (disch := (first | omega | assumption | ((repeat' with_reducible apply And.intro) <;> first | omega | assumption | rfl | (apply Or.inl; rfl) | (apply Or.inr; first | rfl | trivial | fail) | fail) | fail)) only [go_sem, if_pos, if_neg, wrapI, wrapU, decide_eq_true, decide_eq_false, beqT, beqF, bneT, bneF, hm, hm2, hm3, hm4, hm5] <;> rfl); simp only [go_sem]) | ((with_reducible apply ops_skip); rfl; simp only [go_sem]) | ((with_reducible apply c_regionD); kernel_rfl) | ((first | ((with_reducible apply ops_eff); decide) | (with_reducible apply ops_lit)); rfl; (simp (disch := (first | omega | assumption | ((repeat' with_reducible apply And.intro) <;> first | omega | assumption | rfl | (apply Or.inl; rfl) | (apply Or.inr; first | rfl | trivial | fail) | fail) | fail)) only [go_sem, if_pos, if_neg, wrapI, wrapU, decide_eq_true, decide_eq_false, beqT, beqF, bneT, bneF, hm, hm2, hm3, hm4, hm5] <;> rfl); simp only [go_sem])); (repeat (first | with_reducible (first | refine c_seq ?_ | refine c_block ?_ | refine c_region ?_ | refine c_skip ?_ | refine c_exit ?_ | refine c_ret ?_ | refine then_normal ?_ | refine then_exit ?_ | refine then_ret ?_ | refine block_normal ?_ | refine block_here ?_ | refine block_ret ?_ | refine block_far (by decide) ?_ | refine ops_nil ?_ | refine c_cond_t rfl ?_ | refine c_cond_f rfl ?_) | ((with_reducible apply ops_lit); rfl; (simp (disch := (first | omega | assumption | ((repeat' with_reducible apply And.intro) <;> first | omega | assumption | rfl | (apply Or.inl; rfl) | (apply Or.inr; first | rfl | trivial | fail) | fail) | fail)) only [go_sem, if_pos, if_neg, wrapI, wrapU, decide_eq_true, decide_eq_false, beqT, beqF, bneT, bneF, hm, hm2, hm3, hm4, hm5] <;> rfl); simp only [go_sem]) | ((with_reducible apply ops_pure); rfl; (simp (disch := (first | omega | assumption | ((repeat' with_reducible apply And.intro) <;> first | omega | assumption | rfl | (apply Or.inl; rfl) | (apply Or.inr; first | rfl | trivial | fail) | fail) | fail)) only [go_sem, if_pos, if_neg, wrapI, wrapU, decide_eq_true, decide_eq_false, beqT, beqF, bneT, bneF, hm, hm2, hm3, hm4, hm5] <;> rfl); simp only [go_sem]) | ((with_reducible apply ops_pureF); rfl; (intro _; simp (disch := (first | omega | assumption | ((repeat' with_reducible apply And.intro) <;> first | omega | assumption | rfl | (apply Or.inl; rfl) | (apply Or.inr; first | rfl | trivial | fail) | fail) | fail)) only [go_sem, if_pos, if_neg, wrapI, wrapU, decide_eq_true, decide_eq_false, beqT, beqF, bneT, bneF, hm, hm2, hm3, hm4, hm5] <;> rfl); simp only [go_sem]) | ((with_reducible apply ops_pureD); kernel_rfl; rfl; (simp (disch := (first | omega | assumption | ((repeat' with_reducible apply And.intro) <;> first | omega | assumption | rfl | (apply Or.inl; rfl) | (apply Or.inr; first | rfl | trivial | fail) | fail) | fail)) only [go_sem, if_pos, if_neg, wrapI, wrapU, decide_eq_true, decide_eq_false, beqT, beqF, bneT, bneF, hm, hm2, hm3, hm4, hm5] <;> rfl); simp only [go_sem]) | ((with_reducible apply ops_skip); rfl; simp only [go_sem]) | ((with_reducible apply c_regionD); kernel_rfl) | ((first | ((with_reducible apply ops_eff); decide) | (with_reducible apply ops_lit)); rfl; (simp (disch := (first | omega | assumption | ((repeat' with_reducible apply And.intro) <;> first | omega | assumption | rfl | (apply Or.inl; rfl) | (apply Or.inr; first | rfl | trivial | fail) | fail) | fail)) only [go_sem, if_pos, if_neg, wrapI, wrapU, decide_eq_true, decide_eq_false, beqT, beqF, bneT, bneF, hm, hm2, hm3, hm4, hm5] <;> rfl); simp only [go_sem]))); exact k.get)) : p := h k
theorem rvgoX {p q : Prop} (k : Later q) (h : Later q → p := by (intro k; (first | with_reducible (first | refine c_seq ?_ | refine c_block ?_ | refine c_skip ?_ | refine c_exit ?_ | refine c_ret ?_ | refine then_normal ?_ | refine then_exit ?_ | refine then_ret ?_ | refine block_normal ?_ | refine block_here ?_ | refine block_ret ?_ | refine block_far (by decide) ?_ | refine ops_nil ?_ | refine c_cond_t rfl ?_ | refine c_cond_f rfl ?_) | ((with_reducible apply ops_pure); rfl; (simp (disch := (first | omega | assumption | ((repeat' with_reducible apply And.intro) <;> first | omega | assumption | rfl | (apply Or.inl; rfl) | (apply Or.inr; first | rfl | trivial | fail) | fail) | fail)) only [go_sem, if_pos, if_neg, wrapI, wrapU, decide_eq_true, decide_eq_false, beqT, beqF, bneT, bneF, hm, hm2, hm3, hm4, hm5] <;> rfl); simp only [go_sem]) | ((with_reducible apply ops_pureF); rfl; (intro _; simp (disch := (first | omega | assumption | ((repeat' with_reducible apply And.intro) <;> first | omega | assumption | rfl | (apply Or.inl; rfl) | (apply Or.inr; first | rfl | trivial | fail) | fail) | fail)) only [go_sem, if_pos, if_neg, wrapI, wrapU, decide_eq_true, decide_eq_false, beqT, beqF, bneT, bneF, hm, hm2, hm3, hm4, hm5] <;> rfl); simp only [go_sem]) | ((with_reducible apply ops_pureD); kernel_rfl; rfl; (simp (disch := (first | omega | assumption | ((repeat' with_reducible apply And.intro) <;> first | omega | assumption | rfl | (apply Or.inl; rfl) | (apply Or.inr; first | rfl | trivial | fail) | fail) | fail)) only [go_sem, if_pos, if_neg, wrapI, wrapU, decide_eq_true, decide_eq_false, beqT, beqF, bneT, bneF, hm, hm2, hm3, hm4, hm5] <;> rfl); simp only [go_sem]) | ((with_reducible apply ops_skip); rfl; simp only [go_sem]) | ((with_reducible apply c_regionD); kernel_rfl) | ((first | ((with_reducible apply ops_eff); decide) | (with_reducible apply ops_lit)); rfl; (simp (disch := (first | omega | assumption | ((repeat' with_reducible apply And.intro) <;> first | omega | assumption | rfl | (apply Or.inl; rfl) | (apply Or.inr; first | rfl | trivial | fail) | fail) | fail)) only [go_sem, if_pos, if_neg, wrapI, wrapU, decide_eq_true, decide_eq_false, beqT, beqF, bneT, bneF, hm, hm2, hm3, hm4, hm5] <;> rfl); simp only [go_sem])); (repeat (first | with_reducible (first | refine c_seq ?_ | refine c_block ?_ | refine c_skip ?_ | refine c_exit ?_ | refine c_ret ?_ | refine then_normal ?_ | refine then_exit ?_ | refine then_ret ?_ | refine block_normal ?_ | refine block_here ?_ | refine block_ret ?_ | refine block_far (by decide) ?_ | refine ops_nil ?_ | refine c_cond_t rfl ?_ | refine c_cond_f rfl ?_) | ((with_reducible apply ops_pure); rfl; (simp (disch := (first | omega | assumption | ((repeat' with_reducible apply And.intro) <;> first | omega | assumption | rfl | (apply Or.inl; rfl) | (apply Or.inr; first | rfl | trivial | fail) | fail) | fail)) only [go_sem, if_pos, if_neg, wrapI, wrapU, decide_eq_true, decide_eq_false, beqT, beqF, bneT, bneF, hm, hm2, hm3, hm4, hm5] <;> rfl); simp only [go_sem]) | ((with_reducible apply ops_pureF); rfl; (intro _; simp (disch := (first | omega | assumption | ((repeat' with_reducible apply And.intro) <;> first | omega | assumption | rfl | (apply Or.inl; rfl) | (apply Or.inr; first | rfl | trivial | fail) | fail) | fail)) only [go_sem, if_pos, if_neg, wrapI, wrapU, decide_eq_true, decide_eq_false, beqT, beqF, bneT, bneF, hm, hm2, hm3, hm4, hm5] <;> rfl); simp only [go_sem]) | ((with_reducible apply ops_pureD); kernel_rfl; rfl; (simp (disch := (first | omega | assumption | ((repeat' with_reducible apply And.intro) <;> first | omega | assumption | rfl | (apply Or.inl; rfl) | (apply Or.inr; first | rfl | trivial | fail) | fail) | fail)) only [go_sem, if_pos, if_neg, wrapI, wrapU, decide_eq_true, decide_eq_false, beqT, beqF, bneT, bneF, hm, hm2, hm3, hm4, hm5] <;> rfl); simp only [go_sem]) | ((with_reducible apply ops_skip); rfl; simp only [go_sem]) | ((with_reducible apply c_regionD); kernel_rfl) | ((first | ((with_reducible apply ops_eff); decide) | (with_reducible apply ops_lit)); rfl; (simp (disch := (first | omega | assumption | ((repeat' with_reducible apply And.intro) <;> first | omega | assumption | rfl | (apply Or.inl; rfl) | (apply Or.inr; first | rfl | trivial | fail) | fail) | fail)) only [go_sem, if_pos, if_neg, wrapI, wrapU, decide_eq_true, decide_eq_false, beqT, beqF, bneT, bneF, hm, hm2, hm3, hm4, hm5] <;> rfl); simp only [go_sem]))); exact k.get)) : p := h k
theorem rvsv {p : Prop} (h : p := by simp (disch := (first | omega | assumption | ((repeat' with_reducible apply And.intro) <;> first | omega | assumption | rfl | (apply Or.inl; rfl) | (apply Or.inr; first | rfl | trivial | fail) | fail) | fail)) only [go_sem, if_pos, if_neg, wrapI, wrapU, decide_eq_true, decide_eq_false, beqT, beqF, bneT, bneF, hm, hm2, hm3, hm4, hm5] <;> rfl) : p := h
theorem rvcall {T : Tab} {X : CallP} {n0 lo : Nat} {wt : List Tmp} {draw : Bool} {ops : Array Oper} {Q : St → Prop} {rest : List Oper} {o : Oper} {env : List D} {sto : Sto} {f : FuncId} {args : List D} (k : ∃ r, X f args sto (if draw then sto.length else lo) r sto ∧ EvOps T X n0 lo wt draw ops Q rest (St.put ⟨env, sto⟩ o.dst r)) (hg : guardD ops o env = some true := by rfl) (h : evCallee (opd env) sto o = some (f, args) := by simp (disch := (first | omega | assumption | ((repeat' with_reducible apply And.intro) <;> first | omega | assumption | rfl | (apply Or.inl; rfl) | (apply Or.inr; first | rfl | trivial | fail) | fail) | fail)) only [go_sem, if_pos, if_neg, wrapI, wrapU, decide_eq_true, decide_eq_false, beqT, beqF, bneT, bneF, hm, hm2, hm3, hm4, hm5] <;> rfl) : EvOps T X n0 lo wt draw ops Q (o :: rest) ⟨env, sto⟩ := k.elim fun _ k => ops_call hg h k.1 k.2
attribute [local go_sem] tdiv8 tmod8 List.getElem?_map
def rrotS (R : RK) (i bit : Int) : RK × Int := if isR R i = false ∨ bit < 0 ∨ bit > 511 then (R, 1) else ({ R with s := R.s.set i.toNat { secAt R i with tx := rotB (secAt R i).tx bit.toNat } }, 0)
theorem rrot_ev (R : RK) (hR : R.ok) (i bit : Int) (hb : Big bit) (q a : Nat) (hqa : q ≠ a) : RefW 37 [.ptr q 0, .v (VI i), .v (VI bit)] q a R (.v (VI (rrotS R i bit).2)) (rrotS R i bit).1 := by
  have hc := is_ev R i q a hqa
  have hfl := flatR_len R.s
  have hm5 : True := trivial
  intro sto lo hq ha hlq hla; refine CallEv.intro ⟨_, _, [], Try.func37, rfl, by decide, ?_⟩; simp only [go_sem, Try.ntmps37]
  cases hi : isR R i with
  | false =>
    rw [show rrotS R i bit = (R, 1) by simp [rrotS, hi]]
    rw [hi] at hc
    have hm := hm5
    have hm2 := hm5
    have hm3 := hm5
    have hm4 := hm5
    (try refine rvgo ⟨?_⟩)
    ((refine rvcall ?_); (refine ⟨_, hc _ _ hq ha (by first | omega | (simp only [putR_len, if_true, if_false, reduceIte, Bool.false_eq_true, List.length_append]; omega)), ?_⟩); (try simp only [go_sem]))
    (try refine rvgo ⟨?_⟩)
    refine ⟨by first | exact .inr rfl | exact .inl rfl, .inl ⟨[], _, (by dsimp only [Try.f37]; exact rvsv), ?_, ?_⟩⟩; all_goals (first | rfl | (simp (disch := first | omega | assumption) only [putR_setd, putR_takeN, putR_take]; done) | (simp (disch := first | omega | assumption) only [putR_setd, putR_takeN, putR_take]; rfl) | skip)
  | true =>
    rw [hi] at hc
    by_cases h1 : bit < 0
    · rw [show rrotS R i bit = (R, 1) by simp [rrotS, h1]]
      have hm := hm5
      have hm2 := hm5
      have hm3 := hm5
      have hm4 := hm5
      (try refine rvgo ⟨?_⟩)
      ((refine rvcall ?_); (refine ⟨_, hc _ _ hq ha (by first | omega | (simp only [putR_len, if_true, if_false, reduceIte, Bool.false_eq_true, List.length_append]; omega)), ?_⟩); (try simp only [go_sem]))
      (try refine rvgo ⟨?_⟩)
      refine ⟨by first | exact .inr rfl | exact .inl rfl, .inl ⟨[], _, (by dsimp only [Try.f37]; exact rvsv), ?_, ?_⟩⟩; all_goals (first | rfl | (simp (disch := first | omega | assumption) only [putR_setd, putR_takeN, putR_take]; done) | (simp (disch := first | omega | assumption) only [putR_setd, putR_takeN, putR_take]; rfl) | skip)
    by_cases h2 : bit > 511
    · rw [show rrotS R i bit = (R, 1) by simp [rrotS, h2]]
      have hm := hm5
      have hm2 := hm5
      have hm3 := hm5
      have hm4 := hm5
      (try refine rvgo ⟨?_⟩)
      ((refine rvcall ?_); (refine ⟨_, hc _ _ hq ha (by first | omega | (simp only [putR_len, if_true, if_false, reduceIte, Bool.false_eq_true, List.length_append]; omega)), ?_⟩); (try simp only [go_sem]))
      (try refine rvgo ⟨?_⟩)
      refine ⟨by first | exact .inr rfl | exact .inl rfl, .inl ⟨[], _, (by dsimp only [Try.f37]; exact rvsv), ?_, ?_⟩⟩; all_goals (first | rfl | (simp (disch := first | omega | assumption) only [putR_setd, putR_takeN, putR_take]; done) | (simp (disch := first | omega | assumption) only [putR_setd, putR_takeN, putR_take]; rfl) | skip)
    obtain ⟨h3, h4⟩ := isR_iff.1 hi
    obtain ⟨i, rfl⟩ := Int.eq_ofNat_of_zero_le h3
    obtain ⟨bit, rfl⟩ := Int.eq_ofNat_of_zero_le (by omega : 0 ≤ bit)
    have h4' : i < R.s.length := by omega
    rw [show rrotS R i bit = ({ R with s := R.s.set i { R.s[i] with tx := rotB (R.s[i]).tx bit } }, 0) by simp [rrotS, hi, h1, h2, secAt_eq h4']]
    have h5 : bit / 8 < 64 := by omega
    have ht := (hR.1 _ (List.getElem_mem h4')).1
    obtain ⟨hm2, -, -, -⟩ := flatR_get1 h4'
    have hm : (u8s (R.s[i]).tx)[bit / 8]? = some (.int .u8 (((R.s[i]).tx)[bit / 8]!).toNat) := by
      rw [u8s, List.getElem?_map, List.getElem?_eq_getElem (by omega), getElem!_pos _ (bit / 8) (by omega)]
      rfl
    have hv := rot_val (((R.s[i]).tx)[bit / 8]!) (bit % 8) (by omega)
    have hm3 : ((u8s (R.s[i]).tx).map _root_.Go.Proofs.Ytghdanpigohnjaa.D.v).take (bit / 8) ++ _root_.Go.Proofs.Ytghdanpigohnjaa.D.v (.int .u8 (xorI IntKind.u8 (↑(((R.s[i]).tx)[bit / 8]!).toNat) (IntKind.u8.wrap (1 * 2 ^ min (bit % 8) 8)))) :: ((u8s (R.s[i]).tx).map _root_.Go.Proofs.Ytghdanpigohnjaa.D.v).drop (bit / 8 + 1) = (u8s (rotB (R.s[i]).tx bit)).map _root_.Go.Proofs.Ytghdanpigohnjaa.D.v := by
      rw [hv]
      simp only [rotB, u8s, List.map_set]
      rw [List.set_eq_take_append_cons_drop, if_pos (by simp; omega)]
      rfl
    have hm4 := flatR_put h4' (j := 0) [.str (bs (rotB (R.s[i]).tx bit))] { R.s[i] with tx := rotB (R.s[i]).tx bit } (by simp) rfl
    simp only [List.length_cons, List.length_nil, Nat.zero_add, Nat.add_zero, List.append_assoc, List.cons_append, List.nil_append] at hm4
    have hrl : (rotB (R.s[i]).tx bit).length = (R.s[i]).tx.length := by simp [rotB]
    rw [ht] at hrl
    have hl : (R.s.set i { R.s[i] with tx := rotB (R.s[i]).tx bit }).length = R.s.length := by simp
    clear hv hR
    obtain ⟨s, off, lf⟩ := R
    simp only at *
    have hi2 : i < s.length := h4'
    have hm5 := ht
    (try refine rvgo ⟨?_⟩)
    ((refine rvcall ?_); (refine ⟨_, hc _ _ hq ha (by first | omega | (simp only [putR_len, if_true, if_false, reduceIte, Bool.false_eq_true, List.length_append]; omega)), ?_⟩); (try simp only [go_sem]))
    (try refine rvgoL ⟨?_⟩)
    rw [putR_sets hqa hl]
    refine ⟨by first | exact .inr rfl | exact .inl rfl, .inl ⟨[], _, (by dsimp only [Try.f37]; exact rvsv), ?_, ?_⟩⟩; all_goals (first | rfl | (simp (disch := first | omega | assumption) only [putR_setd, putR_takeN, putR_take]; done) | (simp (disch := first | omega | assumption) only [putR_setd, putR_takeN, putR_take]; rfl) | skip)
end Go.Proofs.Ytghdanpigohnjaa
namespace Go.Proofs.Ytghdanpigohnjaa
open Go Go.RowKit

attribute [local irreducible] EvOps EvC
attribute [local go_sem] List.getElem?_toArray List.flatten_cons List.flatten_nil List.contains_nil List.append_nil List.nil_append List.length_set Bool.and_self implies_true eq_self Nat.zero_mul Nat.add_zero Nat.zero_add Nat.sub_zero List.take_zero List.drop_zero List.drop_replicate Nat.sub_self List.replicate_zero List.map_nil List.map_append List.length_replicate
attribute [local go_sem] bytesV_bs strV_u8s bs_size u8s_len bs_extract bs_append bs_beq bs_nil bs_nil2
attribute [local go_sem] putD_len putD_b putD_p putD_w putD_d putD_app putD_put putD_get0 putD_get putD_set0 putD_set putD_take putD_takeN putD_setd putD_setw putD_setp getLD setLD
set_option linter.unusedSimpArgs false
set_option linter.unusedVariables false
set_option maxRecDepth 100000
set_option maxHeartbeats 4000000
attribute [local go_sem] take_u8 take_u8v drop_u8v len_u8v viewL_mv eqVs_u8s zsV_Z64 Z64_len Nat.min_self Nat.min_eq_right

attribute [local go_sem] putR_len putR_s putR_d putR_app putR_put putR_get0 putR_get putR_set0 putR_set putR_take putR_takeN putR_setd getLR setLR cellsR

def rzero : SecR := ⟨Z64, [], false, false⟩
def newRK (n : Nat) : RK := ⟨List.replicate n rzero, false, -1⟩
def newRE (q : Nat) (R : RK) : Sto := [eR (q + 1) R, eS R]
theorem newRE_put {sto : Sto} {R : RK} : sto ++ newRE sto.length R = putR (sto ++ newRE sto.length R) sto.length (sto.length + 1) R := by
  refine (putR_same (by omega) ⟨?_, ?_⟩).symm
  · rw [List.getElem?_append_right (by omega), Nat.add_sub_cancel_left]; rfl
  · rw [List.getElem?_append_right (by omega), Nat.sub_self]; rfl
theorem flatR_rep (n : Nat) : flatR (List.replicate (n + 1) rzero) = flatR (List.replicate n rzero) ++ cellsR rzero := by
  rw [List.replicate_succ', flatR, List.map_append, List.flatten_append]
  simp [flatR]
theorem rnew_bad (n : Int) (h : n < 1 ∨ n > 4096) (sto : Sto) (lo : Nat) (hlo : lo ≤ sto.length) : CD 30 [.v (VI n)] sto lo (.tupD [.nilp, .v (VI 1)]) sto := by
  refine CallEv.intro ⟨_, _, [], Try.func30, rfl, by decide, ?_⟩; simp only [go_sem, Try.ntmps30]
  by_cases h1 : n < 1
  · (try refine go ⟨?_⟩)
    refine ⟨by first | exact .inr rfl | exact .inl rfl, .inr (.inr (.inr ⟨_, (by dsimp only [Try.f30]; exact sv), ?_, ?_⟩))⟩
    · rfl
    · rfl
  · have h2 : n > 4096 := by omega
    (try refine go ⟨?_⟩)
    refine ⟨by first | exact .inr rfl | exact .inl rfl, .inr (.inr (.inr ⟨_, (by dsimp only [Try.f30]; exact sv), ?_, ?_⟩))⟩
    · rfl
    · rfl
theorem rnew_ev (n : Nat) (h0 : 0 < n) (h : n ≤ 4096) (sto : Sto) (lo : Nat) (hlo : lo ≤ sto.length) : CD 30 [.v (VI n)] sto lo (.tupD [.ptr sto.length 0, .v (VI 0)]) (sto ++ newRE sto.length (newRK n)) := by
  refine CallEv.intro ⟨_, _, [28], Try.func30, rfl, by decide, ?_⟩; simp only [go_sem, Try.ntmps30]
  (try refine go ⟨?_⟩)
  refine c_loop (fun m s => ∃ (j : Nat) (es : Option (TypeId × Nat)), (j ≤ n ∧ m = n - j ∧ (es = none ∨ es = some (51, 4)) ∧ (0 < j → es = some (51, 4))) ∧ (s.env.length = 32 ∧ s.sto = sto ++ [.cells [.arr (sto.length + 1) j, .v (.bool false), .v (VI (-1))], .arr es true j (flatR (List.replicate j rzero))] ∧ s.env[0]? = some (.v (VI n)) ∧ s.env[4]? = some (.ptr sto.length 0) ∧ s.env[5]? = some (.v (VI j)))) (.adoptC _ sto.length 0 true [.nilS, .v (.bool false), .v (VI (-1))] (by simp (disch := (first | omega | assumption | ((repeat' with_reducible apply And.intro) <;> first | omega | assumption | rfl | (apply Or.inl; rfl) | (apply Or.inr; first | rfl | trivial | fail) | fail) | fail)) only [go_sem, if_pos, if_neg, wrapI, wrapU, decide_eq_true, decide_eq_false, beqT, beqF, bneT, bneF] <;> rfl) rfl (by omega) (by omega)) ⟨0, none, ⟨by omega, rfl, .inl rfl, by omega⟩, ?_⟩ ?_
  · refine ⟨rfl, ?_, ?_⟩
    · simp only [go_sem, List.set_cons_zero, List.replicate_zero, flatR]
    · (repeat' apply And.intro) <;> rfl
  rintro m s ⟨j, es, ⟨h1, rfl, hes, h3⟩, hL, hT, k0, k4, k5⟩
  obtain ⟨env, st0⟩ := s; obtain ⟨J, hJ⟩ := listJ hL; rw [show (List.range 32).map J = J 0 :: J 1 :: J 2 :: J 3 :: J 4 :: J 5 :: J 6 :: J 7 :: J 8 :: J 9 :: J 10 :: J 11 :: J 12 :: J 13 :: J 14 :: J 15 :: J 16 :: J 17 :: J 18 :: J 19 :: J 20 :: J 21 :: J 22 :: J 23 :: J 24 :: J 25 :: J 26 :: J 27 :: J 28 :: J 29 :: J 30 :: J 31 :: [] from by kernel_rfl] at hJ; replace k0 := Option.some.inj ((congrArg (·[0]?) hJ).symm.trans k0); replace k4 := Option.some.inj ((congrArg (·[4]?) hJ).symm.trans k4); replace k5 := Option.some.inj ((congrArg (·[5]?) hJ).symm.trans k5); rw [k0, k4, k5] at hJ; dsimp only at hJ hT; subst hJ; replace hT := hT.symm; subst hT; clear hL k0 k4 k5
  by_cases hb : j < n
  · have hfl := flatR_len (List.replicate j rzero)
    have hrep := flatR_rep j
    simp only [cellsR, rzero] at hrep hfl
    rw [List.length_replicate] at hfl
    (try refine go ⟨?_⟩)
    refine ops_make (d := .v (.sl 64 (u8s Z64))) rfl (fun _ => rfl) (by rfl) ?_
    simp only [go_sem]
    (try refine go ⟨?_⟩)
    refine ⟨_, _, ?_, .refl _, j + 1, _, ⟨by omega, rfl, .inr rfl, fun _ => rfl⟩, rfl, ?_, rfl, rfl, rfl⟩
    · omega
    · rw [flatR_rep]; rfl
  · obtain rfl : j = n := by omega
    obtain rfl := h3 h0
    (try refine go ⟨?_⟩)
    refine ⟨by first | exact .inr rfl | exact .inl rfl, .inr (.inr (.inr ⟨_, (by dsimp only [Try.f30]; exact sv), ?_, ?_⟩))⟩
    · rfl
    · simp [newRE, newRK, eR, eS]
end Go.Proofs.Ytghdanpigohnjaa
namespace Go.Proofs.Ytghdanpigohnjaa
open Go Go.RowKit

attribute [local irreducible] EvOps EvC
attribute [local go_sem] List.getElem?_toArray List.flatten_cons List.flatten_nil List.contains_nil List.append_nil List.nil_append List.length_set Bool.and_self implies_true eq_self Nat.zero_mul Nat.add_zero Nat.zero_add Nat.sub_zero List.take_zero List.drop_zero List.drop_replicate Nat.sub_self List.replicate_zero List.map_nil List.map_append List.length_replicate
attribute [local go_sem] bytesV_bs strV_u8s bs_size u8s_len bs_extract bs_append bs_beq bs_nil bs_nil2
attribute [local go_sem] putD_len putD_b putD_p putD_w putD_d putD_app putD_put putD_get0 putD_get putD_set0 putD_set putD_take putD_takeN putD_setd putD_setw putD_setp getLD setLD
set_option linter.unusedSimpArgs false
set_option linter.unusedVariables false
set_option maxRecDepth 100000
set_option maxHeartbeats 4000000
attribute [local go_sem] take_u8 take_u8v drop_u8v len_u8v viewL_mv eqVs_u8s zsV_Z64 Z64_len Nat.min_self Nat.min_eq_right

attribute [local go_sem] putR_len putR_s putR_d putR_app putR_put putR_get0 putR_get putR_set0 putR_set putR_take putR_takeN putR_setd getLR setLR cellsR

theorem rwgo {p q : Prop} (k : Later q) (h : Later q → p := by (intro k; (first | with_reducible (first | refine c_seq ?_ | refine c_block ?_ | refine c_region ?_ | refine c_skip ?_ | refine c_exit ?_ | refine c_ret ?_ | refine then_normal ?_ | refine then_exit ?_ | refine then_ret ?_ | refine block_normal ?_ | refine block_here ?_ | refine block_ret ?_ | refine block_far (by decide) ?_ | refine ops_nil ?_ | refine c_cond_t rfl ?_ | refine c_cond_f rfl ?_) | ((with_reducible apply ops_pure); rfl; (simp (disch := (first | omega | assumption | ((repeat' with_reducible apply And.intro) <;> first | omega | assumption | rfl | (apply Or.inl; rfl) | (apply Or.inr; first | rfl | trivial | fail) | fail) | fail)) only [go_sem, if_pos, if_neg, wrapI, wrapU, decide_eq_true, decide_eq_false, beqT, beqF, bneT, bneF, hm, hm2, hm3, hm4, hm5] <;> rfl); simp only [go_sem]) | ((with_reducible apply ops_pureF); rfl; (intro _; simp (disch := (first | omega | assumption | ((repeat' with_reducible apply And.intro) <;> first | omega | assumption | rfl | (apply Or.inl; rfl) | (apply Or.inr; first | rfl | trivial | fail) | fail) | fail)) only [go_sem, if_pos, if_neg, wrapI, wrapU, decide_eq_true, decide_eq_false, beqT, beqF, bneT, bneF, hm, hm2, hm3, hm4, hm5] <;> rfl); simp only [go_sem]) | ((with_reducible apply ops_pureD); kernel_rfl; rfl; (simp (disch := (first | omega | assumption | ((repeat' with_reducible apply And.intro) <;> first | omega | assumption | rfl | (apply Or.inl; rfl) | (apply Or.inr; first | rfl | trivial | fail) | fail) | fail)) only [go_sem, if_pos, if_neg, wrapI, wrapU, decide_eq_true, decide_eq_false, beqT, beqF, bneT, bneF, hm, hm2, hm3, hm4, hm5] <;> rfl); simp only [go_sem]) | ((with_reducible apply ops_skip); rfl; simp only [go_sem]) | ((with_reducible apply c_regionD); kernel_rfl) | ((first | ((with_reducible apply ops_eff); decide) | (with_reducible apply ops_lit)); rfl; (simp (disch := (first | omega | assumption | ((repeat' with_reducible apply And.intro) <;> first | omega | assumption | rfl | (apply Or.inl; rfl) | (apply Or.inr; first | rfl | trivial | fail) | fail) | fail)) only [go_sem, if_pos, if_neg, wrapI, wrapU, decide_eq_true, decide_eq_false, beqT, beqF, bneT, bneF, hm, hm2, hm3, hm4, hm5] <;> rfl); simp only [go_sem])); (repeat (first | with_reducible (first | refine c_seq ?_ | refine c_block ?_ | refine c_region ?_ | refine c_skip ?_ | refine c_exit ?_ | refine c_ret ?_ | refine then_normal ?_ | refine then_exit ?_ | refine then_ret ?_ | refine block_normal ?_ | refine block_here ?_ | refine block_ret ?_ | refine block_far (by decide) ?_ | refine ops_nil ?_ | refine c_cond_t rfl ?_ | refine c_cond_f rfl ?_) | ((with_reducible apply ops_pure); rfl; (simp (disch := (first | omega | assumption | ((repeat' with_reducible apply And.intro) <;> first | omega | assumption | rfl | (apply Or.inl; rfl) | (apply Or.inr; first | rfl | trivial | fail) | fail) | fail)) only [go_sem, if_pos, if_neg, wrapI, wrapU, decide_eq_true, decide_eq_false, beqT, beqF, bneT, bneF, hm, hm2, hm3, hm4, hm5] <;> rfl); simp only [go_sem]) | ((with_reducible apply ops_pureF); rfl; (intro _; simp (disch := (first | omega | assumption | ((repeat' with_reducible apply And.intro) <;> first | omega | assumption | rfl | (apply Or.inl; rfl) | (apply Or.inr; first | rfl | trivial | fail) | fail) | fail)) only [go_sem, if_pos, if_neg, wrapI, wrapU, decide_eq_true, decide_eq_false, beqT, beqF, bneT, bneF, hm, hm2, hm3, hm4, hm5] <;> rfl); simp only [go_sem]) | ((with_reducible apply ops_pureD); kernel_rfl; rfl; (simp (disch := (first | omega | assumption | ((repeat' with_reducible apply And.intro) <;> first | omega | assumption | rfl | (apply Or.inl; rfl) | (apply Or.inr; first | rfl | trivial | fail) | fail) | fail)) only [go_sem, if_pos, if_neg, wrapI, wrapU, decide_eq_true, decide_eq_false, beqT, beqF, bneT, bneF, hm, hm2, hm3, hm4, hm5] <;> rfl); simp only [go_sem]) | ((with_reducible apply ops_skip); rfl; simp only [go_sem]) | ((with_reducible apply c_regionD); kernel_rfl) | ((first | ((with_reducible apply ops_eff); decide) | (with_reducible apply ops_lit)); rfl; (simp (disch := (first | omega | assumption | ((repeat' with_reducible apply And.intro) <;> first | omega | assumption | rfl | (apply Or.inl; rfl) | (apply Or.inr; first | rfl | trivial | fail) | fail) | fail)) only [go_sem, if_pos, if_neg, wrapI, wrapU, decide_eq_true, decide_eq_false, beqT, beqF, bneT, bneF, hm, hm2, hm3, hm4, hm5] <;> rfl); simp only [go_sem]))); exact k.get)) : p := h k
theorem rwgoL {p q : Prop} (k : Later q) (h : Later q → p := by (intro k; (first | with_reducible (first | refine c_seq ?_ | refine c_block ?_ | refine c_region ?_ | refine c_skip ?_ | refine c_exit ?_ | refine c_ret ?_ | refine then_normal ?_ | refine then_exit ?_ | refine then_ret ?_ | refine block_normal ?_ | refine block_here ?_ | refine block_ret ?_ | refine block_far (by decide) ?_ | refine ops_nil ?_ | refine c_cond_t rfl ?_ | refine c_cond_f rfl ?_) | ((with_reducible apply ops_lit); rfl; (simp (disch := (first | omega | assumption | ((repeat' with_reducible apply And.intro) <;> first | omega | assumption | rfl | (apply Or.inl; rfl) | (apply Or.inr; first | rfl | trivial | fail) | fail) | fail)) only [go_sem, if_pos, if_neg, wrapI, wrapU, decide_eq_true, decide_eq_false, beqT, beqF, bneT, bneF, hm, hm2, hm3, hm4, hm5] <;> rfl); simp only [go_sem]) | ((with_reducible apply ops_pure); rfl; (simp (disch := (first | omega | assumption | ((repeat' with_reducible apply And.intro) <;> first | omega | assumption | rfl | (apply Or.inl; rfl) | (apply Or.inr; first | rfl | trivial | fail) | fail) | fail)) only [go_sem, if_pos, if_neg, wrapI, wrapU, decide_eq_true, decide_eq_false, beqT, beqF, bneT, bneF, hm, hm2, hm3, hm4, hm5] <;> rfl); simp only [go_sem]) | ((with_reducible apply ops_pureF); rfl; (intro _; simp (disch := (first | omega | assumption | ((repeat' with_reducible apply And.intro) <;> first | omega | assumption | rfl | (apply Or.inl; rfl) | (apply Or.inr; first | rfl | trivial | fail) | fail) | fail)) only [go_sem, if_pos, if_neg, wrapI, wrapU, decide_eq_true, decide_eq_false, beqT, beqF, bneT, bneF, hm, hm2, hm3, hm4, hm5] <;> rfl); simp only [go_sem]) | ((with_reducible apply ops_pureD); kernel_rfl; rfl; (simp (disch := (first | omega | assumption | ((repeat' with_reducible apply And.intro) <;> first | omega | assumption | rfl | (apply Or.inl; rfl) | (apply Or.inr; first | rfl | trivial | fail) | fail) | fail)) only [go_sem, if_pos, if_neg, wrapI, wrapU, decide_eq_true, decide_eq_false, beqT, beqF, bneT, bneF, hm, hm2, hm3, hm4, hm5] <;> rfl); simp only [go_sem]) | ((with_reducible apply ops_skip); rfl; simp only [go_sem]) | ((with_reducible apply c_regionD); kernel_rfl) | ((first | ((with_reducible apply ops_eff); decide) | (with_reducible apply ops_lit)); rfl; (simp (disch := (first | omega | assumption | ((repeat' with_reducible apply And.intro) <;> first | omega | assumption | rfl | (apply Or.inl; rfl) | (apply Or.inr; first | rfl | trivial | fail) | fail) | fail)) only [go_sem, if_pos, if_neg, wrapI, wrapU, decide_eq_true, decide_eq_false, beqT, beqF, bneT, bneF, hm, hm2, hm3, hm4, hm5] <;> rfl); simp only [go_sem])); (repeat (first | with_reducible (first | refine c_seq ?_ | refine c_block ?_ | refine c_region ?_ | refine c_skip ?_ | refine c_exit ?_ | refine c_ret ?_ | refine then_normal ?_ | refine then_exit ?_ | refine then_ret ?_ | refine block_normal ?_ | refine block_here ?_ | refine block_ret ?_ | refine block_far (by decide) ?_ | refine ops_nil ?_ | refine c_cond_t rfl ?_ | refine c_cond_f rfl ?_) | ((with_reducible apply ops_lit); rfl; (simp (disch := (first | omega | assumption | ((repeat' with_reducible apply And.intro) <;> first | omega | assumption | rfl | (apply Or.inl; rfl) | (apply Or.inr; first | rfl | trivial | fail) | fail) | fail)) only [go_sem, if_pos, if_neg, wrapI, wrapU, decide_eq_true, decide_eq_false, beqT, beqF, bneT, bneF, hm, hm2, hm3, hm4, hm5] <;> rfl); simp only [go_sem]) | ((with_reducible apply ops_pure); rfl; (simp (disch := (first | omega | assumption | ((repeat' with_reducible apply And.intro) <;> first | omega | assumption | rfl | (apply Or.inl; rfl) | (apply Or.inr; first | rfl | trivial | fail) | fail) | fail)) only [go_sem, if_pos, if_neg, wrapI, wrapU, decide_eq_true, decide_eq_false, beqT, beqF, bneT, bneF, hm, hm2, hm3, hm4, hm5] <;> rfl); simp only [go_sem]) | ((with_reducible apply ops_pureF); rfl; (intro _; simp (disch := (first | omega | assumption | ((repeat' with_reducible apply And.intro) <;> first | omega | assumption | rfl | (apply Or.inl; rfl) | (apply Or.inr; first | rfl | trivial | fail) | fail) | fail)) only [go_sem, if_pos, if_neg, wrapI, wrapU, decide_eq_true, decide_eq_false, beqT, beqF, bneT, bneF, hm, hm2, hm3, hm4, hm5] <;> rfl); simp only [go_sem]) | ((with_reducible apply ops_pureD); kernel_rfl; rfl; (simp (disch := (first | omega | assumption | ((repeat' with_reducible apply And.intro) <;> first | omega | assumption | rfl | (apply Or.inl; rfl) | (apply Or.inr; first | rfl | trivial | fail) | fail) | fail)) only [go_sem, if_pos, if_neg, wrapI, wrapU, decide_eq_true, decide_eq_false, beqT, beqF, bneT, bneF, hm, hm2, hm3, hm4, hm5] <;> rfl); simp only [go_sem]) | ((with_reducible apply ops_skip); rfl; simp only [go_sem]) | ((with_reducible apply c_regionD); kernel_rfl) | ((first | ((with_reducible apply ops_eff); decide) | (with_reducible apply ops_lit)); rfl; (simp (disch := (first | omega | assumption | ((repeat' with_reducible apply And.intro) <;> first | omega | assumption | rfl | (apply Or.inl; rfl) | (apply Or.inr; first | rfl | trivial | fail) | fail) | fail)) only [go_sem, if_pos, if_neg, wrapI, wrapU, decide_eq_true, decide_eq_false, beqT, beqF, bneT, bneF, hm, hm2, hm3, hm4, hm5] <;> rfl); simp only [go_sem]))); exact k.get)) : p := h k
theorem rwgoX {p q : Prop} (k : Later q) (h : Later q → p := by (intro k; (first | with_reducible (first | refine c_seq ?_ | refine c_block ?_ | refine c_skip ?_ | refine c_exit ?_ | refine c_ret ?_ | refine then_normal ?_ | refine then_exit ?_ | refine then_ret ?_ | refine block_normal ?_ | refine block_here ?_ | refine block_ret ?_ | refine block_far (by decide) ?_ | refine ops_nil ?_ | refine c_cond_t rfl ?_ | refine c_cond_f rfl ?_) | ((with_reducible apply ops_pure); rfl; (simp (disch := (first | omega | assumption | ((repeat' with_reducible apply And.intro) <;> first | omega | assumption | rfl | (apply Or.inl; rfl) | (apply Or.inr; first | rfl | trivial | fail) | fail) | fail)) only [go_sem, if_pos, if_neg, wrapI, wrapU, decide_eq_true, decide_eq_false, beqT, beqF, bneT, bneF, hm, hm2, hm3, hm4, hm5] <;> rfl); simp only [go_sem]) | ((with_reducible apply ops_pureF); rfl; (intro _; simp (disch := (first | omega | assumption | ((repeat' with_reducible apply And.intro) <;> first | omega | assumption | rfl | (apply Or.inl; rfl) | (apply Or.inr; first | rfl | trivial | fail) | fail) | fail)) only [go_sem, if_pos, if_neg, wrapI, wrapU, decide_eq_true, decide_eq_false, beqT, beqF, bneT, bneF, hm, hm2, hm3, hm4, hm5] <;> rfl); simp only [go_sem]) | ((with_reducible apply ops_pureD); kernel_rfl; rfl; (simp (disch := (first | omega | assumption | ((repeat' with_reducible apply And.intro) <;> first | omega | assumption | rfl | (apply Or.inl; rfl) | (apply Or.inr; first | rfl | trivial | fail) | fail) | fail)) only [go_sem, if_pos, if_neg, wrapI, wrapU, decide_eq_true, decide_eq_false, beqT, beqF, bneT, bneF, hm, hm2, hm3, hm4, hm5] <;> rfl); simp only [go_sem]) | ((with_reducible apply ops_skip); rfl; simp only [go_sem]) | ((with_reducible apply c_regionD); kernel_rfl) | ((first | ((with_reducible apply ops_eff); decide) | (with_reducible apply ops_lit)); rfl; (simp (disch := (first | omega | assumption | ((repeat' with_reducible apply And.intro) <;> first | omega | assumption | rfl | (apply Or.inl; rfl) | (apply Or.inr; first | rfl | trivial | fail) | fail) | fail)) only [go_sem, if_pos, if_neg, wrapI, wrapU, decide_eq_true, decide_eq_false, beqT, beqF, bneT, bneF, hm, hm2, hm3, hm4, hm5] <;> rfl); simp only [go_sem])); (repeat (first | with_reducible (first | refine c_seq ?_ | refine c_block ?_ | refine c_skip ?_ | refine c_exit ?_ | refine c_ret ?_ | refine then_normal ?_ | refine then_exit ?_ | refine then_ret ?_ | refine block_normal ?_ | refine block_here ?_ | refine block_ret ?_ | refine block_far (by decide) ?_ | refine ops_nil ?_ | refine c_cond_t rfl ?_ | refine c_cond_f rfl ?_) | ((with_reducible apply ops_pure); rfl; (simp (disch := (first | omega | assumption | ((repeat' with_reducible apply And.intro) <;> first | omega | assumption | rfl | (apply Or.inl; rfl) | (apply Or.inr; first | rfl | trivial | fail) | fail) | fail)) only [go_sem, if_pos, if_neg, wrapI, wrapU, decide_eq_true, decide_eq_false, beqT, beqF, bneT, bneF, hm, hm2, hm3, hm4, hm5] <;> rfl); simp only [go_sem]) | ((with_reducible apply ops_pureF); rfl; (intro _; simp (disch := (first | omega | assumption | ((repeat' with_reducible apply And.intro) <;> first | omega | assumption | rfl | (apply Or.inl; rfl) | (apply Or.inr; first | rfl | trivial | fail) | fail) | fail)) only [go_sem, if_pos, if_neg, wrapI, wrapU, decide_eq_true, decide_eq_false, beqT, beqF, bneT, bneF, hm, hm2, hm3, hm4, hm5] <;> rfl); simp only [go_sem]) | ((with_reducible apply ops_pureD); kernel_rfl; rfl; (simp (disch := (first | omega | assumption | ((repeat' with_reducible apply And.intro) <;> first | omega | assumption | rfl | (apply Or.inl; rfl) | (apply Or.inr; first | rfl | trivial | fail) | fail) | fail)) only [go_sem, if_pos, if_neg, wrapI, wrapU, decide_eq_true, decide_eq_false, beqT, beqF, bneT, bneF, hm, hm2, hm3, hm4, hm5] <;> rfl); simp only [go_sem]) | ((with_reducible apply ops_skip); rfl; simp only [go_sem]) | ((with_reducible apply c_regionD); kernel_rfl) | ((first | ((with_reducible apply ops_eff); decide) | (with_reducible apply ops_lit)); rfl; (simp (disch := (first | omega | assumption | ((repeat' with_reducible apply And.intro) <;> first | omega | assumption | rfl | (apply Or.inl; rfl) | (apply Or.inr; first | rfl | trivial | fail) | fail) | fail)) only [go_sem, if_pos, if_neg, wrapI, wrapU, decide_eq_true, decide_eq_false, beqT, beqF, bneT, bneF, hm, hm2, hm3, hm4, hm5] <;> rfl); simp only [go_sem]))); exact k.get)) : p := h k
theorem rwsv {p : Prop} (h : p := by simp (disch := (first | omega | assumption | ((repeat' with_reducible apply And.intro) <;> first | omega | assumption | rfl | (apply Or.inl; rfl) | (apply Or.inr; first | rfl | trivial | fail) | fail) | fail)) only [go_sem, if_pos, if_neg, wrapI, wrapU, decide_eq_true, decide_eq_false, beqT, beqF, bneT, bneF, hm, hm2, hm3, hm4, hm5] <;> rfl) : p := h
theorem rwcall {T : Tab} {X : CallP} {n0 lo : Nat} {wt : List Tmp} {draw : Bool} {ops : Array Oper} {Q : St → Prop} {rest : List Oper} {o : Oper} {env : List D} {sto : Sto} {f : FuncId} {args : List D} (k : ∃ r, X f args sto (if draw then sto.length else lo) r sto ∧ EvOps T X n0 lo wt draw ops Q rest (St.put ⟨env, sto⟩ o.dst r)) (hg : guardD ops o env = some true := by rfl) (h : evCallee (opd env) sto o = some (f, args) := by simp (disch := (first | omega | assumption | ((repeat' with_reducible apply And.intro) <;> first | omega | assumption | rfl | (apply Or.inl; rfl) | (apply Or.inr; first | rfl | trivial | fail) | fail) | fail)) only [go_sem, if_pos, if_neg, wrapI, wrapU, decide_eq_true, decide_eq_false, beqT, beqF, bneT, bneF, hm, hm2, hm3, hm4, hm5] <;> rfl) : EvOps T X n0 lo wt draw ops Q (o :: rest) ⟨env, sto⟩ := k.elim fun _ k => ops_call hg h k.1 k.2
/-- The numbers for which a test holds, in order. -/
def idxS (f : SecR → Bool) (s : List SecR) (j : Nat) : List Int := ((List.range j).filter fun i => f (s.getD i ⟨[], [], false, false⟩)).map fun (i : Nat) => (i : Int)
theorem idxS_succ (f : SecR → Bool) {s : List SecR} {j : Nat} (hj : j < s.length) : idxS f s (j + 1) = if f s[j] then idxS f s j ++ [(j : Int)] else idxS f s j := by
  unfold idxS
  rw [List.range_succ, List.filter_append, List.map_append]
  simp only [List.filter_cons, List.filter_nil]
  rw [show s.getD j ⟨[], [], false, false⟩ = s[j] by simp [List.getD, hj]]
  split <;> simp_all
theorem idxS_len (f : SecR → Bool) (s : List SecR) (j : Nat) : (idxS f s j).length ≤ j := by
  unfold idxS
  rw [List.length_map]
  exact Nat.le_trans (List.length_filter_le _ _) (by simp)
def rimgS (R : RK) : List By := R.s.map (·.tx)
def rpendS (R : RK) : List Int := idxS (·.dy) R.s R.s.length
def rwornS (R : RK) : List Int := idxS (·.wn) R.s R.s.length
theorem rimage_ev (R : RK) (hR : R.ok) (q a : Nat) (hqa : q ≠ a) : RefR 39 [.ptr q 0] q a R (.v (LB (rimgS R))) := by
  have hfl := flatR_len R.s
  have hn := hR.2.1
  clear hR
  have hm : True := trivial
  have hm2 := hm
  have hm3 := hm
  have hm4 := hm
  have hm5 := hm
  intro sto lo hq ha hlo; refine CallEv.intro ⟨_, _, [], Try.func39, rfl, by decide, ?_⟩; simp only [go_sem, Try.ntmps39]
  (try refine rwgo ⟨?_⟩)
  refine c_loop (fun m s => ∃ (j : Nat) (es : Option (TypeId × Nat)), (j ≤ R.s.length ∧ m = R.s.length - j ∧ (es = none ∨ es = some (9, 1))) ∧ (s.env.length = 26 ∧ s.sto = putR sto q a R ++ [.arr es false j ((R.s.take j).map fun x => strF x.tx)] ∧ s.env[0]? = some (.ptr q 0) ∧ s.env[2]? = some (.nilS) ∧ s.env[3]? = some (.arr sto.length j) ∧ s.env[4]? = some (.v (VI j)))) (.adopt _ 3 false rfl (by simp [putR_len]; omega)) ⟨0, none, ⟨by omega, rfl, .inl rfl⟩, rfl, ?_, ?_⟩ ?_
  · simp only [List.take_zero, List.map_nil]
  · (try simp only [putR_len])
    (repeat' apply And.intro) <;> rfl
  rintro m s ⟨j, es, ⟨h1, rfl, hes⟩, hL, hT, k0, k2, k3, k4⟩
  obtain ⟨env, st0⟩ := s; obtain ⟨J, hJ⟩ := listJ hL; rw [show (List.range 26).map J = J 0 :: J 1 :: J 2 :: J 3 :: J 4 :: J 5 :: J 6 :: J 7 :: J 8 :: J 9 :: J 10 :: J 11 :: J 12 :: J 13 :: J 14 :: J 15 :: J 16 :: J 17 :: J 18 :: J 19 :: J 20 :: J 21 :: J 22 :: J 23 :: J 24 :: J 25 :: [] from by kernel_rfl] at hJ; replace k0 := Option.some.inj ((congrArg (·[0]?) hJ).symm.trans k0); replace k2 := Option.some.inj ((congrArg (·[2]?) hJ).symm.trans k2); replace k3 := Option.some.inj ((congrArg (·[3]?) hJ).symm.trans k3); replace k4 := Option.some.inj ((congrArg (·[4]?) hJ).symm.trans k4); rw [k0, k2, k3, k4] at hJ; dsimp only at hJ hT; subst hJ; replace hT := hT.symm; subst hT; clear hL k0 k2 k3 k4
  by_cases hb : j < R.s.length
  · obtain ⟨hm, -, -, -⟩ := flatR_get1 hb
    have ht : (R.s.take (j + 1)).map (fun x => strF x.tx) = (R.s.take j).map (fun x => strF x.tx) ++ [V.str (bs (R.s[j]).tx)] := by
      rw [List.take_succ_eq_append_getElem hb, List.map_append]; rfl
    have hl : ((R.s.take j).map (fun x => strF x.tx)).length = j := by rw [List.length_map, List.length_take]; omega
    generalize (R.s.take j).map (fun x => strF x.tx) = L at *
    (try refine rwgo ⟨?_⟩)
    refine ⟨_, _, ?_, .refl _, j + 1, _, ⟨by omega, rfl, .inr rfl⟩, rfl, ?_, rfl, rfl, rfl, rfl⟩
    · omega
    · rw [ht]
  · obtain rfl : j = R.s.length := by omega
    have hz : (R.s.take R.s.length).map (fun x => strF x.tx) = (rimgS R).map strF := by simp [rimgS]
    rw [hz]
    have hl : R.s.length = (rimgS R).length := by simp [rimgS]
    (try refine rwgo ⟨?_⟩)
    refine ⟨by first | exact .inr rfl | exact .inl rfl, .inl ⟨[], _, (by dsimp only [Try.f39]; exact rwsv), ?_, ?_⟩⟩; all_goals (first | rfl | (simp (disch := first | omega | assumption) only [putR_setd, putR_takeN, putR_take]; done) | (simp (disch := first | omega | assumption) only [putR_setd, putR_takeN, putR_take]; rfl) | skip)
    exact congrArg (fun n => _root_.Go.Proofs.Ytghdanpigohnjaa.D.v (V.sl n ((rimgS R).map strF))) hl.symm
theorem rpending_ev (R : RK) (hR : R.ok) (q a : Nat) (hqa : q ≠ a) : RefR 41 [.ptr q 0] q a R (.v (LI (rpendS R))) := by
  have hfl := flatR_len R.s
  have hn := hR.2.1
  clear hR
  have hm3 : True := trivial
  have hm2 := hm3
  have hm4 := hm3
  have hm5 := hm3
  intro sto lo hq ha hlo; refine CallEv.intro ⟨_, _, [], Try.func41, rfl, by decide, ?_⟩; simp only [go_sem, Try.ntmps41]
  have hm := hm3
  (try refine rwgo ⟨?_⟩)
  clear hm
  refine c_loop (fun m s => ∃ (j : Nat) (es : Option (TypeId × Nat)), (j ≤ R.s.length ∧ m = R.s.length - j ∧ (es = none ∨ es = some (3, 1))) ∧ (s.env.length = 27 ∧ s.sto = putR sto q a R ++ [.arr es false (idxS (·.dy) R.s j).length ((idxS (·.dy) R.s j).map VI)] ∧ s.env[0]? = some (.ptr q 0) ∧ s.env[2]? = some (.nilS) ∧ s.env[3]? = some (.arr sto.length (idxS (·.dy) R.s j).length) ∧ s.env[4]? = some (.v (VI j)))) (.adopt _ 3 false rfl (by simp [putR_len]; omega)) ⟨0, none, ⟨by omega, rfl, .inl rfl⟩, rfl, ?_, ?_⟩ ?_
  · simp [idxS]
  · (try simp only [putR_len])
    (repeat' apply And.intro) <;> first | rfl | simp [idxS]
  rintro m s ⟨j, es, ⟨h1, rfl, hes⟩, hL, hT, k0, k2, k3, k4⟩
  obtain ⟨env, st0⟩ := s; obtain ⟨J, hJ⟩ := listJ hL; rw [show (List.range 27).map J = J 0 :: J 1 :: J 2 :: J 3 :: J 4 :: J 5 :: J 6 :: J 7 :: J 8 :: J 9 :: J 10 :: J 11 :: J 12 :: J 13 :: J 14 :: J 15 :: J 16 :: J 17 :: J 18 :: J 19 :: J 20 :: J 21 :: J 22 :: J 23 :: J 24 :: J 25 :: J 26 :: [] from by kernel_rfl] at hJ; replace k0 := Option.some.inj ((congrArg (·[0]?) hJ).symm.trans k0); replace k2 := Option.some.inj ((congrArg (·[2]?) hJ).symm.trans k2); replace k3 := Option.some.inj ((congrArg (·[3]?) hJ).symm.trans k3); replace k4 := Option.some.inj ((congrArg (·[4]?) hJ).symm.trans k4); rw [k0, k2, k3, k4] at hJ; dsimp only at hJ hT; subst hJ; replace hT := hT.symm; subst hT; clear hL k0 k2 k3 k4
  by_cases hb : j < R.s.length
  · have hm := (flatR_get1 hb).2.2.1
    have hix := idxS_succ (·.dy) hb
    have hil := idxS_len (·.dy) R.s j
    (try simp only at hix)
    (try simp only at hil)
    cases hd : (R.s[j]).dy with
    | true =>
      rw [hd] at hm hix
      simp only [if_true] at hix
      (try refine rwgo ⟨?_⟩)
      refine ⟨_, _, ?_, .refl _, j + 1, _, ⟨by omega, rfl, .inr rfl⟩, rfl, ?_, rfl, rfl, ?_, rfl⟩
      · omega
      · rw [hix, List.map_append, List.length_append]; rfl
      · rw [hix, List.length_append]; rfl
    | false =>
      rw [hd] at hm hix
      simp only [Bool.false_eq_true, if_false] at hix
      (try refine rwgo ⟨?_⟩)
      refine ⟨_, _, ?_, .refl _, j + 1, _, ⟨by omega, rfl, hes⟩, rfl, ?_, rfl, rfl, ?_, rfl⟩
      · omega
      · rw [hix]
      · rw [hix]; rfl
  · obtain rfl : j = R.s.length := by omega
    have hm := hm3
    (try refine rwgo ⟨?_⟩)
    refine ⟨by first | exact .inr rfl | exact .inl rfl, .inl ⟨[], _, (by dsimp only [Try.f41]; exact rwsv), ?_, ?_⟩⟩; all_goals (first | rfl | (simp (disch := first | omega | assumption) only [putR_setd, putR_takeN, putR_take]; done) | (simp (disch := first | omega | assumption) only [putR_setd, putR_takeN, putR_take]; rfl) | skip)
theorem rworn_ev (R : RK) (hR : R.ok) (q a : Nat) (hqa : q ≠ a) : RefR 42 [.ptr q 0] q a R (.v (LI (rwornS R))) := by
  have hfl := flatR_len R.s
  have hn := hR.2.1
  clear hR
  have hm3 : True := trivial
  have hm2 := hm3
  have hm4 := hm3
  have hm5 := hm3
  intro sto lo hq ha hlo; refine CallEv.intro ⟨_, _, [], Try.func42, rfl, by decide, ?_⟩; simp only [go_sem, Try.ntmps42]
  have hm := hm3
  (try refine rwgo ⟨?_⟩)
  clear hm
  refine c_loop (fun m s => ∃ (j : Nat) (es : Option (TypeId × Nat)), (j ≤ R.s.length ∧ m = R.s.length - j ∧ (es = none ∨ es = some (3, 1))) ∧ (s.env.length = 27 ∧ s.sto = putR sto q a R ++ [.arr es false (idxS (·.wn) R.s j).length ((idxS (·.wn) R.s j).map VI)] ∧ s.env[0]? = some (.ptr q 0) ∧ s.env[2]? = some (.nilS) ∧ s.env[3]? = some (.arr sto.length (idxS (·.wn) R.s j).length) ∧ s.env[4]? = some (.v (VI j)))) (.adopt _ 3 false rfl (by simp [putR_len]; omega)) ⟨0, none, ⟨by omega, rfl, .inl rfl⟩, rfl, ?_, ?_⟩ ?_
  · simp [idxS]
  · (try simp only [putR_len])
    (repeat' apply And.intro) <;> first | rfl | simp [idxS]
  rintro m s ⟨j, es, ⟨h1, rfl, hes⟩, hL, hT, k0, k2, k3, k4⟩
  obtain ⟨env, st0⟩ := s; obtain ⟨J, hJ⟩ := listJ hL; rw [show (List.range 27).map J = J 0 :: J 1 :: J 2 :: J 3 :: J 4 :: J 5 :: J 6 :: J 7 :: J 8 :: J 9 :: J 10 :: J 11 :: J 12 :: J 13 :: J 14 :: J 15 :: J 16 :: J 17 :: J 18 :: J 19 :: J 20 :: J 21 :: J 22 :: J 23 :: J 24 :: J 25 :: J 26 :: [] from by kernel_rfl] at hJ; replace k0 := Option.some.inj ((congrArg (·[0]?) hJ).symm.trans k0); replace k2 := Option.some.inj ((congrArg (·[2]?) hJ).symm.trans k2); replace k3 := Option.some.inj ((congrArg (·[3]?) hJ).symm.trans k3); replace k4 := Option.some.inj ((congrArg (·[4]?) hJ).symm.trans k4); rw [k0, k2, k3, k4] at hJ; dsimp only at hJ hT; subst hJ; replace hT := hT.symm; subst hT; clear hL k0 k2 k3 k4
  by_cases hb : j < R.s.length
  · have hm := (flatR_get1 hb).2.2.2
    have hix := idxS_succ (·.wn) hb
    have hil := idxS_len (·.wn) R.s j
    (try simp only at hix)
    (try simp only at hil)
    cases hd : (R.s[j]).wn with
    | true =>
      rw [hd] at hm hix
      simp only [if_true] at hix
      (try refine rwgo ⟨?_⟩)
      refine ⟨_, _, ?_, .refl _, j + 1, _, ⟨by omega, rfl, .inr rfl⟩, rfl, ?_, rfl, rfl, ?_, rfl⟩
      · omega
      · rw [hix, List.map_append, List.length_append]; rfl
      · rw [hix, List.length_append]; rfl
    | false =>
      rw [hd] at hm hix
      simp only [Bool.false_eq_true, if_false] at hix
      (try refine rwgo ⟨?_⟩)
      refine ⟨_, _, ?_, .refl _, j + 1, _, ⟨by omega, rfl, hes⟩, rfl, ?_, rfl, rfl, ?_, rfl⟩
      · omega
      · rw [hix]
      · rw [hix]; rfl
  · obtain rfl : j = R.s.length := by omega
    have hm := hm3
    (try refine rwgo ⟨?_⟩)
    refine ⟨by first | exact .inr rfl | exact .inl rfl, .inl ⟨[], _, (by dsimp only [Try.f42]; exact rwsv), ?_, ?_⟩⟩; all_goals (first | rfl | (simp (disch := first | omega | assumption) only [putR_setd, putR_takeN, putR_take]; done) | (simp (disch := first | omega | assumption) only [putR_setd, putR_takeN, putR_take]; rfl) | skip)
end Go.Proofs.Ytghdanpigohnjaa
namespace Go.Proofs.Ytghdanpigohnjaa
open Go Go.RowKit

attribute [local irreducible] EvOps EvC
attribute [local go_sem] List.getElem?_toArray List.flatten_cons List.flatten_nil List.contains_nil List.append_nil List.nil_append List.length_set Bool.and_self implies_true eq_self Nat.zero_mul Nat.add_zero Nat.zero_add Nat.sub_zero List.take_zero List.drop_zero List.drop_replicate Nat.sub_self List.replicate_zero List.map_nil List.map_append List.length_replicate
attribute [local go_sem] bytesV_bs strV_u8s bs_size u8s_len bs_extract bs_append bs_beq bs_nil bs_nil2
attribute [local go_sem] putD_len putD_b putD_p putD_w putD_d putD_app putD_put putD_get0 putD_get putD_set0 putD_set putD_take putD_takeN putD_setd putD_setw putD_setp getLD setLD
set_option linter.unusedSimpArgs false
set_option linter.unusedVariables false
set_option maxRecDepth 100000
set_option maxHeartbeats 4000000
attribute [local go_sem] take_u8 take_u8v drop_u8v len_u8v viewL_mv eqVs_u8s zsV_Z64 Z64_len Nat.min_self Nat.min_eq_right

attribute [local go_sem] putR_len putR_s putR_d putR_app putR_put putR_get0 putR_get putR_set0 putR_set putR_take putR_takeN putR_setd getLR setLR cellsR

theorem rugo {p q : Prop} (k : Later q) (h : Later q → p := by (intro k; (first | with_reducible (first | refine c_seq ?_ | refine c_block ?_ | refine c_region ?_ | refine c_skip ?_ | refine c_exit ?_ | refine c_ret ?_ | refine then_normal ?_ | refine then_exit ?_ | refine then_ret ?_ | refine block_normal ?_ | refine block_here ?_ | refine block_ret ?_ | refine block_far (by decide) ?_ | refine ops_nil ?_ | refine c_cond_t rfl ?_ | refine c_cond_f rfl ?_) | ((with_reducible apply ops_pure); rfl; (simp (disch := (first | omega | assumption | ((repeat' with_reducible apply And.intro) <;> first | omega | assumption | rfl | (apply Or.inl; rfl) | (apply Or.inr; first | rfl | trivial | fail) | fail) | fail)) only [go_sem, if_pos, if_neg, wrapI, wrapU, decide_eq_true, decide_eq_false, beqT, beqF, bneT, bneF, hm, hm2, hm3, hm4, hm5] <;> rfl); simp only [go_sem]) | ((with_reducible apply ops_pureF); rfl; (intro _; simp (disch := (first | omega | assumption | ((repeat' with_reducible apply And.intro) <;> first | omega | assumption | rfl | (apply Or.inl; rfl) | (apply Or.inr; first | rfl | trivial | fail) | fail) | fail)) only [go_sem, if_pos, if_neg, wrapI, wrapU, decide_eq_true, decide_eq_false, beqT, beqF, bneT, bneF, hm, hm2, hm3, hm4, hm5] <;> rfl); simp only [go_sem]) | ((with_reducible apply ops_pureD); kernel_rfl; rfl; (simp (disch := (first | omega | assumption | ((repeat' with_reducible apply And.intro) <;> first | omega | assumption | rfl | (apply Or.inl; rfl) | (apply Or.inr; first | rfl | trivial | fail) | fail) | fail)) only [go_sem, if_pos, if_neg, wrapI, wrapU, decide_eq_true, decide_eq_false, beqT, beqF, bneT, bneF, hm, hm2, hm3, hm4, hm5] <;> rfl); simp only [go_sem]) | ((with_reducible apply ops_skip); rfl; simp only [go_sem]) | ((with_reducible apply c_regionD); kernel_rfl) | ((first | ((with_reducible apply ops_eff); decide) | (with_reducible apply ops_lit)); rfl; (simp (disch := (first | omega | assumption | ((repeat' with_reducible apply And.intro) <;> first | omega | assumption | rfl | (apply Or.inl; rfl) | (apply Or.inr; first | rfl | trivial | fail) | fail) | fail)) only [go_sem, if_pos, if_neg, wrapI, wrapU, decide_eq_true, decide_eq_false, beqT, beqF, bneT, bneF, hm, hm2, hm3, hm4, hm5] <;> rfl); simp only [go_sem])); (repeat (first | with_reducible (first | refine c_seq ?_ | refine c_block ?_ | refine c_region ?_ | refine c_skip ?_ | refine c_exit ?_ | refine c_ret ?_ | refine then_normal ?_ | refine then_exit ?_ | refine then_ret ?_ | refine block_normal ?_ | refine block_here ?_ | refine block_ret ?_ | refine block_far (by decide) ?_ | refine ops_nil ?_ | refine c_cond_t rfl ?_ | refine c_cond_f rfl ?_) | ((with_reducible apply ops_pure); rfl; (simp (disch := (first | omega | assumption | ((repeat' with_reducible apply And.intro) <;> first | omega | assumption | rfl | (apply Or.inl; rfl) | (apply Or.inr; first | rfl | trivial | fail) | fail) | fail)) only [go_sem, if_pos, if_neg, wrapI, wrapU, decide_eq_true, decide_eq_false, beqT, beqF, bneT, bneF, hm, hm2, hm3, hm4, hm5] <;> rfl); simp only [go_sem]) | ((with_reducible apply ops_pureF); rfl; (intro _; simp (disch := (first | omega | assumption | ((repeat' with_reducible apply And.intro) <;> first | omega | assumption | rfl | (apply Or.inl; rfl) | (apply Or.inr; first | rfl | trivial | fail) | fail) | fail)) only [go_sem, if_pos, if_neg, wrapI, wrapU, decide_eq_true, decide_eq_false, beqT, beqF, bneT, bneF, hm, hm2, hm3, hm4, hm5] <;> rfl); simp only [go_sem]) | ((with_reducible apply ops_pureD); kernel_rfl; rfl; (simp (disch := (first | omega | assumption | ((repeat' with_reducible apply And.intro) <;> first | omega | assumption | rfl | (apply Or.inl; rfl) | (apply Or.inr; first | rfl | trivial | fail) | fail) | fail)) only [go_sem, if_pos, if_neg, wrapI, wrapU, decide_eq_true, decide_eq_false, beqT, beqF, bneT, bneF, hm, hm2, hm3, hm4, hm5] <;> rfl); simp only [go_sem]) | ((with_reducible apply ops_skip); rfl; simp only [go_sem]) | ((with_reducible apply c_regionD); kernel_rfl) | ((first | ((with_reducible apply ops_eff); decide) | (with_reducible apply ops_lit)); rfl; (simp (disch := (first | omega | assumption | ((repeat' with_reducible apply And.intro) <;> first | omega | assumption | rfl | (apply Or.inl; rfl) | (apply Or.inr; first | rfl | trivial | fail) | fail) | fail)) only [go_sem, if_pos, if_neg, wrapI, wrapU, decide_eq_true, decide_eq_false, beqT, beqF, bneT, bneF, hm, hm2, hm3, hm4, hm5] <;> rfl); simp only [go_sem]))); exact k.get)) : p := h k
theorem rugoL {p q : Prop} (k : Later q) (h : Later q → p := by (intro k; (first | with_reducible (first | refine c_seq ?_ | refine c_block ?_ | refine c_region ?_ | refine c_skip ?_ | refine c_exit ?_ | refine c_ret ?_ | refine then_normal ?_ | refine then_exit ?_ | refine then_ret ?_ | refine block_normal ?_ | refine block_here ?_ | refine block_ret ?_ | refine block_far (by decide) ?_ | refine ops_nil ?_ | refine c_cond_t rfl ?_ | refine c_cond_f rfl ?_) | ((with_reducible apply ops_lit); rfl; (simp (disch := (first | omega | assumption | ((repeat' with_reducible apply And.intro) <;> first | omega | assumption | rfl | (apply Or.inl; rfl) | (apply Or.inr; first | rfl | trivial | fail) | fail) | fail)) only [go_sem, if_pos, if_neg, wrapI, wrapU, decide_eq_true, decide_eq_false, beqT, beqF, bneT, bneF, hm, hm2, hm3, hm4, hm5] <;> rfl); simp only [go_sem]) | ((with_reducible apply ops_pure); rfl; (simp (disch := (first | omega | assumption | ((repeat' with_reducible apply And.intro) <;> first | omega | assumption | rfl | (apply Or.inl; rfl) | (apply Or.inr; first | rfl | trivial | fail) | fail) | fail)) only [go_sem, if_pos, if_neg, wrapI, wrapU, decide_eq_true, decide_eq_false, beqT, beqF, bneT, bneF, hm, hm2, hm3, hm4, hm5] <;> rfl); simp only [go_sem]) | ((with_reducible apply ops_pureF); rfl; (intro _; simp (disch := (first | omega | assumption | ((repeat' with_reducible apply And.intro) <;> first | omega | assumption | rfl | (apply Or.inl; rfl) | (apply Or.inr; first | rfl | trivial | fail) | fail) | fail)) only [go_sem, if_pos, if_neg, wrapI, wrapU, decide_eq_true, decide_eq_false, beqT, beqF, bneT, bneF, hm, hm2, hm3, hm4, hm5] <;> rfl); simp only [go_sem]) | ((with_reducible apply ops_pureD); kernel_rfl; rfl; (simp (disch := (first | omega | assumption | ((repeat' with_reducible apply And.intro) <;> first | omega | assumption | rfl | (apply Or.inl; rfl) | (apply Or.inr; first | rfl | trivial | fail) | fail) | fail)) only [go_sem, if_pos, if_neg, wrapI, wrapU, decide_eq_true, decide_eq_false, beqT, beqF, bneT, bneF, hm, hm2, hm3, hm4, hm5] <;> rfl); simp only [go_sem]) | ((with_reducible apply ops_skip); rfl; simp only [go_sem]) | ((with_reducible apply c_regionD); kernel_rfl) | ((first | ((with_reducible apply ops_eff); decide) | (with_reducible apply ops_lit)); rfl; (simp (disch := (first | omega | assumption | ((repeat' with_reducible apply And.intro) <;> first | omega | assumption | rfl | (apply Or.inl; rfl) | (apply Or.inr; first | rfl | trivial | fail) | fail) | fail)) only [go_sem, if_pos, if_neg, wrapI, wrapU, decide_eq_true, decide_eq_false, beqT, beqF, bneT, bneF, hm, hm2, hm3, hm4, hm5] <;> rfl); simp only [go_sem])); (repeat (first | with_reducible (first | refine c_seq ?_ | refine c_block ?_ | refine c_region ?_ | refine c_skip ?_ | refine c_exit ?_ | refine c_ret ?_ | refine then_normal ?_ | refine then_exit ?_ | refine then_ret ?_ | refine block_normal ?_ | refine block_here ?_ | refine block_ret ?_ | refine block_far (by decide) ?_ | refine ops_nil ?_ | refine c_cond_t rfl ?_ | refine c_cond_f rfl ?_) | ((with_reducible apply ops_lit); rfl; (simp (disch := (first | omega | assumption | ((repeat' with_reducible apply And.intro) <;> first | omega | assumption | rfl | (apply Or.inl; rfl) | (apply Or.inr; first | rfl | trivial | fail) | fail) | fail)) only [go_sem, if_pos, if_neg, wrapI, wrapU, decide_eq_true, decide_eq_false, beqT, beqF, bneT, bneF, hm, hm2, hm3, hm4, hm5] <;> rfl); simp only [go_sem]) | ((with_reducible apply ops_pure); rfl; (simp (disch := (first | omega | assumption | ((repeat' with_reducible apply And.intro) <;> first | omega | assumption | rfl | (apply Or.inl; rfl) | (apply Or.inr; first | rfl | trivial | fail) | fail) | fail)) only [go_sem, if_pos, if_neg, wrapI, wrapU, decide_eq_true, decide_eq_false, beqT, beqF, bneT, bneF, hm, hm2, hm3, hm4, hm5] <;> rfl); simp only [go_sem]) | ((with_reducible apply ops_pureF); rfl; (intro _; simp (disch := (first | omega | assumption | ((repeat' with_reducible apply And.intro) <;> first | omega | assumption | rfl | (apply Or.inl; rfl) | (apply Or.inr; first | rfl | trivial | fail) | fail) | fail)) only [go_sem, if_pos, if_neg, wrapI, wrapU, decide_eq_true, decide_eq_false, beqT, beqF, bneT, bneF, hm, hm2, hm3, hm4, hm5] <;> rfl); simp only [go_sem]) | ((with_reducible apply ops_pureD); kernel_rfl; rfl; (simp (disch := (first | omega | assumption | ((repeat' with_reducible apply And.intro) <;> first | omega | assumption | rfl | (apply Or.inl; rfl) | (apply Or.inr; first | rfl | trivial | fail) | fail) | fail)) only [go_sem, if_pos, if_neg, wrapI, wrapU, decide_eq_true, decide_eq_false, beqT, beqF, bneT, bneF, hm, hm2, hm3, hm4, hm5] <;> rfl); simp only [go_sem]) | ((with_reducible apply ops_skip); rfl; simp only [go_sem]) | ((with_reducible apply c_regionD); kernel_rfl) | ((first | ((with_reducible apply ops_eff); decide) | (with_reducible apply ops_lit)); rfl; (simp (disch := (first | omega | assumption | ((repeat' with_reducible apply And.intro) <;> first | omega | assumption | rfl | (apply Or.inl; rfl) | (apply Or.inr; first | rfl | trivial | fail) | fail) | fail)) only [go_sem, if_pos, if_neg, wrapI, wrapU, decide_eq_true, decide_eq_false, beqT, beqF, bneT, bneF, hm, hm2, hm3, hm4, hm5] <;> rfl); simp only [go_sem]))); exact k.get)) : p := h k
theorem rugoX {p q : Prop} (k : Later q) (h : Later q → p := by (intro k; (first | with_reducible (first | refine c_seq ?_ | refine c_block ?_ | refine c_skip ?_ | refine c_exit ?_ | refine c_ret ?_ | refine then_normal ?_ | refine then_exit ?_ | refine then_ret ?_ | refine block_normal ?_ | refine block_here ?_ | refine block_ret ?_ | refine block_far (by decide) ?_ | refine ops_nil ?_ | refine c_cond_t rfl ?_ | refine c_cond_f rfl ?_) | ((with_reducible apply ops_pure); rfl; (simp (disch := (first | omega | assumption | ((repeat' with_reducible apply And.intro) <;> first | omega | assumption | rfl | (apply Or.inl; rfl) | (apply Or.inr; first | rfl | trivial | fail) | fail) | fail)) only [go_sem, if_pos, if_neg, wrapI, wrapU, decide_eq_true, decide_eq_false, beqT, beqF, bneT, bneF, hm, hm2, hm3, hm4, hm5] <;> rfl); simp only [go_sem]) | ((with_reducible apply ops_pureF); rfl; (intro _; simp (disch := (first | omega | assumption | ((repeat' with_reducible apply And.intro) <;> first | omega | assumption | rfl | (apply Or.inl; rfl) | (apply Or.inr; first | rfl | trivial | fail) | fail) | fail)) only [go_sem, if_pos, if_neg, wrapI, wrapU, decide_eq_true, decide_eq_false, beqT, beqF, bneT, bneF, hm, hm2, hm3, hm4, hm5] <;> rfl); simp only [go_sem]) | ((with_reducible apply ops_pureD); kernel_rfl; rfl; (simp (disch := (first | omega | assumption | ((repeat' with_reducible apply And.intro) <;> first | omega | assumption | rfl | (apply Or.inl; rfl) | (apply Or.inr; first | rfl | trivial | fail) | fail) | fail)) only [go_sem, if_pos, if_neg, wrapI, wrapU, decide_eq_true, decide_eq_false, beqT, beqF, bneT, bneF, hm, hm2, hm3, hm4, hm5] <;> rfl); simp only [go_sem]) | ((with_reducible apply ops_skip); rfl; simp only [go_sem]) | ((with_reducible apply c_regionD); kernel_rfl) | ((first | ((with_reducible apply ops_eff); decide) | (with_reducible apply ops_lit)); rfl; (simp (disch := (first | omega | assumption | ((repeat' with_reducible apply And.intro) <;> first | omega | assumption | rfl | (apply Or.inl; rfl) | (apply Or.inr; first | rfl | trivial | fail) | fail) | fail)) only [go_sem, if_pos, if_neg, wrapI, wrapU, decide_eq_true, decide_eq_false, beqT, beqF, bneT, bneF, hm, hm2, hm3, hm4, hm5] <;> rfl); simp only [go_sem])); (repeat (first | with_reducible (first | refine c_seq ?_ | refine c_block ?_ | refine c_skip ?_ | refine c_exit ?_ | refine c_ret ?_ | refine then_normal ?_ | refine then_exit ?_ | refine then_ret ?_ | refine block_normal ?_ | refine block_here ?_ | refine block_ret ?_ | refine block_far (by decide) ?_ | refine ops_nil ?_ | refine c_cond_t rfl ?_ | refine c_cond_f rfl ?_) | ((with_reducible apply ops_pure); rfl; (simp (disch := (first | omega | assumption | ((repeat' with_reducible apply And.intro) <;> first | omega | assumption | rfl | (apply Or.inl; rfl) | (apply Or.inr; first | rfl | trivial | fail) | fail) | fail)) only [go_sem, if_pos, if_neg, wrapI, wrapU, decide_eq_true, decide_eq_false, beqT, beqF, bneT, bneF, hm, hm2, hm3, hm4, hm5] <;> rfl); simp only [go_sem]) | ((with_reducible apply ops_pureF); rfl; (intro _; simp (disch := (first | omega | assumption | ((repeat' with_reducible apply And.intro) <;> first | omega | assumption | rfl | (apply Or.inl; rfl) | (apply Or.inr; first | rfl | trivial | fail) | fail) | fail)) only [go_sem, if_pos, if_neg, wrapI, wrapU, decide_eq_true, decide_eq_false, beqT, beqF, bneT, bneF, hm, hm2, hm3, hm4, hm5] <;> rfl); simp only [go_sem]) | ((with_reducible apply ops_pureD); kernel_rfl; rfl; (simp (disch := (first | omega | assumption | ((repeat' with_reducible apply And.intro) <;> first | omega | assumption | rfl | (apply Or.inl; rfl) | (apply Or.inr; first | rfl | trivial | fail) | fail) | fail)) only [go_sem, if_pos, if_neg, wrapI, wrapU, decide_eq_true, decide_eq_false, beqT, beqF, bneT, bneF, hm, hm2, hm3, hm4, hm5] <;> rfl); simp only [go_sem]) | ((with_reducible apply ops_skip); rfl; simp only [go_sem]) | ((with_reducible apply c_regionD); kernel_rfl) | ((first | ((with_reducible apply ops_eff); decide) | (with_reducible apply ops_lit)); rfl; (simp (disch := (first | omega | assumption | ((repeat' with_reducible apply And.intro) <;> first | omega | assumption | rfl | (apply Or.inl; rfl) | (apply Or.inr; first | rfl | trivial | fail) | fail) | fail)) only [go_sem, if_pos, if_neg, wrapI, wrapU, decide_eq_true, decide_eq_false, beqT, beqF, bneT, bneF, hm, hm2, hm3, hm4, hm5] <;> rfl); simp only [go_sem]))); exact k.get)) : p := h k
theorem rusv {p : Prop} (h : p := by simp (disch := (first | omega | assumption | ((repeat' with_reducible apply And.intro) <;> first | omega | assumption | rfl | (apply Or.inl; rfl) | (apply Or.inr; first | rfl | trivial | fail) | fail) | fail)) only [go_sem, if_pos, if_neg, wrapI, wrapU, decide_eq_true, decide_eq_false, beqT, beqF, bneT, bneF, hm, hm2, hm3, hm4, hm5] <;> rfl) : p := h
theorem rucall {T : Tab} {X : CallP} {n0 lo : Nat} {wt : List Tmp} {draw : Bool} {ops : Array Oper} {Q : St → Prop} {rest : List Oper} {o : Oper} {env : List D} {sto : Sto} {f : FuncId} {args : List D} (k : ∃ r, X f args sto (if draw then sto.length else lo) r sto ∧ EvOps T X n0 lo wt draw ops Q rest (St.put ⟨env, sto⟩ o.dst r)) (hg : guardD ops o env = some true := by rfl) (h : evCallee (opd env) sto o = some (f, args) := by simp (disch := (first | omega | assumption | ((repeat' with_reducible apply And.intro) <;> first | omega | assumption | rfl | (apply Or.inl; rfl) | (apply Or.inr; first | rfl | trivial | fail) | fail) | fail)) only [go_sem, if_pos, if_neg, wrapI, wrapU, decide_eq_true, decide_eq_false, beqT, beqF, bneT, bneF, hm, hm2, hm3, hm4, hm5] <;> rfl) : EvOps T X n0 lo wt draw ops Q (o :: rest) ⟨env, sto⟩ := k.elim fun _ k => ops_call hg h k.1 k.2
def rsettleS (R : RK) (i : Nat) (p : Int) : RK := { R with s := R.s.set i ⟨if (secAt R i).wn then (secAt R i).tx else tearS (secAt R i).tx (secAt R i).nx p, [], false, (secAt R i).wn⟩ }
theorem take_len {b : By} (h : b.length = 64) {p : Nat} (hp : p ≤ 64) : (b.take p).length = p := by rw [List.length_take]; omega
attribute [local go_sem] List.length_take List.length_drop
theorem rsettle_ev (R : RK) (hR : R.ok) (i : Nat) (hi : i < R.s.length) (hd : (R.s[i]).dy = true) (p : Int) (hp : Big p) (q a : Nat) (hqa : q ≠ a) : RefW 56 [.ptr q 0, .v (VI i), .v (VI p)] q a R (.v (.tup [])) (rsettleS R i p) := by
  have hfl := flatR_len R.s
  have h64 := hR.1 _ (List.getElem_mem hi)
  have hn64 := h64.2 hd
  have ht64 := h64.1
  have hn := hR.2.1
  clear h64 hR
  have hm := flatR_get hi
  have e : rsettleS R i p = { R with s := R.s.set i ⟨if (R.s[i]).wn then (R.s[i]).tx else tearS (R.s[i]).tx (R.s[i]).nx p, [], false, (R.s[i]).wn⟩ } := by rw [rsettleS, secAt_eq hi]
  rw [e]
  clear e
  obtain ⟨y, hy⟩ : ∃ y : SecR, y = ⟨if (R.s[i]).wn then (R.s[i]).tx else tearS (R.s[i]).tx (R.s[i]).nx p, [], false, (R.s[i]).wn⟩ := ⟨_, rfl⟩
  rw [← hy]
  have hput := flatR_put hi (j := 0) (cellsR y) y (by simp [cellsR]) (by simp [cellsR])
  simp only [cellsR, List.length_cons, List.length_nil, Nat.zero_add, Nat.add_zero, List.append_assoc, List.cons_append, List.nil_append] at hput
  have hl : (R.s.set i y).length = R.s.length := by simp
  obtain ⟨s, off, lf⟩ := R
  have hi2 : i < s.length := hi
  simp only [Nat.reduceAdd] at *
  generalize hx : s[i] = x at *
  obtain ⟨tx, nx, dy, wn⟩ := x
  simp only at *
  subst hd
  obtain ⟨hp1, hp2⟩ := hp
  have hm3 : True := trivial
  have hm4 := hm3
  have hm5 := hm3
  intro sto lo hq ha hlq hla; refine CallEv.intro ⟨_, _, [], Try.func56, rfl, by decide, ?_⟩; simp only [go_sem, Try.ntmps56]
  cases wn with
  | true =>
    simp only [if_true] at hy
    subst hy
    have hm2 := hput
    simp only at hm2
    clear hput
    have pc : p < 0 ∨ p > 64 ∨ (0 ≤ p ∧ p ≤ 64) := by omega
    rcases pc with h | h | ⟨ha1, ha2⟩
    · (try refine rugo ⟨?_⟩)
      rw [putR_sets hqa hl]
      refine ⟨by first | exact .inr rfl | exact .inl rfl, .inl ⟨[], _, (by dsimp only [Try.f56]; exact rusv), ?_, ?_⟩⟩; all_goals (first | rfl | (simp (disch := first | omega | assumption) only [putR_setd, putR_takeN, putR_take]; done) | (simp (disch := first | omega | assumption) only [putR_setd, putR_takeN, putR_take]; rfl) | skip)
    · (try refine rugo ⟨?_⟩)
      rw [putR_sets hqa hl]
      refine ⟨by first | exact .inr rfl | exact .inl rfl, .inl ⟨[], _, (by dsimp only [Try.f56]; exact rusv), ?_, ?_⟩⟩; all_goals (first | rfl | (simp (disch := first | omega | assumption) only [putR_setd, putR_takeN, putR_take]; done) | (simp (disch := first | omega | assumption) only [putR_setd, putR_takeN, putR_take]; rfl) | skip)
    · obtain ⟨p, rfl⟩ := Int.eq_ofNat_of_zero_le ha1
      have ha3 : p ≤ 64 := by omega
      by_cases h0 : p = 0
      · subst h0
        (try refine rugo ⟨?_⟩)
        rw [putR_sets hqa hl]
        refine ⟨by first | exact .inr rfl | exact .inl rfl, .inl ⟨[], _, (by dsimp only [Try.f56]; exact rusv), ?_, ?_⟩⟩; all_goals (first | rfl | (simp (disch := first | omega | assumption) only [putR_setd, putR_takeN, putR_take]; done) | (simp (disch := first | omega | assumption) only [putR_setd, putR_takeN, putR_take]; rfl) | skip)
      · by_cases h6 : p = 64
        · subst h6
          (try refine rugo ⟨?_⟩)
          rw [putR_sets hqa hl]
          refine ⟨by first | exact .inr rfl | exact .inl rfl, .inl ⟨[], _, (by dsimp only [Try.f56]; exact rusv), ?_, ?_⟩⟩; all_goals (first | rfl | (simp (disch := first | omega | assumption) only [putR_setd, putR_takeN, putR_take]; done) | (simp (disch := first | omega | assumption) only [putR_setd, putR_takeN, putR_take]; rfl) | skip)
        · (try refine rugo ⟨?_⟩)
          rw [putR_sets hqa hl]
          refine ⟨by first | exact .inr rfl | exact .inl rfl, .inl ⟨[], _, (by dsimp only [Try.f56]; exact rusv), ?_, ?_⟩⟩; all_goals (first | rfl | (simp (disch := first | omega | assumption) only [putR_setd, putR_takeN, putR_take]; done) | (simp (disch := first | omega | assumption) only [putR_setd, putR_takeN, putR_take]; rfl) | skip)
  | false =>
    simp only [Bool.false_eq_true, if_false] at hy
    have fin : ∀ (X : By) (l : Sto), X = tearS tx nx p → List.take sto.length (List.set (putR sto q a ⟨s, off, lf⟩) a (Ent.arr (some (51, 4)) true s.length (List.take (i * 4) (flatR s) ++ V.str (bs X) :: V.str (bs []) :: V.bool false :: V.bool false :: List.drop (i * 4 + 4) (flatR s))) ++ l) = putR sto q a ⟨s.set i y, off, lf⟩ := by
      rintro X l rfl
      rw [hy] at hput hl ⊢
      simp only at hput
      rw [hput, putR_sets hqa hl, putR_take]
    clear hput hl hy
    have hm2 := hm3
    have pc : p < 0 ∨ p > 64 ∨ (0 ≤ p ∧ p ≤ 64) := by omega
    rcases pc with h | h | ⟨ha1, ha2⟩
    · have hc : cutS p = 0 := by simp [cutS, h]
      (try refine rugo ⟨?_⟩)
      refine ⟨by first | exact .inr rfl | exact .inl rfl, .inl ⟨[], _, (by dsimp only [Try.f56]; exact rusv), ?_, ?_⟩⟩
      · rfl
      · exact fin _ _ (by simp [tearS, hc])
    · have hc : cutS p = 64 := by simp [cutS, h]; omega
      (try refine rugo ⟨?_⟩)
      refine ⟨by first | exact .inr rfl | exact .inl rfl, .inl ⟨[], _, (by dsimp only [Try.f56]; exact rusv), ?_, ?_⟩⟩
      · rfl
      · exact fin _ _ (by simp [tearS, hc])
    · obtain ⟨p, rfl⟩ := Int.eq_ofNat_of_zero_le ha1
      have ha3 : p ≤ 64 := by omega
      have hc : cutS (p : Int) = p := by unfold cutS; rw [if_neg (by omega), if_neg (by omega)]; rfl
      by_cases h0 : p = 0
      · subst h0
        (try refine rugo ⟨?_⟩)
        refine ⟨by first | exact .inr rfl | exact .inl rfl, .inl ⟨[], _, (by dsimp only [Try.f56]; exact rusv), ?_, ?_⟩⟩
        · rfl
        · exact fin _ _ (by simp [tearS, cutS])
      · by_cases h6 : p = 64
        · subst h6
          (try refine rugo ⟨?_⟩)
          refine ⟨by first | exact .inr rfl | exact .inl rfl, .inl ⟨[], _, (by dsimp only [Try.f56]; exact rusv), ?_, ?_⟩⟩
          · rfl
          · exact fin _ _ (by simp [tearS, cutS])
        · (try refine rugo ⟨?_⟩)
          refine ⟨by first | exact .inr rfl | exact .inl rfl, .inl ⟨[], _, (by dsimp only [Try.f56]; exact rusv), ?_, ?_⟩⟩
          · rfl
          · exact fin _ _ (by simp [tearS, hc])
end Go.Proofs.Ytghdanpigohnjaa
namespace Go.Proofs.Ytghdanpigohnjaa
open Go Go.RowKit

attribute [local irreducible] EvOps EvC
attribute [local go_sem] List.getElem?_toArray List.flatten_cons List.flatten_nil List.contains_nil List.append_nil List.nil_append List.length_set Bool.and_self implies_true eq_self Nat.zero_mul Nat.add_zero Nat.zero_add Nat.sub_zero List.take_zero List.drop_zero List.drop_replicate Nat.sub_self List.replicate_zero List.map_nil List.map_append List.length_replicate
attribute [local go_sem] bytesV_bs strV_u8s bs_size u8s_len bs_extract bs_append bs_beq bs_nil bs_nil2
attribute [local go_sem] putD_len putD_b putD_p putD_w putD_d putD_app putD_put putD_get0 putD_get putD_set0 putD_set putD_take putD_takeN putD_setd putD_setw putD_setp getLD setLD
set_option linter.unusedSimpArgs false
set_option linter.unusedVariables false
set_option maxRecDepth 100000
set_option maxHeartbeats 4000000
attribute [local go_sem] take_u8 take_u8v drop_u8v len_u8v viewL_mv eqVs_u8s zsV_Z64 Z64_len Nat.min_self Nat.min_eq_right

attribute [local go_sem] putR_len putR_s putR_d putR_app putR_put putR_get0 putR_get putR_set0 putR_set putR_take putR_takeN putR_setd getLR setLR cellsR

theorem rxgo {p q : Prop} (k : Later q) (h : Later q → p := by (intro k; (first | with_reducible (first | refine c_seq ?_ | refine c_block ?_ | refine c_region ?_ | refine c_skip ?_ | refine c_exit ?_ | refine c_ret ?_ | refine then_normal ?_ | refine then_exit ?_ | refine then_ret ?_ | refine block_normal ?_ | refine block_here ?_ | refine block_ret ?_ | refine block_far (by decide) ?_ | refine ops_nil ?_ | refine c_cond_t rfl ?_ | refine c_cond_f rfl ?_) | ((with_reducible apply ops_pure); rfl; (simp (disch := (first | omega | assumption | ((repeat' with_reducible apply And.intro) <;> first | omega | assumption | rfl | (apply Or.inl; rfl) | (apply Or.inr; first | rfl | trivial | fail) | fail) | fail)) only [go_sem, if_pos, if_neg, wrapI, wrapU, decide_eq_true, decide_eq_false, beqT, beqF, bneT, bneF, hm, hm2, hm3, hm4, hm5] <;> rfl); simp only [go_sem]) | ((with_reducible apply ops_pureF); rfl; (intro _; simp (disch := (first | omega | assumption | ((repeat' with_reducible apply And.intro) <;> first | omega | assumption | rfl | (apply Or.inl; rfl) | (apply Or.inr; first | rfl | trivial | fail) | fail) | fail)) only [go_sem, if_pos, if_neg, wrapI, wrapU, decide_eq_true, decide_eq_false, beqT, beqF, bneT, bneF, hm, hm2, hm3, hm4, hm5] <;> rfl); simp only [go_sem]) | ((with_reducible apply ops_pureD); kernel_rfl; rfl; (simp (disch := (first | omega | assumption | ((repeat' with_reducible apply And.intro) <;> first | omega | assumption | rfl | (apply Or.inl; rfl) | (apply Or.inr; first | rfl | trivial | fail) | fail) | fail)) only [go_sem, if_pos, if_neg, wrapI, wrapU, decide_eq_true, decide_eq_false, beqT, beqF, bneT, bneF, hm, hm2, hm3, hm4, hm5] <;> rfl); simp only [go_sem]) | ((with_reducible apply ops_skip); rfl; simp only [go_sem]) | ((with_reducible apply c_regionD); kernel_rfl) | ((first | ((with_reducible apply ops_eff); decide) | (with_reducible apply ops_lit)); rfl; (simp (disch := (first | omega | assumption | ((repeat' with_reducible apply And.intro) <;> first | omega | assumption | rfl | (apply Or.inl; rfl) | (apply Or.inr; first | rfl | trivial | fail) | fail) | fail)) only [go_sem, if_pos, if_neg, wrapI, wrapU, decide_eq_true, decide_eq_false, beqT, beqF, bneT, bneF, hm, hm2, hm3, hm4, hm5] <;> rfl); simp only [go_sem])); (repeat (first | with_reducible (first | refine c_seq ?_ | refine c_block ?_ | refine c_region ?_ | refine c_skip ?_ | refine c_exit ?_ | refine c_ret ?_ | refine then_normal ?_ | refine then_exit ?_ | refine then_ret ?_ | refine block_normal ?_ | refine block_here ?_ | refine block_ret ?_ | refine block_far (by decide) ?_ | refine ops_nil ?_ | refine c_cond_t rfl ?_ | refine c_cond_f rfl ?_) | ((with_reducible apply ops_pure); rfl; (simp (disch := (first | omega | assumption | ((repeat' with_reducible apply And.intro) <;> first | omega | assumption | rfl | (apply Or.inl; rfl) | (apply Or.inr; first | rfl | trivial | fail) | fail) | fail)) only [go_sem, if_pos, if_neg, wrapI, wrapU, decide_eq_true, decide_eq_false, beqT, beqF, bneT, bneF, hm, hm2, hm3, hm4, hm5] <;> rfl); simp only [go_sem]) | ((with_reducible apply ops_pureF); rfl; (intro _; simp (disch := (first | omega | assumption | ((repeat' with_reducible apply And.intro) <;> first | omega | assumption | rfl | (apply Or.inl; rfl) | (apply Or.inr; first | rfl | trivial | fail) | fail) | fail)) only [go_sem, if_pos, if_neg, wrapI, wrapU, decide_eq_true, decide_eq_false, beqT, beqF, bneT, bneF, hm, hm2, hm3, hm4, hm5] <;> rfl); simp only [go_sem]) | ((with_reducible apply ops_pureD); kernel_rfl; rfl; (simp (disch := (first | omega | assumption | ((repeat' with_reducible apply And.intro) <;> first | omega | assumption | rfl | (apply Or.inl; rfl) | (apply Or.inr; first | rfl | trivial | fail) | fail) | fail)) only [go_sem, if_pos, if_neg, wrapI, wrapU, decide_eq_true, decide_eq_false, beqT, beqF, bneT, bneF, hm, hm2, hm3, hm4, hm5] <;> rfl); simp only [go_sem]) | ((with_reducible apply ops_skip); rfl; simp only [go_sem]) | ((with_reducible apply c_regionD); kernel_rfl) | ((first | ((with_reducible apply ops_eff); decide) | (with_reducible apply ops_lit)); rfl; (simp (disch := (first | omega | assumption | ((repeat' with_reducible apply And.intro) <;> first | omega | assumption | rfl | (apply Or.inl; rfl) | (apply Or.inr; first | rfl | trivial | fail) | fail) | fail)) only [go_sem, if_pos, if_neg, wrapI, wrapU, decide_eq_true, decide_eq_false, beqT, beqF, bneT, bneF, hm, hm2, hm3, hm4, hm5] <;> rfl); simp only [go_sem]))); exact k.get)) : p := h k
theorem rxgoL {p q : Prop} (k : Later q) (h : Later q → p := by (intro k; (first | with_reducible (first | refine c_seq ?_ | refine c_block ?_ | refine c_region ?_ | refine c_skip ?_ | refine c_exit ?_ | refine c_ret ?_ | refine then_normal ?_ | refine then_exit ?_ | refine then_ret ?_ | refine block_normal ?_ | refine block_here ?_ | refine block_ret ?_ | refine block_far (by decide) ?_ | refine ops_nil ?_ | refine c_cond_t rfl ?_ | refine c_cond_f rfl ?_) | ((with_reducible apply ops_lit); rfl; (simp (disch := (first | omega | assumption | ((repeat' with_reducible apply And.intro) <;> first | omega | assumption | rfl | (apply Or.inl; rfl) | (apply Or.inr; first | rfl | trivial | fail) | fail) | fail)) only [go_sem, if_pos, if_neg, wrapI, wrapU, decide_eq_true, decide_eq_false, beqT, beqF, bneT, bneF, hm, hm2, hm3, hm4, hm5] <;> rfl); simp only [go_sem]) | ((with_reducible apply ops_pure); rfl; (simp (disch := (first | omega | assumption | ((repeat' with_reducible apply And.intro) <;> first | omega | assumption | rfl | (apply Or.inl; rfl) | (apply Or.inr; first | rfl | trivial | fail) | fail) | fail)) only [go_sem, if_pos, if_neg, wrapI, wrapU, decide_eq_true, decide_eq_false, beqT, beqF, bneT, bneF, hm, hm2, hm3, hm4, hm5] <;> rfl); simp only [go_sem]) | ((with_reducible apply ops_pureF); rfl; (intro _; simp (disch := (first | omega | assumption | ((repeat' with_reducible apply And.intro) <;> first | omega | assumption | rfl | (apply Or.inl; rfl) | (apply Or.inr; first | rfl | trivial | fail) | fail) | fail)) only [go_sem, if_pos, if_neg, wrapI, wrapU, decide_eq_true, decide_eq_false, beqT, beqF, bneT, bneF, hm, hm2, hm3, hm4, hm5] <;> rfl); simp only [go_sem]) | ((with_reducible apply ops_pureD); kernel_rfl; rfl; (simp (disch := (first | omega | assumption | ((repeat' with_reducible apply And.intro) <;> first | omega | assumption | rfl | (apply Or.inl; rfl) | (apply Or.inr; first | rfl | trivial | fail) | fail) | fail)) only [go_sem, if_pos, if_neg, wrapI, wrapU, decide_eq_true, decide_eq_false, beqT, beqF, bneT, bneF, hm, hm2, hm3, hm4, hm5] <;> rfl); simp only [go_sem]) | ((with_reducible apply ops_skip); rfl; simp only [go_sem]) | ((with_reducible apply c_regionD); kernel_rfl) | ((first | ((with_reducible apply ops_eff); decide) | (with_reducible apply ops_lit)); rfl; (simp (disch := (first | omega | assumption | ((repeat' with_reducible apply And.intro) <;> first | omega | assumption | rfl | (apply Or.inl; rfl) | (apply Or.inr; first | rfl | trivial | fail) | fail) | fail)) only [go_sem, if_pos, if_neg, wrapI, wrapU, decide_eq_true, decide_eq_false, beqT, beqF, bneT, bneF, hm, hm2, hm3, hm4, hm5] <;> rfl); simp only [go_sem])); (repeat (first | with_reducible (first | refine c_seq ?_ | refine c_block ?_ | refine c_region ?_ | refine c_skip ?_ | refine c_exit ?_ | refine c_ret ?_ | refine then_normal ?_ | refine then_exit ?_ | refine then_ret ?_ | refine block_normal ?_ | refine block_here ?_ | refine block_ret ?_ | refine block_far (by decide) ?_ | refine ops_nil ?_ | refine c_cond_t rfl ?_ | refine c_cond_f rfl ?_) | ((with_reducible apply ops_lit); rfl; (simp (disch := (first | omega | assumption | ((repeat' with_reducible apply And.intro) <;> first | omega | assumption | rfl | (apply Or.inl; rfl) | (apply Or.inr; first | rfl | trivial | fail) | fail) | fail)) only [go_sem, if_pos, if_neg, wrapI, wrapU, decide_eq_true, decide_eq_false, beqT, beqF, bneT, bneF, hm, hm2, hm3, hm4, hm5] <;> rfl); simp only [go_sem]) | ((with_reducible apply ops_pure); rfl; (simp (disch := (first | omega | assumption | ((repeat' with_reducible apply And.intro) <;> first | omega | assumption | rfl | (apply Or.inl; rfl) | (apply Or.inr; first | rfl | trivial | fail) | fail) | fail)) only [go_sem, if_pos, if_neg, wrapI, wrapU, decide_eq_true, decide_eq_false, beqT, beqF, bneT, bneF, hm, hm2, hm3, hm4, hm5] <;> rfl); simp only [go_sem]) | ((with_reducible apply ops_pureF); rfl; (intro _; simp (disch := (first | omega | assumption | ((repeat' with_reducible apply And.intro) <;> first | omega | assumption | rfl | (apply Or.inl; rfl) | (apply Or.inr; first | rfl | trivial | fail) | fail) | fail)) only [go_sem, if_pos, if_neg, wrapI, wrapU, decide_eq_true, decide_eq_false, beqT, beqF, bneT, bneF, hm, hm2, hm3, hm4, hm5] <;> rfl); simp only [go_sem]) | ((with_reducible apply ops_pureD); kernel_rfl; rfl; (simp (disch := (first | omega | assumption | ((repeat' with_reducible apply And.intro) <;> first | omega | assumption | rfl | (apply Or.inl; rfl) | (apply Or.inr; first | rfl | trivial | fail) | fail) | fail)) only [go_sem, if_pos, if_neg, wrapI, wrapU, decide_eq_true, decide_eq_false, beqT, beqF, bneT, bneF, hm, hm2, hm3, hm4, hm5] <;> rfl); simp only [go_sem]) | ((with_reducible apply ops_skip); rfl; simp only [go_sem]) | ((with_reducible apply c_regionD); kernel_rfl) | ((first | ((with_reducible apply ops_eff); decide) | (with_reducible apply ops_lit)); rfl; (simp (disch := (first | omega | assumption | ((repeat' with_reducible apply And.intro) <;> first | omega | assumption | rfl | (apply Or.inl; rfl) | (apply Or.inr; first | rfl | trivial | fail) | fail) | fail)) only [go_sem, if_pos, if_neg, wrapI, wrapU, decide_eq_true, decide_eq_false, beqT, beqF, bneT, bneF, hm, hm2, hm3, hm4, hm5] <;> rfl); simp only [go_sem]))); exact k.get)) : p := h k
theorem rxgoX {p q : Prop} (k : Later q) (h : Later q → p := by (intro k; (first | with_reducible (first | refine c_seq ?_ | refine c_block ?_ | refine c_skip ?_ | refine c_exit ?_ | refine c_ret ?_ | refine then_normal ?_ | refine then_exit ?_ | refine then_ret ?_ | refine block_normal ?_ | refine block_here ?_ | refine block_ret ?_ | refine block_far (by decide) ?_ | refine ops_nil ?_ | refine c_cond_t rfl ?_ | refine c_cond_f rfl ?_) | ((with_reducible apply ops_pure); rfl; (simp (disch := (first | omega | assumption | ((repeat' with_reducible apply And.intro) <;> first | omega | assumption | rfl | (apply Or.inl; rfl) | (apply Or.inr; first | rfl | trivial | fail) | fail) | fail)) only [go_sem, if_pos, if_neg, wrapI, wrapU, decide_eq_true, decide_eq_false, beqT, beqF, bneT, bneF, hm, hm2, hm3, hm4, hm5] <;> rfl); simp only [go_sem]) | ((with_reducible apply ops_pureF); rfl; (intro _; simp (disch := (first | omega | assumption | ((repeat' with_reducible apply And.intro) <;> first | omega | assumption | rfl | (apply Or.inl; rfl) | (apply Or.inr; first | rfl | trivial | fail) | fail) | fail)) only [go_sem, if_pos, if_neg, wrapI, wrapU, decide_eq_true, decide_eq_false, beqT, beqF, bneT, bneF, hm, hm2, hm3, hm4, hm5] <;> rfl); simp only [go_sem]) | ((with_reducible apply ops_pureD); kernel_rfl; rfl; (simp (disch := (first | omega | assumption | ((repeat' with_reducible apply And.intro) <;> first | omega | assumption | rfl | (apply Or.inl; rfl) | (apply Or.inr; first | rfl | trivial | fail) | fail) | fail)) only [go_sem, if_pos, if_neg, wrapI, wrapU, decide_eq_true, decide_eq_false, beqT, beqF, bneT, bneF, hm, hm2, hm3, hm4, hm5] <;> rfl); simp only [go_sem]) | ((with_reducible apply ops_skip); rfl; simp only [go_sem]) | ((with_reducible apply c_regionD); kernel_rfl) | ((first | ((with_reducible apply ops_eff); decide) | (with_reducible apply ops_lit)); rfl; (simp (disch := (first | omega | assumption | ((repeat' with_reducible apply And.intro) <;> first | omega | assumption | rfl | (apply Or.inl; rfl) | (apply Or.inr; first | rfl | trivial | fail) | fail) | fail)) only [go_sem, if_pos, if_neg, wrapI, wrapU, decide_eq_true, decide_eq_false, beqT, beqF, bneT, bneF, hm, hm2, hm3, hm4, hm5] <;> rfl); simp only [go_sem])); (repeat (first | with_reducible (first | refine c_seq ?_ | refine c_block ?_ | refine c_skip ?_ | refine c_exit ?_ | refine c_ret ?_ | refine then_normal ?_ | refine then_exit ?_ | refine then_ret ?_ | refine block_normal ?_ | refine block_here ?_ | refine block_ret ?_ | refine block_far (by decide) ?_ | refine ops_nil ?_ | refine c_cond_t rfl ?_ | refine c_cond_f rfl ?_) | ((with_reducible apply ops_pure); rfl; (simp (disch := (first | omega | assumption | ((repeat' with_reducible apply And.intro) <;> first | omega | assumption | rfl | (apply Or.inl; rfl) | (apply Or.inr; first | rfl | trivial | fail) | fail) | fail)) only [go_sem, if_pos, if_neg, wrapI, wrapU, decide_eq_true, decide_eq_false, beqT, beqF, bneT, bneF, hm, hm2, hm3, hm4, hm5] <;> rfl); simp only [go_sem]) | ((with_reducible apply ops_pureF); rfl; (intro _; simp (disch := (first | omega | assumption | ((repeat' with_reducible apply And.intro) <;> first | omega | assumption | rfl | (apply Or.inl; rfl) | (apply Or.inr; first | rfl | trivial | fail) | fail) | fail)) only [go_sem, if_pos, if_neg, wrapI, wrapU, decide_eq_true, decide_eq_false, beqT, beqF, bneT, bneF, hm, hm2, hm3, hm4, hm5] <;> rfl); simp only [go_sem]) | ((with_reducible apply ops_pureD); kernel_rfl; rfl; (simp (disch := (first | omega | assumption | ((repeat' with_reducible apply And.intro) <;> first | omega | assumption | rfl | (apply Or.inl; rfl) | (apply Or.inr; first | rfl | trivial | fail) | fail) | fail)) only [go_sem, if_pos, if_neg, wrapI, wrapU, decide_eq_true, decide_eq_false, beqT, beqF, bneT, bneF, hm, hm2, hm3, hm4, hm5] <;> rfl); simp only [go_sem]) | ((with_reducible apply ops_skip); rfl; simp only [go_sem]) | ((with_reducible apply c_regionD); kernel_rfl) | ((first | ((with_reducible apply ops_eff); decide) | (with_reducible apply ops_lit)); rfl; (simp (disch := (first | omega | assumption | ((repeat' with_reducible apply And.intro) <;> first | omega | assumption | rfl | (apply Or.inl; rfl) | (apply Or.inr; first | rfl | trivial | fail) | fail) | fail)) only [go_sem, if_pos, if_neg, wrapI, wrapU, decide_eq_true, decide_eq_false, beqT, beqF, bneT, bneF, hm, hm2, hm3, hm4, hm5] <;> rfl); simp only [go_sem]))); exact k.get)) : p := h k
theorem rxsv {p : Prop} (h : p := by simp (disch := (first | omega | assumption | ((repeat' with_reducible apply And.intro) <;> first | omega | assumption | rfl | (apply Or.inl; rfl) | (apply Or.inr; first | rfl | trivial | fail) | fail) | fail)) only [go_sem, if_pos, if_neg, wrapI, wrapU, decide_eq_true, decide_eq_false, beqT, beqF, bneT, bneF, hm, hm2, hm3, hm4, hm5] <;> rfl) : p := h
theorem rxcall {T : Tab} {X : CallP} {n0 lo : Nat} {wt : List Tmp} {draw : Bool} {ops : Array Oper} {Q : St → Prop} {rest : List Oper} {o : Oper} {env : List D} {sto : Sto} {f : FuncId} {args : List D} (k : ∃ r, X f args sto (if draw then sto.length else lo) r sto ∧ EvOps T X n0 lo wt draw ops Q rest (St.put ⟨env, sto⟩ o.dst r)) (hg : guardD ops o env = some true := by rfl) (h : evCallee (opd env) sto o = some (f, args) := by simp (disch := (first | omega | assumption | ((repeat' with_reducible apply And.intro) <;> first | omega | assumption | rfl | (apply Or.inl; rfl) | (apply Or.inr; first | rfl | trivial | fail) | fail) | fail)) only [go_sem, if_pos, if_neg, wrapI, wrapU, decide_eq_true, decide_eq_false, beqT, beqF, bneT, bneF, hm, hm2, hm3, hm4, hm5] <;> rfl) : EvOps T X n0 lo wt draw ops Q (o :: rest) ⟨env, sto⟩ := k.elim fun _ k => ops_call hg h k.1 k.2
theorem rstep_ok {R : RK} (h : R.ok) : (rstepS R).1.ok := by
  obtain ⟨h1, h2, h3, h4⟩ := h
  unfold rstepS
  split
  · exact ⟨h1, h2, h3, h4⟩
  · split
    · refine ⟨h1, h2, h3, ?_⟩
      simp only [Big] at h4 ⊢; omega
    · exact ⟨h1, h2, h3, h4⟩
theorem rsettle_ok {R : RK} (h : R.ok) {i : Nat} (hi : i < R.s.length) (hd : (R.s[i]).dy = true) (p : Int) : (rsettleS R i p).ok := by
  obtain ⟨h1, h2, h3, h4⟩ := h
  have hx := h1 _ (List.getElem_mem hi)
  refine ⟨fun x hx' => ?_, by simpa [rsettleS] using h2, by simpa [rsettleS] using h3, h4⟩
  simp only [rsettleS] at hx'
  rcases List.mem_or_eq_of_mem_set hx' with h | rfl
  · exact h1 x h
  · refine ⟨?_, by simp⟩
    rw [secAt_eq hi]
    simp only
    split
    · exact hx.1
    · exact tearS_len hx.1 (hx.2 hd) p
def rsetN (R : RK) (ps : Nat → Int) : Nat → RK × Nat
  | 0 => (R, 0)
  | j + 1 => if (secAt (rsetN R ps j).1 j).dy then (rsettleS (rsetN R ps j).1 j (ps (rsetN R ps j).2), (rsetN R ps j).2 + 1) else rsetN R ps j
theorem rsetN_ok {R : RK} (h : R.ok) (ps : Nat → Int) : ∀ j, j ≤ R.s.length → (rsetN R ps j).1.ok ∧ (rsetN R ps j).1.s.length = R.s.length ∧ (rsetN R ps j).2 ≤ j ∧ ∀ i, j ≤ i → (rsetN R ps j).1.s[i]? = R.s[i]?
  | 0, _ => ⟨h, rfl, Nat.le_refl _, fun _ _ => rfl⟩
  | j + 1, hj => by
    obtain ⟨h1, h2, h3, h4⟩ := rsetN_ok h ps j (by omega)
    rw [rsetN]
    split
    · rename_i hd
      have hi : j < (rsetN R ps j).1.s.length := by omega
      rw [secAt_eq hi] at hd
      refine ⟨rsettle_ok h1 hi hd _, by simpa [rsettleS] using h2, by omega, fun i hij => ?_⟩
      simp only [rsettleS]
      rw [List.getElem?_set_ne (by omega)]
      exact h4 i (by omega)
    · exact ⟨h1, h2, by omega, fun i hij => h4 i (by omega)⟩
def rflushS (R : RK) : RK × Int :=
  if R.off then (R, 18) else if (rstepS R).2 ≠ 0 then ((rstepS R).1, (rstepS R).2) else ((rsetN (rstepS R).1 (fun _ => 64) R.s.length).1, 0)
def pickR (picks : List Int) (j : Nat) : Int := picks.getD j 64
def rmountS (R : RK) (picks : List Int) : RK := { (rsetN R (pickR picks) R.s.length).1 with off := false, lf := -1 }
theorem rflush_ev (R : RK) (hR : R.ok) (q a : Nat) (hqa : q ≠ a) : RefW 34 [.ptr q 0] q a R (.v (VI (rflushS R).2)) (rflushS R).1 := by
  have hst := rstep_ev R hR q a hqa
  have hm5 : True := trivial
  have hm4 := hm5
  have hm3 := hm5
  have hm2 := hm5
  intro sto lo hq ha hlq hla; refine CallEv.intro ⟨_, _, [], Try.func34, rfl, by decide, ?_⟩; simp only [go_sem, Try.ntmps34]
  cases ho : R.off with
  | true =>
    rw [show rflushS R = (R, 18) by simp [rflushS, ho]]
    have hm := ho
    (try refine rxgo ⟨?_⟩)
    refine ⟨by first | exact .inr rfl | exact .inl rfl, .inl ⟨[], _, (by dsimp only [Try.f34]; exact rxsv), ?_, ?_⟩⟩; all_goals (first | rfl | (simp (disch := first | omega | assumption) only [putR_setd, putR_takeN, putR_take]; done) | (simp (disch := first | omega | assumption) only [putR_setd, putR_takeN, putR_take]; rfl) | skip)
  | false =>
    have hm := ho
    by_cases h3 : (rstepS R).2 = 0
    · rw [show rflushS R = ((rsetN (rstepS R).1 (fun _ => 64) R.s.length).1, 0) by simp [rflushS, ho, h3]]
      have hN := rsetN_ok (rstep_ok hR) (fun _ => 64)
      have hsl : (rstepS R).1.s.length = R.s.length := by unfold rstepS; (repeat' split) <;> rfl
      have hn := hR.2.1
      (try refine rxgo ⟨?_⟩)
      ((with_reducible apply ops_callW); rfl; (simp (disch := (first | omega | assumption | ((repeat' with_reducible apply And.intro) <;> first | omega | assumption | rfl | (apply Or.inl; rfl) | (apply Or.inr; first | rfl | trivial | fail) | fail) | fail)) only [go_sem, if_pos, if_neg, wrapI, wrapU, decide_eq_true, decide_eq_false, beqT, beqF, bneT, bneF, hm, hm2, hm3, hm4, hm5] <;> rfl); (exact hst _ _ hq ha (by omega) (by omega)); (exact ho_putR0 hqa hq ha (by omega) (by omega)); (try simp only [go_sem]))
      (try refine rxgo ⟨?_⟩)
      clear hst hm
      have hse : ∀ j (hj : j < R.s.length) (hjl : j < (rsetN (rstepS R).1 (fun _ => 64) j).1.s.length), ((rsetN (rstepS R).1 (fun _ => 64) j).1.s[j]).dy = true → RefW 56 [.ptr q 0, .v (VI j), .v (VI 64)] q a (rsetN (rstepS R).1 (fun _ => 64) j).1 (.v (.tup [])) (rsetN (rstepS R).1 (fun _ => 64) (j + 1)).1 := by
        intro j hj hjl hd
        obtain ⟨k1, k2, k3, k4⟩ := hN j (by omega)
        have e : (rsetN (rstepS R).1 (fun _ => 64) (j + 1)).1 = rsettleS (rsetN (rstepS R).1 (fun _ => 64) j).1 j 64 := by
          rw [rsetN, secAt_eq (by omega), if_pos hd]
        rw [e]
        exact rsettle_ev _ k1 j (by omega) hd 64 (by simp [Big]) q a hqa
      have hsk : ∀ j (hj : j < R.s.length) (hjl : j < (rsetN (rstepS R).1 (fun _ => 64) j).1.s.length), ((rsetN (rstepS R).1 (fun _ => 64) j).1.s[j]).dy = false → (rsetN (rstepS R).1 (fun _ => 64) (j + 1)) = rsetN (rstepS R).1 (fun _ => 64) j := by
        intro j hj hjl hd
        rw [rsetN, secAt_eq hjl, if_neg (by simp [hd])]
      have hlen : ∀ j, j ≤ R.s.length → (rsetN (rstepS R).1 (fun _ => 64) j).1.s.length = R.s.length := fun j hj => by rw [(hN j (by omega)).2.1, hsl]
      clear hN hR
      obtain ⟨SN, hSN⟩ : ∃ SN : Nat → RK × Nat, SN = rsetN (rstepS R).1 (fun _ => 64) := ⟨_, rfl⟩
      have h0 : (rstepS R).1 = (SN 0).1 := by rw [hSN]; rfl
      rw [← hSN]
      simp only [← hSN] at hse hsk hlen
      rw [h0]
      clear h0
      refine c_loop (fun m s => ∃ (j : Nat), (j ≤ R.s.length ∧ m = R.s.length - j) ∧ (s.env.length = 34 ∧ s.sto = putR sto q a (SN j).1 ∧ s.env[0]? = some (.ptr q 0) ∧ s.env[2]? = some (.v (VI 0)) ∧ s.env[4]? = some (.v (VI j)))) (.refl _) ⟨0, ⟨by omega, rfl⟩, rfl, rfl, ?_, ?_, ?_⟩ ?_
      all_goals first | rfl | skip
      rintro m s ⟨j, ⟨h1, rfl⟩, hL, hT, k0, k2, k4⟩
      obtain ⟨env, st0⟩ := s; obtain ⟨J, hJ⟩ := listJ hL; rw [show (List.range 34).map J = J 0 :: J 1 :: J 2 :: J 3 :: J 4 :: J 5 :: J 6 :: J 7 :: J 8 :: J 9 :: J 10 :: J 11 :: J 12 :: J 13 :: J 14 :: J 15 :: J 16 :: J 17 :: J 18 :: J 19 :: J 20 :: J 21 :: J 22 :: J 23 :: J 24 :: J 25 :: J 26 :: J 27 :: J 28 :: J 29 :: J 30 :: J 31 :: J 32 :: J 33 :: [] from by kernel_rfl] at hJ; replace k0 := Option.some.inj ((congrArg (·[0]?) hJ).symm.trans k0); replace k2 := Option.some.inj ((congrArg (·[2]?) hJ).symm.trans k2); replace k4 := Option.some.inj ((congrArg (·[4]?) hJ).symm.trans k4); rw [k0, k2, k4] at hJ; dsimp only at hJ hT; subst hJ; replace hT := hT.symm; subst hT; clear hL k0 k2 k4
      have hl := hlen j h1
      by_cases hb : j < R.s.length
      · have hfl := flatR_len (SN j).1.s
        have hjl : j < (SN j).1.s.length := by omega
        obtain ⟨-, -, hm, -⟩ := flatR_get1 hjl
        cases hd : ((SN j).1.s[j]).dy with
        | true =>
          have hs := hse j hb hjl hd
          rw [hd] at hm
          clear hse hsk hlen
          (try refine rxgo ⟨?_⟩)
          ((with_reducible apply ops_callW); rfl; (simp (disch := (first | omega | assumption | ((repeat' with_reducible apply And.intro) <;> first | omega | assumption | rfl | (apply Or.inl; rfl) | (apply Or.inr; first | rfl | trivial | fail) | fail) | fail)) only [go_sem, if_pos, if_neg, wrapI, wrapU, decide_eq_true, decide_eq_false, beqT, beqF, bneT, bneF, hm, hm2, hm3, hm4, hm5] <;> rfl); (exact hs _ _ hq ha (by omega) (by omega)); (exact ho_putR0 hqa hq ha (by omega) (by omega)); (try simp only [go_sem]))
          (try refine rxgo ⟨?_⟩)
          refine ⟨_, _, ?_, .refl _, j + 1, ⟨by omega, rfl⟩, rfl, rfl, ?_, ?_, ?_⟩
          · omega
          all_goals rfl
        | false =>
          have hs := hsk j hb hjl hd
          rw [hd] at hm
          clear hse hsk hlen
          (try refine rxgo ⟨?_⟩)
          refine ⟨_, _, ?_, .refl _, j + 1, ⟨by omega, rfl⟩, rfl, ?_, rfl, rfl, rfl⟩
          · omega
          · rw [hs]
      · have hj : j = R.s.length := by omega
        clear hse hsk hlen
        have hm := hm5
        (try refine rxgo ⟨?_⟩)
        refine ⟨by first | exact .inr rfl | exact .inl rfl, .inl ⟨[], _, (by dsimp only [Try.f34]; exact rxsv), ?_, ?_⟩⟩; all_goals (first | rfl | (simp (disch := first | omega | assumption) only [putR_setd, putR_takeN, putR_take]; done) | (simp (disch := first | omega | assumption) only [putR_setd, putR_takeN, putR_take]; rfl) | skip)
        · rw [hj]; exact putR_takeN
    · rw [show rflushS R = ((rstepS R).1, (rstepS R).2) by simp [rflushS, ho, h3]]
      (try refine rxgo ⟨?_⟩)
      ((with_reducible apply ops_callW); rfl; (simp (disch := (first | omega | assumption | ((repeat' with_reducible apply And.intro) <;> first | omega | assumption | rfl | (apply Or.inl; rfl) | (apply Or.inr; first | rfl | trivial | fail) | fail) | fail)) only [go_sem, if_pos, if_neg, wrapI, wrapU, decide_eq_true, decide_eq_false, beqT, beqF, bneT, bneF, hm, hm2, hm3, hm4, hm5] <;> rfl); (exact hst _ _ hq ha (by omega) (by omega)); (exact ho_putR0 hqa hq ha (by omega) (by omega)); (try simp only [go_sem]))
      (try refine rxgo ⟨?_⟩)
      refine ⟨by first | exact .inr rfl | exact .inl rfl, .inl ⟨[], _, (by dsimp only [Try.f34]; exact rxsv), ?_, ?_⟩⟩; all_goals (first | rfl | (simp (disch := first | omega | assumption) only [putR_setd, putR_takeN, putR_take]; done) | (simp (disch := first | omega | assumption) only [putR_setd, putR_takeN, putR_take]; rfl) | skip)
theorem rmount_ev (R : RK) (hR : R.ok) (picks : List Int) (hpi : ∀ p ∈ picks, Big p) (hpl2 : picks.length < 9223372036854775808) (q a : Nat) (hqa : q ≠ a) : RefW 36 [.ptr q 0, .v (LI picks)] q a R (.v (.tup [])) (rmountS R picks) := by
  have hm5 : True := trivial
  have hm4 := hm5
  have hm3 := hm5
  have hm2 := hm5
  have hN := rsetN_ok hR (pickR picks)
  have hn := hR.2.1
  have hps : ∀ j, Big (pickR picks j) := fun j => by
    unfold pickR
    by_cases h : j < picks.length
    · simp only [List.getD, List.getElem?_eq_getElem h, Option.getD_some]; exact hpi _ (List.getElem_mem h)
    · simp only [List.getD, List.getElem?_eq_none (Nat.le_of_not_lt h), Option.getD_none]; simp [Big]
  have hse : ∀ j (hj : j < R.s.length) (hjl : j < (rsetN R (pickR picks) j).1.s.length), ((rsetN R (pickR picks) j).1.s[j]).dy = true → RefW 56 [.ptr q 0, .v (VI j), .v (VI (pickR picks (rsetN R (pickR picks) j).2))] q a (rsetN R (pickR picks) j).1 (.v (.tup [])) (rsetN R (pickR picks) (j + 1)).1 ∧ (rsetN R (pickR picks) (j + 1)).2 = (rsetN R (pickR picks) j).2 + 1 := by
    intro j hj hjl hd
    obtain ⟨k1, k2, k3, k4⟩ := hN j (by omega)
    have e : rsetN R (pickR picks) (j + 1) = (rsettleS (rsetN R (pickR picks) j).1 j (pickR picks (rsetN R (pickR picks) j).2), (rsetN R (pickR picks) j).2 + 1) := by
      rw [rsetN, secAt_eq (by omega), if_pos hd]
    rw [e]
    exact ⟨rsettle_ev _ k1 j (by omega) hd _ (hps _) q a hqa, rfl⟩
  have hsk : ∀ j (hj : j < R.s.length) (hjl : j < (rsetN R (pickR picks) j).1.s.length), ((rsetN R (pickR picks) j).1.s[j]).dy = false → rsetN R (pickR picks) (j + 1) = rsetN R (pickR picks) j := by
    intro j hj hjl hd
    rw [rsetN, secAt_eq hjl, if_neg (by simp [hd])]
  have hlen : ∀ j, j ≤ R.s.length → (rsetN R (pickR picks) j).1.s.length = R.s.length ∧ (rsetN R (pickR picks) j).2 ≤ j := fun j hj => ⟨(hN j hj).2.1, (hN j hj).2.2.1⟩
  have he : rmountS R picks = { (rsetN R (pickR picks) R.s.length).1 with off := false, lf := -1 } := rfl
  rw [he]
  clear he hN hps hR
  intro sto lo hq ha hlq hla; refine CallEv.intro ⟨_, _, [], Try.func36, rfl, by decide, ?_⟩; simp only [go_sem, Try.ntmps36]
  have hm := hm5
  (try refine rxgo ⟨?_⟩)
  clear hm
  obtain ⟨SN, hSN⟩ : ∃ SN : Nat → RK × Nat, SN = rsetN R (pickR picks) := ⟨_, rfl⟩
  have h0 : putR sto q a R = putR sto q a (SN 0).1 := by rw [hSN]; rfl
  have h00 : (SN 0).2 = 0 := by rw [hSN]; rfl
  rw [← hSN]
  simp only [← hSN] at hse hsk hlen
  rw [h0]
  clear h0
  refine c_loop (fun m s => ∃ (j : Nat), (j ≤ R.s.length ∧ m = R.s.length - j) ∧ (s.env.length = 45 ∧ s.sto = putR sto q a (SN j).1 ∧ s.env[0]? = some (.ptr q 0) ∧ s.env[1]? = some (.v (LI picks)) ∧ s.env[4]? = some (.v (VI (SN j).2)) ∧ s.env[5]? = some (.v (VI j)))) (.refl _) ⟨0, ⟨by omega, rfl⟩, ?_⟩ ?_
  · rw [h00]
    refine ⟨rfl, rfl, ?_, ?_, ?_, ?_⟩ <;> rfl
  rintro m s ⟨j, ⟨h1, rfl⟩, hL, hT, k0, k1, k4, k5⟩
  obtain ⟨env, st0⟩ := s; obtain ⟨J, hJ⟩ := listJ hL; rw [show (List.range 45).map J = J 0 :: J 1 :: J 2 :: J 3 :: J 4 :: J 5 :: J 6 :: J 7 :: J 8 :: J 9 :: J 10 :: J 11 :: J 12 :: J 13 :: J 14 :: J 15 :: J 16 :: J 17 :: J 18 :: J 19 :: J 20 :: J 21 :: J 22 :: J 23 :: J 24 :: J 25 :: J 26 :: J 27 :: J 28 :: J 29 :: J 30 :: J 31 :: J 32 :: J 33 :: J 34 :: J 35 :: J 36 :: J 37 :: J 38 :: J 39 :: J 40 :: J 41 :: J 42 :: J 43 :: J 44 :: [] from by kernel_rfl] at hJ; replace k0 := Option.some.inj ((congrArg (·[0]?) hJ).symm.trans k0); replace k1 := Option.some.inj ((congrArg (·[1]?) hJ).symm.trans k1); replace k4 := Option.some.inj ((congrArg (·[4]?) hJ).symm.trans k4); replace k5 := Option.some.inj ((congrArg (·[5]?) hJ).symm.trans k5); rw [k0, k1, k4, k5] at hJ; dsimp only at hJ hT; subst hJ; replace hT := hT.symm; subst hT; clear hL k0 k1 k4 k5
  obtain ⟨hl, hk⟩ := hlen j h1
  by_cases hb : j < R.s.length
  · have hfl := flatR_len (SN j).1.s
    have hjl : j < (SN j).1.s.length := by omega
    obtain ⟨-, -, hm, -⟩ := flatR_get1 hjl
    cases hd : ((SN j).1.s[j]).dy with
    | true =>
      obtain ⟨hs, hk2⟩ := hse j hb hjl hd
      rw [hd] at hm
      clear hse hsk hlen
      by_cases hp : (SN j).2 < picks.length
      · rw [show pickR picks (SN j).2 = picks[(SN j).2] by simp [pickR, List.getD, hp]] at hs
        (try refine rxgo ⟨?_⟩)
        ((with_reducible apply ops_callW); rfl; (simp (disch := (first | omega | assumption | ((repeat' with_reducible apply And.intro) <;> first | omega | assumption | rfl | (apply Or.inl; rfl) | (apply Or.inr; first | rfl | trivial | fail) | fail) | fail)) only [go_sem, if_pos, if_neg, wrapI, wrapU, decide_eq_true, decide_eq_false, beqT, beqF, bneT, bneF, hm, hm2, hm3, hm4, hm5] <;> rfl); (exact hs _ _ hq ha (by omega) (by omega)); (exact ho_putR0 hqa hq ha (by omega) (by omega)); (try simp only [go_sem]))
        (try refine rxgo ⟨?_⟩)
        refine ⟨_, _, ?_, .refl _, j + 1, ⟨by omega, rfl⟩, ?_⟩
        · omega
        · rw [hk2]
          refine ⟨rfl, rfl, ?_, ?_, ?_, ?_⟩ <;> rfl
      · rw [show pickR picks (SN j).2 = 64 by simp [pickR, List.getD, List.getElem?_eq_none (Nat.le_of_not_lt hp)]] at hs
        (try refine rxgo ⟨?_⟩)
        ((with_reducible apply ops_callW); rfl; (simp (disch := (first | omega | assumption | ((repeat' with_reducible apply And.intro) <;> first | omega | assumption | rfl | (apply Or.inl; rfl) | (apply Or.inr; first | rfl | trivial | fail) | fail) | fail)) only [go_sem, if_pos, if_neg, wrapI, wrapU, decide_eq_true, decide_eq_false, beqT, beqF, bneT, bneF, hm, hm2, hm3, hm4, hm5] <;> rfl); (exact hs _ _ hq ha (by omega) (by omega)); (exact ho_putR0 hqa hq ha (by omega) (by omega)); (try simp only [go_sem]))
        (try refine rxgo ⟨?_⟩)
        refine ⟨_, _, ?_, .refl _, j + 1, ⟨by omega, rfl⟩, ?_⟩
        · omega
        · rw [hk2]
          refine ⟨rfl, rfl, ?_, ?_, ?_, ?_⟩ <;> rfl
    | false =>
      have hs := hsk j hb hjl hd
      rw [hd] at hm
      clear hse hsk hlen
      (try refine rxgo ⟨?_⟩)
      refine ⟨_, _, ?_, .refl _, j + 1, ⟨by omega, rfl⟩, ?_⟩
      · omega
      · rw [hs]
        refine ⟨rfl, rfl, ?_, ?_, ?_, ?_⟩ <;> rfl
  · have hj : j = R.s.length := by omega
    subst hj
    clear hse hsk hlen
    have hm := hm5
    generalize (SN R.s.length).1 = E at *
    obtain ⟨s, off, lf⟩ := E
    simp only at hl
    (try refine rxgo ⟨?_⟩)
    refine ⟨by first | exact .inr rfl | exact .inl rfl, .inl ⟨[], _, (by dsimp only [Try.f36]; exact rxsv), ?_, ?_⟩⟩; all_goals (first | rfl | (simp (disch := first | omega | assumption) only [putR_setd, putR_takeN, putR_take]; done) | (simp (disch := first | omega | assumption) only [putR_setd, putR_takeN, putR_take]; rfl) | skip)
end Go.Proofs.Ytghdanpigohnjaa
namespace Go.Proofs.Ytghdanpigohnjaa
open Go
structure Rel (D : DK) (R : RK) : Prop where
  len : D.bl.length = R.s.length
  bl : ∀ (i : Nat) (h : i < R.s.length), D.bl.getD i [] = (R.s[i]).tx
  pd : ∀ (i : Nat) (h : i < R.s.length), getK D.pd i = if (R.s[i]).dy then some (R.s[i]).nx else none
  wn : ∀ (i : Nat) (h : i < R.s.length), ((i : Int) ∈ D.wn) ↔ (R.s[i]).wn = true
  off : D.off = R.off
  lf : D.lf = R.lf ∨ (D.lf < 0 ∧ R.lf < 0)
  dok : D.ok
  rok : R.ok
theorem rel_new {n : Nat} (h0 : 0 < n) (h : n ≤ 4096) : Rel (newD n) (newRK n) := by
  refine ⟨by simp [newD, newRK], fun i hi => ?_, fun i hi => ?_, fun i hi => ?_, rfl, .inl rfl, new_ok h0 h, ?_⟩
  · simp only [newRK, List.length_replicate] at hi
    simp [newD, newRK, List.getD, hi, rzero]
  · simp [newD, newRK, getK, rzero]
  · simp [newD, newRK, rzero]
  · refine ⟨fun x hx => ?_, by simpa [newRK] using h, by simpa [newRK] using h0, by simp [newRK, Big]⟩
    rw [(List.mem_replicate.1 hx).2]
    exact ⟨Z64_len, by simp [rzero]⟩
section
variable {D : DK} {R : RK} (h : Rel D R)
include h
theorem rel_check (i : Int) : checkS D i = if R.off then 18 else if isR R i = false then 1 else 0 := by
  unfold checkS
  rw [h.off, h.len]
  split
  · rfl
  · by_cases hi : isR R i = true
    · obtain ⟨h1, h2⟩ := isR_iff.1 hi
      rw [if_neg (by omega), hi]; rfl
    · have hn : ¬ (0 ≤ i ∧ i < R.s.length) := fun hh => hi (isR_iff.2 hh)
      simp only [Bool.not_eq_true] at hi
      rw [if_pos (by omega), hi]; rfl
theorem rel_step : (stepS D).2 = (rstepS R).2 ∧ Rel (stepS D).1 (rstepS R).1 := by
  have d := step_ok h.dok
  have r := rstep_ok h.rok
  revert d r
  unfold stepS rstepS
  rcases h.lf with hl | ⟨h1, h2⟩
  · rw [hl]
    split
    · intro d r; exact ⟨rfl, h.len, h.bl, h.pd, h.wn, rfl, .inl rfl, d, r⟩
    · split
      · intro d r; exact ⟨rfl, h.len, h.bl, h.pd, h.wn, h.off, .inl rfl, d, r⟩
      · intro d r; exact ⟨rfl, h⟩
  · rw [if_neg (by omega), if_neg (by omega), if_neg (by omega), if_neg (by omega)]
    intro d r; exact ⟨rfl, h⟩
theorem rel_trip (n : Int) (hn : Big n) : Rel { D with lf := n } { R with lf := max (-1) n } := by
  obtain ⟨d1, d2, d3, d4, d5, d6, d7, d8⟩ := h.dok
  obtain ⟨r1, r2, r3, r4⟩ := h.rok
  refine ⟨h.len, h.bl, h.pd, h.wn, h.off, ?_, ⟨d1, d2, d3, d4, d5, d6, d7, hn⟩, r1, r2, r3, ?_⟩
  · by_cases hh : -1 ≤ n
    · left; show n = max (-1) n; omega
    · right; show n < 0 ∧ max (-1) n < 0; omega
  · show Big (max (-1) n)
    simp only [Big] at hn ⊢; omega
theorem rel_read (i : Int) : readS D i = rreadS R i := by
  unfold readS rreadS
  rw [rel_check h i]
  by_cases ho : R.off = true
  · simp [ho]
  · simp only [Bool.not_eq_true] at ho
    by_cases hi : isR R i = true
    · obtain ⟨h1, h2⟩ := isR_iff.1 hi
      obtain ⟨i, rfl⟩ := Int.eq_ofNat_of_zero_le h1
      have hil : i < R.s.length := by omega
      have hp := h.pd i hil
      have hb := h.bl i hil
      simp only [ho, hi, hp, Int.toNat_natCast, secAt_eq hil, hb, Bool.false_eq_true, if_false, ne_eq, not_true_eq_false, Bool.true_eq_false]
      cases (R.s[i]).dy <;> simp
    · simp only [Bool.not_eq_true] at hi
      simp [ho, hi]
theorem rel_set {i : Nat} (hi : i < R.s.length) {y : SecR} {b : By} (hb : b = y.tx) (hy : y.tx.length = 64 ∧ (y.dy = true → y.nx.length = 64)) {pd : List (Int × By)} {wn : List Int} (hp : ∀ j : Nat, j < R.s.length → getK pd j = if j = i then (if y.dy then some y.nx else none) else getK D.pd j) (hw : ∀ j : Nat, j < R.s.length → ((j : Int) ∈ wn ↔ if j = i then y.wn = true else (j : Int) ∈ D.wn)) (hd : DK.ok ⟨D.bl.set i b, pd, wn, D.off, D.lf⟩) : Rel ⟨D.bl.set i b, pd, wn, D.off, D.lf⟩ ⟨R.s.set i y, R.off, R.lf⟩ := by
  have get : ∀ (j : Nat) (hj : j < (R.s.set i y).length), (R.s.set i y)[j] = if j = i then y else R.s[j]'(by simpa using hj) := by
    intro j hj
    rw [List.getElem_set]
    by_cases e : i = j
    · rw [if_pos e, if_pos e.symm]
    · rw [if_neg e, if_neg (fun h => e h.symm)]
  obtain ⟨r1, r2, r3, r4⟩ := h.rok
  refine ⟨by simp [h.len], fun j hj => ?_, fun j hj => ?_, fun j hj => ?_, h.off, h.lf, hd, ⟨fun x hx => ?_, by simpa using r2, by simpa using r3, r4⟩⟩
  · have hj' : j < R.s.length := by simpa using hj
    rw [get]
    have := h.bl j hj'
    have hdl : j < D.bl.length := by rw [h.len]; exact hj'
    simp only [List.getD, List.getElem?_set] at this ⊢
    by_cases e : j = i
    · subst e; rw [if_pos rfl, if_pos rfl, if_pos hdl, hb]; rfl
    · rw [if_neg e, if_neg (fun h => e h.symm)]; exact this
  · have hj' : j < R.s.length := by simpa using hj
    rw [get, hp j hj']
    by_cases e : j = i
    · rw [if_pos e, if_pos e]
    · rw [if_neg e, if_neg e]; exact h.pd j hj'
  · have hj' : j < R.s.length := by simpa using hj
    rw [get, hw j hj']
    by_cases e : j = i
    · rw [if_pos e, if_pos e]
    · rw [if_neg e, if_neg e]; exact h.wn j hj'
  · rcases List.mem_or_eq_of_mem_set hx with hx | rfl
    · exact r1 x hx
    · exact hy
theorem rel_self {i : Nat} (hi : i < R.s.length) : D.bl.set i (R.s[i]).tx = D.bl := by
  have hdl : i < D.bl.length := by rw [h.len]; exact hi
  have := h.bl i hi
  simp only [List.getD, List.getElem?_eq_getElem hdl, Option.getD_some] at this
  rw [← this]; exact List.set_getElem_self hdl
theorem rel_write (i : Int) (t : By) : (writeS D i t).2 = (rwriteS R i t).2 ∧ Rel (writeS D i t).1 (rwriteS R i t).1 := by
  have d := write_ok h.dok i t
  revert d
  unfold writeS rwriteS
  rw [rel_check h i]
  by_cases ho : R.off = true
  · simp only [ho, if_true]; intro d; exact ⟨rfl, h⟩
  · simp only [Bool.not_eq_true] at ho
    by_cases hi : isR R i = true
    · obtain ⟨h1, h2⟩ := isR_iff.1 hi
      obtain ⟨i, rfl⟩ := Int.eq_ofNat_of_zero_le h1
      have hil : i < R.s.length := by omega
      by_cases hl : t.length = 64
      · obtain ⟨e1, e2⟩ := rel_step h
        by_cases hs : (rstepS R).2 = 0
        · simp only [ho, hi, hl, e1, hs, Bool.false_eq_true, if_false, ne_eq, not_true_eq_false, Bool.true_eq_false, or_self, Int.toNat_natCast]
          intro d
          refine ⟨trivial, ?_⟩
          have hil' : i < (rstepS R).1.s.length := by rw [rstep_s]; exact hil
          rw [secAt_eq hil']
          generalize (stepS D).1 = E at *
          generalize (rstepS R).1 = S at *
          have hsame := rel_self e2 hil'
          have := rel_set e2 hil' (y := ⟨(S.s[i]).tx, t, true, (S.s[i]).wn⟩) rfl ⟨(e2.rok.1 _ (List.getElem_mem hil')).1, fun _ => hl⟩ (pd := putK E.pd i t) (wn := E.wn) (fun j hj => by
            rw [getK_put]
            by_cases e : j = i
            · subst e; simp
            · rw [if_neg (by omega), if_neg e]) (fun j hj => by
            by_cases e : j = i
            · subst e; rw [if_pos rfl]; exact e2.wn j hj
            · rw [if_neg e]) (by rw [hsame]; exact d)
          rw [hsame] at this
          exact this
        · simp only [ho, hi, hl, e1, hs, Bool.false_eq_true, if_false, ne_eq, not_true_eq_false, Bool.true_eq_false, or_self, not_false_eq_true, if_true]
          intro d
          exact ⟨trivial, e2⟩
      · simp only [ho, hi, hl, Bool.false_eq_true, if_false, ne_eq, not_true_eq_false, Bool.true_eq_false, not_false_eq_true, or_true, if_true]
        intro d; exact ⟨trivial, h⟩
    · simp only [Bool.not_eq_true] at hi
      simp only [ho, hi, Bool.false_eq_true, if_false, if_true, ne_eq, true_or]
      intro d; exact ⟨rfl, h⟩
theorem rel_wear (i : Int) : (wearS D i).2 = (rwearS R i).2 ∧ Rel (wearS D i).1 (rwearS R i).1 := by
  have d := wear_ok h.dok i
  revert d
  unfold wearS rwearS
  by_cases hi : isR R i = true
  · obtain ⟨h1, h2⟩ := isR_iff.1 hi
    obtain ⟨i, rfl⟩ := Int.eq_ofNat_of_zero_le h1
    have hil : i < R.s.length := by omega
    rw [if_neg (by rw [h.len]; omega), if_neg (by rw [hi]; simp)]
    intro d
    refine ⟨rfl, ?_⟩
    rw [Int.toNat_natCast, secAt_eq hil]
    have hsame := rel_self h hil
    have := rel_set h hil (y := ⟨(R.s[i]).tx, (R.s[i]).nx, (R.s[i]).dy, true⟩) rfl (h.rok.1 (R.s[i]) (List.getElem_mem hil)) (pd := D.pd) (wn := addK D.wn i) (fun j hj => by
      by_cases e : j = i
      · subst e; rw [if_pos rfl]; exact h.pd j hj
      · rw [if_neg e]) (fun j hj => by
      rw [mem_addK]
      by_cases e : j = i
      · subst e; simp
      · rw [if_neg e]
        have : ¬ ((j : Int) = (i : Int)) := by omega
        simp [this]) (by rw [hsame]; exact d)
    rw [hsame] at this
    exact this
  · have hn : ¬ (0 ≤ i ∧ i < R.s.length) := fun hh => hi (isR_iff.2 hh)
    simp only [Bool.not_eq_true] at hi
    rw [if_pos (by rw [h.len]; omega), if_pos hi]
    intro d; exact ⟨rfl, h⟩
theorem rel_rot (i bit : Int) : (rotS D i bit).2 = (rrotS R i bit).2 ∧ Rel (rotS D i bit).1 (rrotS R i bit).1 := by
  have d := rot_ok h.dok i bit
  revert d
  unfold rotS rrotS
  by_cases hi : isR R i = true ∧ 0 ≤ bit ∧ bit ≤ 511
  · obtain ⟨hi, hb1, hb2⟩ := hi
    obtain ⟨h1, h2⟩ := isR_iff.1 hi
    obtain ⟨i, rfl⟩ := Int.eq_ofNat_of_zero_le h1
    have hil : i < R.s.length := by omega
    rw [if_neg (by rw [h.len]; omega), if_neg (by rw [hi]; simp; omega)]
    intro d
    refine ⟨rfl, ?_⟩
    simp only [Int.toNat_natCast, secAt_eq hil, h.bl i hil] at d ⊢
    have hr := h.rok.1 _ (List.getElem_mem hil)
    exact rel_set h hil (y := ⟨rotB (R.s[i]).tx bit.toNat, (R.s[i]).nx, (R.s[i]).dy, (R.s[i]).wn⟩) rfl ⟨by rw [rotB_len]; exact hr.1, hr.2⟩ (pd := D.pd) (wn := D.wn) (fun j hj => by
      by_cases e : j = i
      · subst e; rw [if_pos rfl]; exact h.pd j hj
      · rw [if_neg e]) (fun j hj => by
      by_cases e : j = i
      · subst e; rw [if_pos rfl]; exact h.wn j hj
      · rw [if_neg e]) d
  · have hn : ¬ (0 ≤ i ∧ i < R.s.length) ∨ bit < 0 ∨ bit > 511 := by
      by_cases h1 : 0 ≤ i ∧ i < R.s.length
      · by_cases h2 : 0 ≤ bit ∧ bit ≤ 511
        · exact absurd ⟨isR_iff.2 h1, h2⟩ hi
        · right; omega
      · exact .inl h1
    rw [if_pos (by rw [h.len]; omega), if_pos (by
      rcases hn with hn | hn
      · left
        cases hb : isR R i with
        | false => rfl
        | true => exact absurd (isR_iff.1 hb) hn
      · exact .inr hn)]
    intro d; exact ⟨rfl, h⟩
theorem rel_img : D.bl = rimgS R := by
  apply List.ext_getElem
  · rw [rimgS, List.length_map]; exact h.len
  · intro i h1 h2
    have hil : i < R.s.length := by rw [← h.len]; exact h1
    have := h.bl i hil
    simp only [List.getD, List.getElem?_eq_getElem h1, Option.getD_some] at this
    rw [this]
    simp [rimgS]
end
theorem idxS_sorted (f : SecR → Bool) (s : List SecR) (n : Nat) : (idxS f s n).Pairwise (· < ·) := by
  unfold idxS
  refine List.pairwise_map.2 ?_
  exact (List.Pairwise.filter _ List.pairwise_lt_range).imp fun h => by omega
theorem mem_idxS {f : SecR → Bool} {s : List SecR} {x : Int} : x ∈ idxS f s s.length ↔ ∃ (i : Nat) (h : i < s.length), x = i ∧ f s[i] = true := by
  unfold idxS
  rw [List.mem_map]
  constructor
  · rintro ⟨i, hi, rfl⟩
    rw [List.mem_filter, List.mem_range] at hi
    refine ⟨i, hi.1, rfl, ?_⟩
    have := hi.2
    simpa [List.getD, hi.1] using this
  · rintro ⟨i, hi, rfl, hf⟩
    refine ⟨i, ?_, rfl⟩
    rw [List.mem_filter, List.mem_range]
    exact ⟨hi, by simpa [List.getD, hi] using hf⟩
theorem sorted_unique {a b : List Int} (ha : a.Nodup) (hb : b.Pairwise (· < ·)) (h : ∀ x, x ∈ a ↔ x ∈ b) : a.mergeSort leI = b := by
  have hp : a.Perm b := (List.perm_ext_iff_of_nodup ha (hb.imp fun h => by omega)).2 h
  rw [mergeSort_of_perm_i hp]
  refine List.mergeSort_of_pairwise ?_
  exact hb.imp fun h => by simp only [leI, decide_eq_true_eq]; omega
section
variable {D : DK} {R : RK} (h : Rel D R)
include h
theorem rel_pend : pendS D = rpendS R := by
  unfold pendS rpendS
  refine sorted_unique h.dok.2.2.1 (idxS_sorted _ _ _) fun x => ?_
  rw [mem_idxS]
  have hg := getK_none D.pd x
  constructor
  · intro hx
    obtain ⟨p, hp, rfl⟩ := List.mem_map.1 hx
    have hr := (h.dok.2.1 p hp).2
    obtain ⟨i, hi⟩ := Int.eq_ofNat_of_zero_le hr.1
    have hil : i < R.s.length := by rw [← h.len]; omega
    refine ⟨i, hil, hi, ?_⟩
    have := h.pd i hil
    rw [← hi] at this
    cases hd : (R.s[i]).dy with
    | true => rfl
    | false =>
      rw [hd] at this
      exact absurd hx (hg.1 this)
  · rintro ⟨i, hil, rfl, hd⟩
    have := h.pd i hil
    (try simp only at hd)
    rw [hd] at this
    simp only [if_true] at this
    exact List.mem_map.2 ⟨_, getK_mem this, rfl⟩
theorem rel_worn : wornS D = rwornS R := by
  unfold wornS rwornS
  refine sorted_unique h.dok.2.2.2.2.1 (idxS_sorted _ _ _) fun x => ?_
  rw [mem_idxS]
  constructor
  · intro hx
    have hr := h.dok.2.2.2.1 x hx
    obtain ⟨i, rfl⟩ := Int.eq_ofNat_of_zero_le hr.1
    have hil : i < R.s.length := by rw [← h.len]; omega
    exact ⟨i, hil, rfl, (h.wn i hil).1 hx⟩
  · rintro ⟨i, hil, rfl, hd⟩
    exact (h.wn i hil).2 hd
end
end Go.Proofs.Ytghdanpigohnjaa
namespace Go.Proofs.Ytghdanpigohnjaa
open Go
theorem rel_settle {D : DK} {R : RK} (h : Rel D R) {i : Nat} (hi : i < R.s.length) (hd : (R.s[i]).dy = true) (p : Int) : getK D.pd i = some (R.s[i]).nx ∧ Rel (settleS D i (R.s[i]).nx p) (rsettleS R i p) := by
  have hg : getK D.pd i = some (R.s[i]).nx := by rw [h.pd i hi, hd]; rfl
  refine ⟨hg, ?_⟩
  have d := settle_ok h.dok hg p
  have hr := h.rok.1 (R.s[i]) (List.getElem_mem hi)
  have hw := h.wn i hi
  revert d
  unfold settleS rsettleS
  rw [secAt_eq hi, Int.toNat_natCast, h.bl i hi]
  have pdp : ∀ j : Nat, j < R.s.length → getK (delK D.pd i) j = if j = i then none else getK D.pd j := fun j hj => by
    by_cases e : j = i
    · subst e; rw [if_pos rfl]; exact getK_del_self _ _ h.dok.2.2.1
    · rw [if_neg e]; exact getK_del_ne (by omega) _
  have wnp : ∀ (w : Bool), w = (R.s[i]).wn → ∀ j : Nat, j < R.s.length → ((j : Int) ∈ D.wn ↔ if j = i then w = true else (j : Int) ∈ D.wn) := fun w hww j hj => by
    by_cases e : j = i
    · subst e; rw [if_pos rfl, hww]; exact h.wn j hj
    · rw [if_neg e]
  by_cases hwn : (R.s[i]).wn = true
  · rw [if_pos (hw.2 hwn), if_pos hwn]
    intro d
    have hsame := rel_self h hi
    have := rel_set h hi (y := ⟨(R.s[i]).tx, [], false, (R.s[i]).wn⟩) rfl ⟨hr.1, by simp⟩ (pd := delK D.pd i) (wn := D.wn) (fun j hj => by rw [pdp j hj]; simp) (wnp _ rfl) (by rw [hsame]; exact d)
    rw [hsame] at this
    exact this
  · rw [if_neg (fun hh => hwn (hw.1 hh)), if_neg hwn]
    intro d
    exact rel_set h hi (y := ⟨tearS (R.s[i]).tx (R.s[i]).nx p, [], false, (R.s[i]).wn⟩) rfl ⟨tearS_len hr.1 (hr.2 hd) p, by simp⟩ (pd := delK D.pd i) (wn := D.wn) (fun j hj => by rw [pdp j hj]; simp) (wnp _ rfl) d
theorem idxS_prefix (f : SecR → Bool) (s : List SecR) (i : Nat) : ∀ n, i ≤ n → n ≤ s.length → ∃ t, idxS f s n = idxS f s i ++ t
  | 0, h, _ => by
    obtain rfl : i = 0 := by omega
    exact ⟨[], by simp⟩
  | n + 1, h, hn => by
    by_cases e : i = n + 1
    · subst e; exact ⟨[], by simp⟩
    · obtain ⟨t, ht⟩ := idxS_prefix f s i n (by omega) (by omega)
      rw [idxS_succ f (by omega), ht]
      split
      · exact ⟨t ++ [(n : Int)], by rw [List.append_assoc]⟩
      · exact ⟨t, rfl⟩
theorem rel_settleN {D : DK} {R : RK} (h : Rel D R) (ps : Nat → Int) : ∀ i, i ≤ R.s.length → (rsetN R ps i).2 = (idxS (·.dy) R.s i).length ∧ Rel (settleN D (pendS D) ps (idxS (·.dy) R.s i).length) (rsetN R ps i).1
  | 0, _ => ⟨rfl, h⟩
  | i + 1, hi => by
    obtain ⟨h1, h2⟩ := rel_settleN h ps i (by omega)
    obtain ⟨k1, k2, k3, k4⟩ := rsetN_ok h.rok ps i (by omega)
    have hil : i < R.s.length := by omega
    have hil2 : i < (rsetN R ps i).1.s.length := by omega
    have hs : (rsetN R ps i).1.s[i] = R.s[i] := by
      have := k4 i (Nat.le_refl _)
      rw [List.getElem?_eq_getElem hil, List.getElem?_eq_getElem hil2] at this
      simpa using this
    rw [rsetN, secAt_eq hil2, hs, idxS_succ _ hil]
    by_cases hd : (R.s[i]).dy = true
    · rw [if_pos hd, if_pos hd]
      rw [List.length_append, List.length_cons, List.length_nil, h1]
      refine ⟨rfl, ?_⟩
      obtain ⟨g1, g2⟩ := rel_settle h2 hil2 (by rw [hs]; exact hd) (ps (idxS (·.dy) R.s i).length)
      obtain ⟨t, ht⟩ := idxS_prefix (·.dy) R.s (i + 1) R.s.length hi (Nat.le_refl _)
      have hL : (pendS D).getD (idxS (·.dy) R.s i).length 0 = i := by
        rw [rel_pend h, rpendS, ht, idxS_succ _ hil, if_pos hd]
        simp [List.getD]
      have e : settleN D (pendS D) ps ((idxS (·.dy) R.s i).length + 1) = settleS (settleN D (pendS D) ps (idxS (·.dy) R.s i).length) i ((rsetN R ps i).1.s[i]).nx (ps (idxS (·.dy) R.s i).length) := by
        simp only [settleN, hL, settle1, g1]
      rw [show (idxS (·.dy) R.s i).length + (0 + 1) = (idxS (·.dy) R.s i).length + 1 from rfl, e]
      exact g2
    · rw [if_neg hd, if_neg hd]
      exact ⟨h1, h2⟩
theorem rel_flush {D : DK} {R : RK} (h : Rel D R) : (flushS D).2 = (rflushS R).2 ∧ Rel (flushS D).1 (rflushS R).1 := by
  unfold flushS rflushS
  rw [rel_check h 0]
  by_cases ho : R.off = true
  · simp only [ho, if_true]; exact ⟨rfl, h⟩
  · simp only [Bool.not_eq_true] at ho
    have hi : isR R 0 = true := isR_iff.2 ⟨by omega, by have := h.rok.2.2.1; omega⟩
    obtain ⟨e1, e2⟩ := rel_step h
    simp only [ho, hi, Bool.false_eq_true, if_false, Bool.true_eq_false, ne_eq, not_true_eq_false, e1]
    by_cases hs : (rstepS R).2 = 0
    · simp only [hs, not_true_eq_false, if_false]
      obtain ⟨g1, g2⟩ := rel_settleN e2 (fun _ => 64) (rstepS R).1.s.length (Nat.le_refl _)
      rw [show (idxS (·.dy) (rstepS R).1.s (rstepS R).1.s.length) = pendS (stepS D).1 from (rel_pend e2).symm, rstep_s] at g2
      exact ⟨trivial, g2⟩
    · simp only [hs, not_false_eq_true, if_true]
      exact ⟨trivial, e2⟩
theorem rel_mount {D : DK} {R : RK} (h : Rel D R) (picks : List Int) : Rel (mountS D picks) (rmountS R picks) := by
  obtain ⟨g1, g2⟩ := rel_settleN h (pickS picks) R.s.length (Nat.le_refl _)
  rw [show (idxS (·.dy) R.s R.s.length) = pendS D from (rel_pend h).symm] at g2
  obtain ⟨d1, d2, d3, d4, d5, d6, d7, d8⟩ := mount_ok h.dok picks
  obtain ⟨r1, r2, r3, r4⟩ := g2.rok
  exact ⟨g2.len, g2.bl, g2.pd, g2.wn, rfl, .inl rfl, ⟨d1, d2, d3, d4, d5, d6, d7, d8⟩, r1, r2, r3, by simp [rmountS, Big]⟩
/-- An operation of a script. -/
structure OpS where
  kind : Int
  i : Int
  bit : Int
  text : By
  picks : List Int
def OpS.cells (o : OpS) : List V := [VI o.kind, VI o.i, VI o.bit, .str (bs o.text), LI o.picks]
def OpS.ok (o : OpS) : Prop := Big o.kind ∧ Big o.i ∧ Big o.bit ∧ o.text.length < 9223372036854775808 ∧ o.picks.length < 9223372036854775808 ∧ ∀ p ∈ o.picks, Big p
def textS (s : By) : By := if h : 0 < s.length ∧ s.length < 64 then s ++ List.replicate (64 - s.length) (s.getLast (by intro e; rw [e] at h; simp at h)) else s
def doS (D : DK) (o : OpS) : DK × (By × Int) :=
  if o.kind = 1 then ((writeS D o.i (textS o.text)).1, ([], (writeS D o.i (textS o.text)).2))
  else if o.kind = 2 then (D, readS D o.i)
  else if o.kind = 3 then ((flushS D).1, ([], (flushS D).2))
  else if o.kind = 4 then ({ D with lf := o.i }, ([], 0))
  else if o.kind = 5 then (mountS D o.picks, ([], 0))
  else if o.kind = 6 then ((rotS D o.i o.bit).1, ([], (rotS D o.i o.bit).2))
  else if o.kind = 7 then ((wearS D o.i).1, ([], (wearS D o.i).2))
  else (D, ([], 0))
def rdoS (R : RK) (o : OpS) : RK × (By × Int) :=
  if o.kind = 1 then ((rwriteS R o.i (textS o.text)).1, ([], (rwriteS R o.i (textS o.text)).2))
  else if o.kind = 2 then (R, rreadS R o.i)
  else if o.kind = 3 then ((rflushS R).1, ([], (rflushS R).2))
  else if o.kind = 4 then ({ R with lf := max (-1) o.i }, ([], 0))
  else if o.kind = 5 then (rmountS R o.picks, ([], 0))
  else if o.kind = 6 then ((rrotS R o.i o.bit).1, ([], (rrotS R o.i o.bit).2))
  else if o.kind = 7 then ((rwearS R o.i).1, ([], (rwearS R o.i).2))
  else (R, ([], 0))
theorem rel_do {D : DK} {R : RK} (h : Rel D R) (o : OpS) (ho : o.ok) : (doS D o).2 = (rdoS R o).2 ∧ Rel (doS D o).1 (rdoS R o).1 := by
  unfold doS rdoS
  by_cases h1 : o.kind = 1
  · simp only [h1, if_true]; have := rel_write h o.i (textS o.text); exact ⟨by rw [this.1], this.2⟩
  by_cases h2 : o.kind = 2
  · simp only [h2]; exact ⟨rel_read h o.i, h⟩
  by_cases h3 : o.kind = 3
  · simp only [h3]; have := rel_flush h; exact ⟨by simp [this.1], this.2⟩
  by_cases h4 : o.kind = 4
  · simp only [h4]; exact ⟨rfl, rel_trip h _ ho.2.1⟩
  by_cases h5 : o.kind = 5
  · simp only [h5]; exact ⟨rfl, rel_mount h _⟩
  by_cases h6 : o.kind = 6
  · simp only [h6]; have := rel_rot h o.i o.bit; exact ⟨by simp [this.1], this.2⟩
  by_cases h7 : o.kind = 7
  · simp only [h7]; have := rel_wear h o.i; exact ⟨by simp [this.1], this.2⟩
  simp only [h1, h2, h3, h4, h5, h6, h7, if_false]
  exact ⟨trivial, h⟩
end Go.Proofs.Ytghdanpigohnjaa
namespace Go.Proofs.Ytghdanpigohnjaa
open Go Go.RowKit

attribute [local irreducible] EvOps EvC
attribute [local go_sem] List.getElem?_toArray List.flatten_cons List.flatten_nil List.contains_nil List.append_nil List.nil_append List.length_set Bool.and_self implies_true eq_self Nat.zero_mul Nat.add_zero Nat.zero_add Nat.sub_zero List.take_zero List.drop_zero List.drop_replicate Nat.sub_self List.replicate_zero List.map_nil List.map_append List.length_replicate
attribute [local go_sem] bytesV_bs strV_u8s bs_size u8s_len bs_extract bs_append bs_beq bs_nil bs_nil2
attribute [local go_sem] putD_len putD_b putD_p putD_w putD_d putD_app putD_put putD_get0 putD_get putD_set0 putD_set putD_take putD_takeN putD_setd putD_setw putD_setp getLD setLD
set_option linter.unusedSimpArgs false
set_option linter.unusedVariables false
set_option maxRecDepth 100000
set_option maxHeartbeats 4000000
attribute [local go_sem] take_u8 take_u8v drop_u8v len_u8v viewL_mv eqVs_u8s zsV_Z64 Z64_len Nat.min_self Nat.min_eq_right

theorem lwgo {p q : Prop} (k : Later q) (h : Later q → p := by (intro k; (first | with_reducible (first | refine c_seq ?_ | refine c_block ?_ | refine c_region ?_ | refine c_skip ?_ | refine c_exit ?_ | refine c_ret ?_ | refine then_normal ?_ | refine then_exit ?_ | refine then_ret ?_ | refine block_normal ?_ | refine block_here ?_ | refine block_ret ?_ | refine block_far (by decide) ?_ | refine ops_nil ?_ | refine c_cond_t rfl ?_ | refine c_cond_f rfl ?_) | ((with_reducible apply ops_pure); rfl; (simp (disch := (first | omega | assumption | ((repeat' with_reducible apply And.intro) <;> first | omega | assumption | rfl | (apply Or.inl; rfl) | (apply Or.inr; first | rfl | trivial | fail) | fail) | fail)) only [go_sem, if_pos, if_neg, wrapI, wrapU, decide_eq_true, decide_eq_false, beqT, beqF, bneT, bneF, hm, hm2, hm3] <;> rfl); simp only [go_sem]) | ((with_reducible apply ops_pureF); rfl; (intro _; simp (disch := (first | omega | assumption | ((repeat' with_reducible apply And.intro) <;> first | omega | assumption | rfl | (apply Or.inl; rfl) | (apply Or.inr; first | rfl | trivial | fail) | fail) | fail)) only [go_sem, if_pos, if_neg, wrapI, wrapU, decide_eq_true, decide_eq_false, beqT, beqF, bneT, bneF, hm, hm2, hm3] <;> rfl); simp only [go_sem]) | ((with_reducible apply ops_pureD); kernel_rfl; rfl; (simp (disch := (first | omega | assumption | ((repeat' with_reducible apply And.intro) <;> first | omega | assumption | rfl | (apply Or.inl; rfl) | (apply Or.inr; first | rfl | trivial | fail) | fail) | fail)) only [go_sem, if_pos, if_neg, wrapI, wrapU, decide_eq_true, decide_eq_false, beqT, beqF, bneT, bneF, hm, hm2, hm3] <;> rfl); simp only [go_sem]) | ((with_reducible apply ops_skip); rfl; simp only [go_sem]) | ((with_reducible apply c_regionD); kernel_rfl) | ((first | ((with_reducible apply ops_eff); decide) | (with_reducible apply ops_lit)); rfl; (simp (disch := (first | omega | assumption | ((repeat' with_reducible apply And.intro) <;> first | omega | assumption | rfl | (apply Or.inl; rfl) | (apply Or.inr; first | rfl | trivial | fail) | fail) | fail)) only [go_sem, if_pos, if_neg, wrapI, wrapU, decide_eq_true, decide_eq_false, beqT, beqF, bneT, bneF, hm, hm2, hm3] <;> rfl); simp only [go_sem])); (repeat (first | with_reducible (first | refine c_seq ?_ | refine c_block ?_ | refine c_region ?_ | refine c_skip ?_ | refine c_exit ?_ | refine c_ret ?_ | refine then_normal ?_ | refine then_exit ?_ | refine then_ret ?_ | refine block_normal ?_ | refine block_here ?_ | refine block_ret ?_ | refine block_far (by decide) ?_ | refine ops_nil ?_ | refine c_cond_t rfl ?_ | refine c_cond_f rfl ?_) | ((with_reducible apply ops_pure); rfl; (simp (disch := (first | omega | assumption | ((repeat' with_reducible apply And.intro) <;> first | omega | assumption | rfl | (apply Or.inl; rfl) | (apply Or.inr; first | rfl | trivial | fail) | fail) | fail)) only [go_sem, if_pos, if_neg, wrapI, wrapU, decide_eq_true, decide_eq_false, beqT, beqF, bneT, bneF, hm, hm2, hm3] <;> rfl); simp only [go_sem]) | ((with_reducible apply ops_pureF); rfl; (intro _; simp (disch := (first | omega | assumption | ((repeat' with_reducible apply And.intro) <;> first | omega | assumption | rfl | (apply Or.inl; rfl) | (apply Or.inr; first | rfl | trivial | fail) | fail) | fail)) only [go_sem, if_pos, if_neg, wrapI, wrapU, decide_eq_true, decide_eq_false, beqT, beqF, bneT, bneF, hm, hm2, hm3] <;> rfl); simp only [go_sem]) | ((with_reducible apply ops_pureD); kernel_rfl; rfl; (simp (disch := (first | omega | assumption | ((repeat' with_reducible apply And.intro) <;> first | omega | assumption | rfl | (apply Or.inl; rfl) | (apply Or.inr; first | rfl | trivial | fail) | fail) | fail)) only [go_sem, if_pos, if_neg, wrapI, wrapU, decide_eq_true, decide_eq_false, beqT, beqF, bneT, bneF, hm, hm2, hm3] <;> rfl); simp only [go_sem]) | ((with_reducible apply ops_skip); rfl; simp only [go_sem]) | ((with_reducible apply c_regionD); kernel_rfl) | ((first | ((with_reducible apply ops_eff); decide) | (with_reducible apply ops_lit)); rfl; (simp (disch := (first | omega | assumption | ((repeat' with_reducible apply And.intro) <;> first | omega | assumption | rfl | (apply Or.inl; rfl) | (apply Or.inr; first | rfl | trivial | fail) | fail) | fail)) only [go_sem, if_pos, if_neg, wrapI, wrapU, decide_eq_true, decide_eq_false, beqT, beqF, bneT, bneF, hm, hm2, hm3] <;> rfl); simp only [go_sem]))); exact k.get)) : p := h k
theorem lwgoX {p q : Prop} (k : Later q) (h : Later q → p := by (intro k; (first | with_reducible (first | refine c_seq ?_ | refine c_block ?_ | refine c_skip ?_ | refine c_exit ?_ | refine c_ret ?_ | refine then_normal ?_ | refine then_exit ?_ | refine then_ret ?_ | refine block_normal ?_ | refine block_here ?_ | refine block_ret ?_ | refine block_far (by decide) ?_ | refine ops_nil ?_ | refine c_cond_t rfl ?_ | refine c_cond_f rfl ?_) | ((with_reducible apply ops_pure); rfl; (simp (disch := (first | omega | assumption | ((repeat' with_reducible apply And.intro) <;> first | omega | assumption | rfl | (apply Or.inl; rfl) | (apply Or.inr; first | rfl | trivial | fail) | fail) | fail)) only [go_sem, if_pos, if_neg, wrapI, wrapU, decide_eq_true, decide_eq_false, beqT, beqF, bneT, bneF, hm, hm2, hm3] <;> rfl); simp only [go_sem]) | ((with_reducible apply ops_pureF); rfl; (intro _; simp (disch := (first | omega | assumption | ((repeat' with_reducible apply And.intro) <;> first | omega | assumption | rfl | (apply Or.inl; rfl) | (apply Or.inr; first | rfl | trivial | fail) | fail) | fail)) only [go_sem, if_pos, if_neg, wrapI, wrapU, decide_eq_true, decide_eq_false, beqT, beqF, bneT, bneF, hm, hm2, hm3] <;> rfl); simp only [go_sem]) | ((with_reducible apply ops_pureD); kernel_rfl; rfl; (simp (disch := (first | omega | assumption | ((repeat' with_reducible apply And.intro) <;> first | omega | assumption | rfl | (apply Or.inl; rfl) | (apply Or.inr; first | rfl | trivial | fail) | fail) | fail)) only [go_sem, if_pos, if_neg, wrapI, wrapU, decide_eq_true, decide_eq_false, beqT, beqF, bneT, bneF, hm, hm2, hm3] <;> rfl); simp only [go_sem]) | ((with_reducible apply ops_skip); rfl; simp only [go_sem]) | ((with_reducible apply c_regionD); kernel_rfl) | ((first | ((with_reducible apply ops_eff); decide) | (with_reducible apply ops_lit)); rfl; (simp (disch := (first | omega | assumption | ((repeat' with_reducible apply And.intro) <;> first | omega | assumption | rfl | (apply Or.inl; rfl) | (apply Or.inr; first | rfl | trivial | fail) | fail) | fail)) only [go_sem, if_pos, if_neg, wrapI, wrapU, decide_eq_true, decide_eq_false, beqT, beqF, bneT, bneF, hm, hm2, hm3] <;> rfl); simp only [go_sem])); (repeat (first | with_reducible (first | refine c_seq ?_ | refine c_block ?_ | refine c_skip ?_ | refine c_exit ?_ | refine c_ret ?_ | refine then_normal ?_ | refine then_exit ?_ | refine then_ret ?_ | refine block_normal ?_ | refine block_here ?_ | refine block_ret ?_ | refine block_far (by decide) ?_ | refine ops_nil ?_ | refine c_cond_t rfl ?_ | refine c_cond_f rfl ?_) | ((with_reducible apply ops_pure); rfl; (simp (disch := (first | omega | assumption | ((repeat' with_reducible apply And.intro) <;> first | omega | assumption | rfl | (apply Or.inl; rfl) | (apply Or.inr; first | rfl | trivial | fail) | fail) | fail)) only [go_sem, if_pos, if_neg, wrapI, wrapU, decide_eq_true, decide_eq_false, beqT, beqF, bneT, bneF, hm, hm2, hm3] <;> rfl); simp only [go_sem]) | ((with_reducible apply ops_pureF); rfl; (intro _; simp (disch := (first | omega | assumption | ((repeat' with_reducible apply And.intro) <;> first | omega | assumption | rfl | (apply Or.inl; rfl) | (apply Or.inr; first | rfl | trivial | fail) | fail) | fail)) only [go_sem, if_pos, if_neg, wrapI, wrapU, decide_eq_true, decide_eq_false, beqT, beqF, bneT, bneF, hm, hm2, hm3] <;> rfl); simp only [go_sem]) | ((with_reducible apply ops_pureD); kernel_rfl; rfl; (simp (disch := (first | omega | assumption | ((repeat' with_reducible apply And.intro) <;> first | omega | assumption | rfl | (apply Or.inl; rfl) | (apply Or.inr; first | rfl | trivial | fail) | fail) | fail)) only [go_sem, if_pos, if_neg, wrapI, wrapU, decide_eq_true, decide_eq_false, beqT, beqF, bneT, bneF, hm, hm2, hm3] <;> rfl); simp only [go_sem]) | ((with_reducible apply ops_skip); rfl; simp only [go_sem]) | ((with_reducible apply c_regionD); kernel_rfl) | ((first | ((with_reducible apply ops_eff); decide) | (with_reducible apply ops_lit)); rfl; (simp (disch := (first | omega | assumption | ((repeat' with_reducible apply And.intro) <;> first | omega | assumption | rfl | (apply Or.inl; rfl) | (apply Or.inr; first | rfl | trivial | fail) | fail) | fail)) only [go_sem, if_pos, if_neg, wrapI, wrapU, decide_eq_true, decide_eq_false, beqT, beqF, bneT, bneF, hm, hm2, hm3] <;> rfl); simp only [go_sem]))); exact k.get)) : p := h k
theorem lwsv {p : Prop} (h : p := by simp (disch := (first | omega | assumption | ((repeat' with_reducible apply And.intro) <;> first | omega | assumption | rfl | (apply Or.inl; rfl) | (apply Or.inr; first | rfl | trivial | fail) | fail) | fail)) only [go_sem, if_pos, if_neg, wrapI, wrapU, decide_eq_true, decide_eq_false, beqT, beqF, bneT, bneF, hm, hm2, hm3] <;> rfl) : p := h
theorem lwcall {T : Tab} {X : CallP} {n0 lo : Nat} {wt : List Tmp} {draw : Bool} {ops : Array Oper} {Q : St → Prop} {rest : List Oper} {o : Oper} {env : List D} {sto : Sto} {f : FuncId} {args : List D} (k : ∃ r, X f args sto (if draw then sto.length else lo) r sto ∧ EvOps T X n0 lo wt draw ops Q rest (St.put ⟨env, sto⟩ o.dst r)) (hg : guardD ops o env = some true := by rfl) (h : evCallee (opd env) sto o = some (f, args) := by simp (disch := (first | omega | assumption | ((repeat' with_reducible apply And.intro) <;> first | omega | assumption | rfl | (apply Or.inl; rfl) | (apply Or.inr; first | rfl | trivial | fail) | fail) | fail)) only [go_sem, if_pos, if_neg, wrapI, wrapU, decide_eq_true, decide_eq_false, beqT, beqF, bneT, bneF, hm, hm2, hm3] <;> rfl) : EvOps T X n0 lo wt draw ops Q (o :: rest) ⟨env, sto⟩ := k.elim fun _ k => ops_call hg h k.1 k.2
theorem subN1 (a : Nat) : ((a + 1 : Nat) : Int) - 1 = (a : Int) := by omega
abbrev OPV (o : OpS) : V := .agg o.cells
attribute [local go_sem] OpS.cells subN1
set_option maxHeartbeats 8000000
theorem textS_loop (s : By) (c : UInt8) (j : Nat) (h : s ++ List.replicate j c ≠ []) (hc : s.getLast? = some c) : (s ++ List.replicate j c).getLast h = c := by
  cases j with
  | zero =>
    simp only [List.replicate_zero, List.append_nil] at h ⊢
    rw [List.getLast?_eq_some_getLast h] at hc
    simpa using hc
  | succ j => simp
theorem last_drop (s : By) (h : 0 < s.length) : (s.take s.length).drop (s.length - 1) = [s[s.length - 1]] := by
  rw [List.take_length]
  rw [List.drop_eq_getElem_cons (by omega), List.drop_of_length_le (by omega)]
theorem text_ev (o : OpS) (ho : o.ok) (sto : Sto) (lo : Nat) (hlo : lo ≤ sto.length) : CD 31 [.v (OPV o)] sto lo (.v (STR (textS o.text))) sto := by
  obtain ⟨-, -, -, hl, -, -⟩ := ho
  have hm : True := trivial
  have hm2 := hm
  have hm3 := hm
  refine CallEv.intro ⟨_, _, [], Try.func31, rfl, by decide, ?_⟩; simp only [go_sem, Try.ntmps31]
  (try refine lwgo ⟨?_⟩)
  by_cases h0 : 0 < o.text.length ∧ o.text.length < 64
  · obtain ⟨h1, h2⟩ := h0
    obtain ⟨c, hc⟩ : ∃ c, o.text.getLast? = some c := ⟨_, List.getLast?_eq_some_getLast (by intro e; rw [e] at h1; simp at h1)⟩
    have e : textS o.text = o.text ++ List.replicate (64 - o.text.length) c := by
      rw [textS, dif_pos ⟨h1, h2⟩]
      rw [List.getLast?_eq_some_getLast (by intro e; rw [e] at h1; simp at h1)] at hc
      simp only [Option.some.injEq] at hc
      rw [hc]
    rw [e]
    refine c_loop (fun m s => ∃ (j : Nat), (o.text.length + j ≤ 64 ∧ m = 64 - o.text.length - j) ∧ (s.env.length = 22 ∧ s.sto = sto ++ [.cells (o.cells.map D.v)] ∧ s.env[0]? = some (.v (OPV o)) ∧ s.env[1]? = some (.ptr sto.length 0) ∧ s.env[3]? = some (.v (STR (o.text ++ List.replicate j c))))) (.refl _) ⟨0, ⟨by omega, rfl⟩, ?_⟩ ?_
    · simp only [List.replicate_zero, List.append_nil]
      refine ⟨rfl, rfl, ?_, ?_, ?_⟩ <;> rfl
    rintro m s ⟨j, ⟨h3, rfl⟩, hL, hT, k0, k1, k3⟩
    obtain ⟨env, st0⟩ := s; obtain ⟨J, hJ⟩ := listJ hL; rw [show (List.range 22).map J = J 0 :: J 1 :: J 2 :: J 3 :: J 4 :: J 5 :: J 6 :: J 7 :: J 8 :: J 9 :: J 10 :: J 11 :: J 12 :: J 13 :: J 14 :: J 15 :: J 16 :: J 17 :: J 18 :: J 19 :: J 20 :: J 21 :: [] from by kernel_rfl] at hJ; replace k0 := Option.some.inj ((congrArg (·[0]?) hJ).symm.trans k0); replace k1 := Option.some.inj ((congrArg (·[1]?) hJ).symm.trans k1); replace k3 := Option.some.inj ((congrArg (·[3]?) hJ).symm.trans k3); rw [k0, k1, k3] at hJ; dsimp only at hJ hT; subst hJ; replace hT := hT.symm; subst hT; clear hL k0 k1 k3
    have hlen : (o.text ++ List.replicate j c).length = o.text.length + j := by simp
    by_cases hb : o.text.length + j < 64
    · have hd := last_drop (o.text ++ List.replicate j c) (by omega)
      have hlast : (o.text ++ List.replicate j c)[(o.text ++ List.replicate j c).length - 1]'(by omega) = c := by
        have := textS_loop o.text c j (by intro e; rw [e] at hlen; simp at hlen; omega) hc
        rw [List.getLast_eq_getElem] at this
        exact this
      rw [hlast] at hd
      have hn : o.text ++ List.replicate (j + 1) c = (o.text ++ List.replicate j c) ++ [c] := by rw [List.replicate_succ', List.append_assoc]
      clear hlast
      generalize o.text ++ List.replicate j c = X at *
      obtain ⟨n, hn1⟩ : ∃ n, o.text.length + j = n + 1 := ⟨o.text.length + j - 1, by omega⟩
      have hm : X.length = n + 1 := by omega
      have hm2 : (X.take (n + 1)).drop n = [c] := by rw [hm] at hd; exact hd
      have hm3 : True := trivial
      clear hd hlen
      (try refine lwgo ⟨?_⟩)
      refine ⟨_, _, ?_, .refl _, j + 1, ⟨by omega, rfl⟩, ?_⟩
      · omega
      · rw [hn]
        refine ⟨rfl, rfl, ?_, ?_, ?_⟩ <;> rfl
    · have hm : True := trivial
      have hm2 := hm
      have hm3 := hm
      have hj : j = 64 - o.text.length := by omega
      rw [hj] at hlen ⊢
      generalize o.text ++ List.replicate (64 - o.text.length) c = X at *
      (try refine lwgo ⟨?_⟩)
      refine ⟨by first | exact .inr rfl | exact .inl rfl, .inl ⟨[], _, (by dsimp only [Try.f31]; exact lwsv), ?_, by simp⟩⟩
      rfl
  · have e : textS o.text = o.text := by rw [textS, dif_neg h0]
    rw [e]
    refine c_loop (fun m s => (m = 0) ∧ (s.env.length = 22 ∧ s.sto = sto ++ [.cells (o.cells.map D.v)] ∧ s.env[0]? = some (.v (OPV o)) ∧ s.env[1]? = some (.ptr sto.length 0) ∧ s.env[3]? = some (.v (STR o.text)))) (.refl _) ⟨rfl, ?_⟩ ?_
    · refine ⟨rfl, rfl, ?_, ?_, ?_⟩ <;> rfl
    rintro m s ⟨rfl, hL, hT, k0, k1, k3⟩
    obtain ⟨env, st0⟩ := s; obtain ⟨J, hJ⟩ := listJ hL; rw [show (List.range 22).map J = J 0 :: J 1 :: J 2 :: J 3 :: J 4 :: J 5 :: J 6 :: J 7 :: J 8 :: J 9 :: J 10 :: J 11 :: J 12 :: J 13 :: J 14 :: J 15 :: J 16 :: J 17 :: J 18 :: J 19 :: J 20 :: J 21 :: [] from by kernel_rfl] at hJ; replace k0 := Option.some.inj ((congrArg (·[0]?) hJ).symm.trans k0); replace k1 := Option.some.inj ((congrArg (·[1]?) hJ).symm.trans k1); replace k3 := Option.some.inj ((congrArg (·[3]?) hJ).symm.trans k3); rw [k0, k1, k3] at hJ; dsimp only at hJ hT; subst hJ; replace hT := hT.symm; subst hT; clear hL k0 k1 k3
    by_cases h1 : 0 < o.text.length
    · have h2 : ¬ (o.text.length < 64) := fun h => h0 ⟨h1, h⟩
      clear h0
      (try refine lwgo ⟨?_⟩)
      refine ⟨by first | exact .inr rfl | exact .inl rfl, .inl ⟨[], _, (by dsimp only [Try.f31]; exact lwsv), ?_, by simp⟩⟩
      rfl
    · clear h0
      (try refine lwgo ⟨?_⟩)
      refine ⟨by first | exact .inr rfl | exact .inl rfl, .inl ⟨[], _, (by dsimp only [Try.f31]; exact lwsv), ?_, by simp⟩⟩
      rfl
attribute [local go_sem] take_succ bs_beq
theorem rsameInts_ev (a b : List Int) (ha : a.length < 9223372036854775808) (hb' : b.length < 9223372036854775808) (sto : Sto) (lo : Nat) (hlo : lo ≤ sto.length) : CD 40 [.v (LI a), .v (LI b)] sto lo (.v (.bool (decide (a = b)))) sto := by
  have hm : True := trivial
  have hm2 := hm
  have hm3 := hm
  refine CallEv.intro ⟨_, _, [], Try.func40, rfl, by decide, ?_⟩; simp only [go_sem, Try.ntmps40]
  by_cases c1 : a.length = b.length
  · (try refine lwgo ⟨?_⟩)
    refine c_loop (fun m s => ∃ (i : Nat), (i ≤ a.length ∧ m = a.length - i ∧ a.take i = b.take i) ∧ (s.env.length = 26 ∧ s.sto = sto ∧ s.env[0]? = some (.v (LI a)) ∧ s.env[1]? = some (.v (LI b)) ∧ s.env[5]? = some (.v (VI i)))) (.refl _) ⟨0, ⟨by omega, rfl, by simp⟩, rfl, rfl, ?_, ?_, ?_⟩ ?_
    all_goals first | rfl | skip
    rintro m s ⟨i, ⟨h1, rfl, h3⟩, hL, hT, k0, k1, k5⟩
    obtain ⟨env, st0⟩ := s; obtain ⟨J, hJ⟩ := listJ hL; rw [show (List.range 26).map J = J 0 :: J 1 :: J 2 :: J 3 :: J 4 :: J 5 :: J 6 :: J 7 :: J 8 :: J 9 :: J 10 :: J 11 :: J 12 :: J 13 :: J 14 :: J 15 :: J 16 :: J 17 :: J 18 :: J 19 :: J 20 :: J 21 :: J 22 :: J 23 :: J 24 :: J 25 :: [] from by kernel_rfl] at hJ; replace k0 := Option.some.inj ((congrArg (·[0]?) hJ).symm.trans k0); replace k1 := Option.some.inj ((congrArg (·[1]?) hJ).symm.trans k1); replace k5 := Option.some.inj ((congrArg (·[5]?) hJ).symm.trans k5); rw [k0, k1, k5] at hJ; dsimp only at hJ hT; subst hJ; replace hT := hT.symm; subst hT; clear hL k0 k1 k5
    by_cases hb : i < a.length
    · by_cases c2 : a[i] = b[i]
      · (try refine lwgo ⟨?_⟩)
        refine ⟨_, _, ?_, .refl _, i + 1, ⟨by omega, rfl, ?_⟩, rfl, rfl, ?_, ?_, ?_⟩
        · omega
        · rw [take_succ hb, take_succ (by omega), h3, c2]
        all_goals rfl
      · have : decide (a = b) = false := decide_eq_false fun h => c2 (by subst h; rfl)
        rw [this]
        (try refine lwgo ⟨?_⟩)
        refine ⟨by first | exact .inr rfl | exact .inl rfl, .inl ⟨[], _, (by dsimp only [Try.f40]; exact lwsv), ?_, by simp⟩⟩
        rfl
    · rw [List.take_of_length_le (by omega), List.take_of_length_le (by omega)] at h3
      rw [decide_eq_true h3]
      (try refine lwgo ⟨?_⟩)
      refine ⟨by first | exact .inr rfl | exact .inl rfl, .inl ⟨[], _, (by dsimp only [Try.f40]; exact lwsv), ?_, by simp⟩⟩
      rfl
  · have : decide (a = b) = false := decide_eq_false fun h => c1 (by rw [h])
    rw [this]
    (try refine lwgo ⟨?_⟩)
    refine ⟨by first | exact .inr rfl | exact .inl rfl, .inl ⟨[], _, (by dsimp only [Try.f40]; exact lwsv), ?_, by simp⟩⟩
    rfl
end Go.Proofs.Ytghdanpigohnjaa
namespace Go.Proofs.Ytghdanpigohnjaa
open Go Go.RowKit

attribute [local irreducible] EvOps EvC
attribute [local go_sem] List.getElem?_toArray List.flatten_cons List.flatten_nil List.contains_nil List.append_nil List.nil_append List.length_set Bool.and_self implies_true eq_self Nat.zero_mul Nat.add_zero Nat.zero_add Nat.sub_zero List.take_zero List.drop_zero List.drop_replicate Nat.sub_self List.replicate_zero List.map_nil List.map_append List.length_replicate
attribute [local go_sem] bytesV_bs strV_u8s bs_size u8s_len bs_extract bs_append bs_beq bs_nil bs_nil2
attribute [local go_sem] putD_len putD_b putD_p putD_w putD_d putD_app putD_put putD_get0 putD_get putD_set0 putD_set putD_take putD_takeN putD_setd putD_setw putD_setp getLD setLD
set_option linter.unusedSimpArgs false
set_option linter.unusedVariables false
set_option maxRecDepth 100000
set_option maxHeartbeats 4000000
attribute [local go_sem] take_u8 take_u8v drop_u8v len_u8v viewL_mv eqVs_u8s zsV_Z64 Z64_len Nat.min_self Nat.min_eq_right

theorem lxgo {p q : Prop} (k : Later q) (h : Later q → p := by (intro k; (first | with_reducible (first | refine c_seq ?_ | refine c_block ?_ | refine c_region ?_ | refine c_skip ?_ | refine c_exit ?_ | refine c_ret ?_ | refine then_normal ?_ | refine then_exit ?_ | refine then_ret ?_ | refine block_normal ?_ | refine block_here ?_ | refine block_ret ?_ | refine block_far (by decide) ?_ | refine ops_nil ?_ | refine c_cond_t rfl ?_ | refine c_cond_f rfl ?_) | ((with_reducible apply ops_pure); rfl; (simp (disch := (first | omega | assumption | ((repeat' with_reducible apply And.intro) <;> first | omega | assumption | rfl | (apply Or.inl; rfl) | (apply Or.inr; first | rfl | trivial | fail) | fail) | fail)) only [go_sem, if_pos, if_neg, wrapI, wrapU, decide_eq_true, decide_eq_false, beqT, beqF, bneT, bneF, hm, hm2, hm3] <;> rfl); simp only [go_sem]) | ((with_reducible apply ops_pureF); rfl; (intro _; simp (disch := (first | omega | assumption | ((repeat' with_reducible apply And.intro) <;> first | omega | assumption | rfl | (apply Or.inl; rfl) | (apply Or.inr; first | rfl | trivial | fail) | fail) | fail)) only [go_sem, if_pos, if_neg, wrapI, wrapU, decide_eq_true, decide_eq_false, beqT, beqF, bneT, bneF, hm, hm2, hm3] <;> rfl); simp only [go_sem]) | ((with_reducible apply ops_pureD); kernel_rfl; rfl; (simp (disch := (first | omega | assumption | ((repeat' with_reducible apply And.intro) <;> first | omega | assumption | rfl | (apply Or.inl; rfl) | (apply Or.inr; first | rfl | trivial | fail) | fail) | fail)) only [go_sem, if_pos, if_neg, wrapI, wrapU, decide_eq_true, decide_eq_false, beqT, beqF, bneT, bneF, hm, hm2, hm3] <;> rfl); simp only [go_sem]) | ((with_reducible apply ops_skip); rfl; simp only [go_sem]) | ((with_reducible apply c_regionD); kernel_rfl) | ((first | ((with_reducible apply ops_eff); decide) | (with_reducible apply ops_lit)); rfl; (simp (disch := (first | omega | assumption | ((repeat' with_reducible apply And.intro) <;> first | omega | assumption | rfl | (apply Or.inl; rfl) | (apply Or.inr; first | rfl | trivial | fail) | fail) | fail)) only [go_sem, if_pos, if_neg, wrapI, wrapU, decide_eq_true, decide_eq_false, beqT, beqF, bneT, bneF, hm, hm2, hm3] <;> rfl); simp only [go_sem])); (repeat (first | with_reducible (first | refine c_seq ?_ | refine c_block ?_ | refine c_region ?_ | refine c_skip ?_ | refine c_exit ?_ | refine c_ret ?_ | refine then_normal ?_ | refine then_exit ?_ | refine then_ret ?_ | refine block_normal ?_ | refine block_here ?_ | refine block_ret ?_ | refine block_far (by decide) ?_ | refine ops_nil ?_ | refine c_cond_t rfl ?_ | refine c_cond_f rfl ?_) | ((with_reducible apply ops_pure); rfl; (simp (disch := (first | omega | assumption | ((repeat' with_reducible apply And.intro) <;> first | omega | assumption | rfl | (apply Or.inl; rfl) | (apply Or.inr; first | rfl | trivial | fail) | fail) | fail)) only [go_sem, if_pos, if_neg, wrapI, wrapU, decide_eq_true, decide_eq_false, beqT, beqF, bneT, bneF, hm, hm2, hm3] <;> rfl); simp only [go_sem]) | ((with_reducible apply ops_pureF); rfl; (intro _; simp (disch := (first | omega | assumption | ((repeat' with_reducible apply And.intro) <;> first | omega | assumption | rfl | (apply Or.inl; rfl) | (apply Or.inr; first | rfl | trivial | fail) | fail) | fail)) only [go_sem, if_pos, if_neg, wrapI, wrapU, decide_eq_true, decide_eq_false, beqT, beqF, bneT, bneF, hm, hm2, hm3] <;> rfl); simp only [go_sem]) | ((with_reducible apply ops_pureD); kernel_rfl; rfl; (simp (disch := (first | omega | assumption | ((repeat' with_reducible apply And.intro) <;> first | omega | assumption | rfl | (apply Or.inl; rfl) | (apply Or.inr; first | rfl | trivial | fail) | fail) | fail)) only [go_sem, if_pos, if_neg, wrapI, wrapU, decide_eq_true, decide_eq_false, beqT, beqF, bneT, bneF, hm, hm2, hm3] <;> rfl); simp only [go_sem]) | ((with_reducible apply ops_skip); rfl; simp only [go_sem]) | ((with_reducible apply c_regionD); kernel_rfl) | ((first | ((with_reducible apply ops_eff); decide) | (with_reducible apply ops_lit)); rfl; (simp (disch := (first | omega | assumption | ((repeat' with_reducible apply And.intro) <;> first | omega | assumption | rfl | (apply Or.inl; rfl) | (apply Or.inr; first | rfl | trivial | fail) | fail) | fail)) only [go_sem, if_pos, if_neg, wrapI, wrapU, decide_eq_true, decide_eq_false, beqT, beqF, bneT, bneF, hm, hm2, hm3] <;> rfl); simp only [go_sem]))); exact k.get)) : p := h k
theorem lxgoL {p q : Prop} (k : Later q) (h : Later q → p := by (intro k; (first | with_reducible (first | refine c_seq ?_ | refine c_block ?_ | refine c_region ?_ | refine c_skip ?_ | refine c_exit ?_ | refine c_ret ?_ | refine then_normal ?_ | refine then_exit ?_ | refine then_ret ?_ | refine block_normal ?_ | refine block_here ?_ | refine block_ret ?_ | refine block_far (by decide) ?_ | refine ops_nil ?_ | refine c_cond_t rfl ?_ | refine c_cond_f rfl ?_) | ((with_reducible apply ops_lit); rfl; (simp (disch := (first | omega | assumption | ((repeat' with_reducible apply And.intro) <;> first | omega | assumption | rfl | (apply Or.inl; rfl) | (apply Or.inr; first | rfl | trivial | fail) | fail) | fail)) only [go_sem, if_pos, if_neg, wrapI, wrapU, decide_eq_true, decide_eq_false, beqT, beqF, bneT, bneF, hm, hm2, hm3] <;> rfl); simp only [go_sem]) | ((with_reducible apply ops_pure); rfl; (simp (disch := (first | omega | assumption | ((repeat' with_reducible apply And.intro) <;> first | omega | assumption | rfl | (apply Or.inl; rfl) | (apply Or.inr; first | rfl | trivial | fail) | fail) | fail)) only [go_sem, if_pos, if_neg, wrapI, wrapU, decide_eq_true, decide_eq_false, beqT, beqF, bneT, bneF, hm, hm2, hm3] <;> rfl); simp only [go_sem]) | ((with_reducible apply ops_pureF); rfl; (intro _; simp (disch := (first | omega | assumption | ((repeat' with_reducible apply And.intro) <;> first | omega | assumption | rfl | (apply Or.inl; rfl) | (apply Or.inr; first | rfl | trivial | fail) | fail) | fail)) only [go_sem, if_pos, if_neg, wrapI, wrapU, decide_eq_true, decide_eq_false, beqT, beqF, bneT, bneF, hm, hm2, hm3] <;> rfl); simp only [go_sem]) | ((with_reducible apply ops_pureD); kernel_rfl; rfl; (simp (disch := (first | omega | assumption | ((repeat' with_reducible apply And.intro) <;> first | omega | assumption | rfl | (apply Or.inl; rfl) | (apply Or.inr; first | rfl | trivial | fail) | fail) | fail)) only [go_sem, if_pos, if_neg, wrapI, wrapU, decide_eq_true, decide_eq_false, beqT, beqF, bneT, bneF, hm, hm2, hm3] <;> rfl); simp only [go_sem]) | ((with_reducible apply ops_skip); rfl; simp only [go_sem]) | ((with_reducible apply c_regionD); kernel_rfl) | ((first | ((with_reducible apply ops_eff); decide) | (with_reducible apply ops_lit)); rfl; (simp (disch := (first | omega | assumption | ((repeat' with_reducible apply And.intro) <;> first | omega | assumption | rfl | (apply Or.inl; rfl) | (apply Or.inr; first | rfl | trivial | fail) | fail) | fail)) only [go_sem, if_pos, if_neg, wrapI, wrapU, decide_eq_true, decide_eq_false, beqT, beqF, bneT, bneF, hm, hm2, hm3] <;> rfl); simp only [go_sem])); (repeat (first | with_reducible (first | refine c_seq ?_ | refine c_block ?_ | refine c_region ?_ | refine c_skip ?_ | refine c_exit ?_ | refine c_ret ?_ | refine then_normal ?_ | refine then_exit ?_ | refine then_ret ?_ | refine block_normal ?_ | refine block_here ?_ | refine block_ret ?_ | refine block_far (by decide) ?_ | refine ops_nil ?_ | refine c_cond_t rfl ?_ | refine c_cond_f rfl ?_) | ((with_reducible apply ops_lit); rfl; (simp (disch := (first | omega | assumption | ((repeat' with_reducible apply And.intro) <;> first | omega | assumption | rfl | (apply Or.inl; rfl) | (apply Or.inr; first | rfl | trivial | fail) | fail) | fail)) only [go_sem, if_pos, if_neg, wrapI, wrapU, decide_eq_true, decide_eq_false, beqT, beqF, bneT, bneF, hm, hm2, hm3] <;> rfl); simp only [go_sem]) | ((with_reducible apply ops_pure); rfl; (simp (disch := (first | omega | assumption | ((repeat' with_reducible apply And.intro) <;> first | omega | assumption | rfl | (apply Or.inl; rfl) | (apply Or.inr; first | rfl | trivial | fail) | fail) | fail)) only [go_sem, if_pos, if_neg, wrapI, wrapU, decide_eq_true, decide_eq_false, beqT, beqF, bneT, bneF, hm, hm2, hm3] <;> rfl); simp only [go_sem]) | ((with_reducible apply ops_pureF); rfl; (intro _; simp (disch := (first | omega | assumption | ((repeat' with_reducible apply And.intro) <;> first | omega | assumption | rfl | (apply Or.inl; rfl) | (apply Or.inr; first | rfl | trivial | fail) | fail) | fail)) only [go_sem, if_pos, if_neg, wrapI, wrapU, decide_eq_true, decide_eq_false, beqT, beqF, bneT, bneF, hm, hm2, hm3] <;> rfl); simp only [go_sem]) | ((with_reducible apply ops_pureD); kernel_rfl; rfl; (simp (disch := (first | omega | assumption | ((repeat' with_reducible apply And.intro) <;> first | omega | assumption | rfl | (apply Or.inl; rfl) | (apply Or.inr; first | rfl | trivial | fail) | fail) | fail)) only [go_sem, if_pos, if_neg, wrapI, wrapU, decide_eq_true, decide_eq_false, beqT, beqF, bneT, bneF, hm, hm2, hm3] <;> rfl); simp only [go_sem]) | ((with_reducible apply ops_skip); rfl; simp only [go_sem]) | ((with_reducible apply c_regionD); kernel_rfl) | ((first | ((with_reducible apply ops_eff); decide) | (with_reducible apply ops_lit)); rfl; (simp (disch := (first | omega | assumption | ((repeat' with_reducible apply And.intro) <;> first | omega | assumption | rfl | (apply Or.inl; rfl) | (apply Or.inr; first | rfl | trivial | fail) | fail) | fail)) only [go_sem, if_pos, if_neg, wrapI, wrapU, decide_eq_true, decide_eq_false, beqT, beqF, bneT, bneF, hm, hm2, hm3] <;> rfl); simp only [go_sem]))); exact k.get)) : p := h k
theorem lxgoX {p q : Prop} (k : Later q) (h : Later q → p := by (intro k; (first | with_reducible (first | refine c_seq ?_ | refine c_block ?_ | refine c_skip ?_ | refine c_exit ?_ | refine c_ret ?_ | refine then_normal ?_ | refine then_exit ?_ | refine then_ret ?_ | refine block_normal ?_ | refine block_here ?_ | refine block_ret ?_ | refine block_far (by decide) ?_ | refine ops_nil ?_ | refine c_cond_t rfl ?_ | refine c_cond_f rfl ?_) | ((with_reducible apply ops_pure); rfl; (simp (disch := (first | omega | assumption | ((repeat' with_reducible apply And.intro) <;> first | omega | assumption | rfl | (apply Or.inl; rfl) | (apply Or.inr; first | rfl | trivial | fail) | fail) | fail)) only [go_sem, if_pos, if_neg, wrapI, wrapU, decide_eq_true, decide_eq_false, beqT, beqF, bneT, bneF, hm, hm2, hm3] <;> rfl); simp only [go_sem]) | ((with_reducible apply ops_pureF); rfl; (intro _; simp (disch := (first | omega | assumption | ((repeat' with_reducible apply And.intro) <;> first | omega | assumption | rfl | (apply Or.inl; rfl) | (apply Or.inr; first | rfl | trivial | fail) | fail) | fail)) only [go_sem, if_pos, if_neg, wrapI, wrapU, decide_eq_true, decide_eq_false, beqT, beqF, bneT, bneF, hm, hm2, hm3] <;> rfl); simp only [go_sem]) | ((with_reducible apply ops_pureD); kernel_rfl; rfl; (simp (disch := (first | omega | assumption | ((repeat' with_reducible apply And.intro) <;> first | omega | assumption | rfl | (apply Or.inl; rfl) | (apply Or.inr; first | rfl | trivial | fail) | fail) | fail)) only [go_sem, if_pos, if_neg, wrapI, wrapU, decide_eq_true, decide_eq_false, beqT, beqF, bneT, bneF, hm, hm2, hm3] <;> rfl); simp only [go_sem]) | ((with_reducible apply ops_skip); rfl; simp only [go_sem]) | ((with_reducible apply c_regionD); kernel_rfl) | ((first | ((with_reducible apply ops_eff); decide) | (with_reducible apply ops_lit)); rfl; (simp (disch := (first | omega | assumption | ((repeat' with_reducible apply And.intro) <;> first | omega | assumption | rfl | (apply Or.inl; rfl) | (apply Or.inr; first | rfl | trivial | fail) | fail) | fail)) only [go_sem, if_pos, if_neg, wrapI, wrapU, decide_eq_true, decide_eq_false, beqT, beqF, bneT, bneF, hm, hm2, hm3] <;> rfl); simp only [go_sem])); (repeat (first | with_reducible (first | refine c_seq ?_ | refine c_block ?_ | refine c_skip ?_ | refine c_exit ?_ | refine c_ret ?_ | refine then_normal ?_ | refine then_exit ?_ | refine then_ret ?_ | refine block_normal ?_ | refine block_here ?_ | refine block_ret ?_ | refine block_far (by decide) ?_ | refine ops_nil ?_ | refine c_cond_t rfl ?_ | refine c_cond_f rfl ?_) | ((with_reducible apply ops_pure); rfl; (simp (disch := (first | omega | assumption | ((repeat' with_reducible apply And.intro) <;> first | omega | assumption | rfl | (apply Or.inl; rfl) | (apply Or.inr; first | rfl | trivial | fail) | fail) | fail)) only [go_sem, if_pos, if_neg, wrapI, wrapU, decide_eq_true, decide_eq_false, beqT, beqF, bneT, bneF, hm, hm2, hm3] <;> rfl); simp only [go_sem]) | ((with_reducible apply ops_pureF); rfl; (intro _; simp (disch := (first | omega | assumption | ((repeat' with_reducible apply And.intro) <;> first | omega | assumption | rfl | (apply Or.inl; rfl) | (apply Or.inr; first | rfl | trivial | fail) | fail) | fail)) only [go_sem, if_pos, if_neg, wrapI, wrapU, decide_eq_true, decide_eq_false, beqT, beqF, bneT, bneF, hm, hm2, hm3] <;> rfl); simp only [go_sem]) | ((with_reducible apply ops_pureD); kernel_rfl; rfl; (simp (disch := (first | omega | assumption | ((repeat' with_reducible apply And.intro) <;> first | omega | assumption | rfl | (apply Or.inl; rfl) | (apply Or.inr; first | rfl | trivial | fail) | fail) | fail)) only [go_sem, if_pos, if_neg, wrapI, wrapU, decide_eq_true, decide_eq_false, beqT, beqF, bneT, bneF, hm, hm2, hm3] <;> rfl); simp only [go_sem]) | ((with_reducible apply ops_skip); rfl; simp only [go_sem]) | ((with_reducible apply c_regionD); kernel_rfl) | ((first | ((with_reducible apply ops_eff); decide) | (with_reducible apply ops_lit)); rfl; (simp (disch := (first | omega | assumption | ((repeat' with_reducible apply And.intro) <;> first | omega | assumption | rfl | (apply Or.inl; rfl) | (apply Or.inr; first | rfl | trivial | fail) | fail) | fail)) only [go_sem, if_pos, if_neg, wrapI, wrapU, decide_eq_true, decide_eq_false, beqT, beqF, bneT, bneF, hm, hm2, hm3] <;> rfl); simp only [go_sem]))); exact k.get)) : p := h k
theorem lxsv {p : Prop} (h : p := by simp (disch := (first | omega | assumption | ((repeat' with_reducible apply And.intro) <;> first | omega | assumption | rfl | (apply Or.inl; rfl) | (apply Or.inr; first | rfl | trivial | fail) | fail) | fail)) only [go_sem, if_pos, if_neg, wrapI, wrapU, decide_eq_true, decide_eq_false, beqT, beqF, bneT, bneF, hm, hm2, hm3] <;> rfl) : p := h
theorem lxcall {T : Tab} {X : CallP} {n0 lo : Nat} {wt : List Tmp} {draw : Bool} {ops : Array Oper} {Q : St → Prop} {rest : List Oper} {o : Oper} {env : List D} {sto : Sto} {f : FuncId} {args : List D} (k : ∃ r, X f args sto (if draw then sto.length else lo) r sto ∧ EvOps T X n0 lo wt draw ops Q rest (St.put ⟨env, sto⟩ o.dst r)) (hg : guardD ops o env = some true := by rfl) (h : evCallee (opd env) sto o = some (f, args) := by simp (disch := (first | omega | assumption | ((repeat' with_reducible apply And.intro) <;> first | omega | assumption | rfl | (apply Or.inl; rfl) | (apply Or.inr; first | rfl | trivial | fail) | fail) | fail)) only [go_sem, if_pos, if_neg, wrapI, wrapU, decide_eq_true, decide_eq_false, beqT, beqF, bneT, bneF, hm, hm2, hm3] <;> rfl) : EvOps T X n0 lo wt draw ops Q (o :: rest) ⟨env, sto⟩ := k.elim fun _ k => ops_call hg h k.1 k.2
attribute [local go_sem] OpS.cells subN1
theorem nd_f {p : Prop} [Decidable p] (h : p) : (!decide p) = false := by simp [h]
theorem nd_t {p : Prop} [Decidable p] (h : ¬ p) : (!decide p) = true := by simp [h]
attribute [local go_sem] strF Bool.not_true Bool.not_false
theorem lxgoW {p q : Prop} (k : Later q) (h : Later q → p := by (intro k; (first | with_reducible (first | refine c_seq ?_ | refine c_block ?_ | refine c_region ?_ | refine c_skip ?_ | refine c_exit ?_ | refine c_ret ?_ | refine then_normal ?_ | refine then_exit ?_ | refine then_ret ?_ | refine block_normal ?_ | refine block_here ?_ | refine block_ret ?_ | refine block_far (by decide) ?_ | refine ops_nil ?_ | refine c_cond_t rfl ?_ | refine c_cond_f rfl ?_) | ((with_reducible apply ops_pure); rfl; (simp (disch := (first | omega | assumption | ((repeat' with_reducible apply And.intro) <;> first | omega | assumption | rfl | (apply Or.inl; rfl) | (apply Or.inr; first | rfl | trivial | fail) | fail) | fail)) only [go_sem, if_pos, if_neg, wrapI, wrapU, decide_eq_true, decide_eq_false, beqT, beqF, bneT, bneF, hm, hm2, hm3] <;> rfl); simp only [go_sem]) | ((with_reducible apply ops_pureF); rfl; (intro _; simp (disch := (first | omega | assumption | ((repeat' with_reducible apply And.intro) <;> first | omega | assumption | rfl | (apply Or.inl; rfl) | (apply Or.inr; first | rfl | trivial | fail) | fail) | fail)) only [go_sem, if_pos, if_neg, wrapI, wrapU, decide_eq_true, decide_eq_false, beqT, beqF, bneT, bneF, hm, hm2, hm3] <;> rfl); simp only [go_sem]) | ((with_reducible apply ops_pureW); kernel_rfl; rfl; (simp (disch := (first | omega | assumption | ((repeat' with_reducible apply And.intro) <;> first | omega | assumption | rfl | (apply Or.inl; rfl) | (apply Or.inr; first | rfl | trivial | fail) | fail) | fail)) only [go_sem, if_pos, if_neg, wrapI, wrapU, decide_eq_true, decide_eq_false, beqT, beqF, bneT, bneF, hm, hm2, hm3] <;> rfl); (intro s hs0 hs; (simp (disch := (first | omega | assumption | ((repeat' with_reducible apply And.intro) <;> first | omega | assumption | rfl | (apply Or.inl; rfl) | (apply Or.inr; first | rfl | trivial | fail) | fail) | fail)) only [go_sem, if_pos, if_neg, hs0, hs]) <;> rfl); simp only [go_sem]) | ((with_reducible apply ops_skip); rfl; simp only [go_sem]) | ((with_reducible apply c_regionD); kernel_rfl) | ((first | ((with_reducible apply ops_eff); decide) | (with_reducible apply ops_lit)); rfl; (simp (disch := (first | omega | assumption | ((repeat' with_reducible apply And.intro) <;> first | omega | assumption | rfl | (apply Or.inl; rfl) | (apply Or.inr; first | rfl | trivial | fail) | fail) | fail)) only [go_sem, if_pos, if_neg, wrapI, wrapU, decide_eq_true, decide_eq_false, beqT, beqF, bneT, bneF, hm, hm2, hm3] <;> rfl); simp only [go_sem])); (repeat (first | with_reducible (first | refine c_seq ?_ | refine c_block ?_ | refine c_region ?_ | refine c_skip ?_ | refine c_exit ?_ | refine c_ret ?_ | refine then_normal ?_ | refine then_exit ?_ | refine then_ret ?_ | refine block_normal ?_ | refine block_here ?_ | refine block_ret ?_ | refine block_far (by decide) ?_ | refine ops_nil ?_ | refine c_cond_t rfl ?_ | refine c_cond_f rfl ?_) | ((with_reducible apply ops_pure); rfl; (simp (disch := (first | omega | assumption | ((repeat' with_reducible apply And.intro) <;> first | omega | assumption | rfl | (apply Or.inl; rfl) | (apply Or.inr; first | rfl | trivial | fail) | fail) | fail)) only [go_sem, if_pos, if_neg, wrapI, wrapU, decide_eq_true, decide_eq_false, beqT, beqF, bneT, bneF, hm, hm2, hm3] <;> rfl); simp only [go_sem]) | ((with_reducible apply ops_pureF); rfl; (intro _; simp (disch := (first | omega | assumption | ((repeat' with_reducible apply And.intro) <;> first | omega | assumption | rfl | (apply Or.inl; rfl) | (apply Or.inr; first | rfl | trivial | fail) | fail) | fail)) only [go_sem, if_pos, if_neg, wrapI, wrapU, decide_eq_true, decide_eq_false, beqT, beqF, bneT, bneF, hm, hm2, hm3] <;> rfl); simp only [go_sem]) | ((with_reducible apply ops_pureW); kernel_rfl; rfl; (simp (disch := (first | omega | assumption | ((repeat' with_reducible apply And.intro) <;> first | omega | assumption | rfl | (apply Or.inl; rfl) | (apply Or.inr; first | rfl | trivial | fail) | fail) | fail)) only [go_sem, if_pos, if_neg, wrapI, wrapU, decide_eq_true, decide_eq_false, beqT, beqF, bneT, bneF, hm, hm2, hm3] <;> rfl); (intro s hs0 hs; (simp (disch := (first | omega | assumption | ((repeat' with_reducible apply And.intro) <;> first | omega | assumption | rfl | (apply Or.inl; rfl) | (apply Or.inr; first | rfl | trivial | fail) | fail) | fail)) only [go_sem, if_pos, if_neg, hs0, hs]) <;> rfl); simp only [go_sem]) | ((with_reducible apply ops_skip); rfl; simp only [go_sem]) | ((with_reducible apply c_regionD); kernel_rfl) | ((first | ((with_reducible apply ops_eff); decide) | (with_reducible apply ops_lit)); rfl; (simp (disch := (first | omega | assumption | ((repeat' with_reducible apply And.intro) <;> first | omega | assumption | rfl | (apply Or.inl; rfl) | (apply Or.inr; first | rfl | trivial | fail) | fail) | fail)) only [go_sem, if_pos, if_neg, wrapI, wrapU, decide_eq_true, decide_eq_false, beqT, beqF, bneT, bneF, hm, hm2, hm3] <;> rfl); simp only [go_sem]))); exact k.get)) : p := h k
theorem sameTexts_ev (a b : List By) (ha : a.length < 9223372036854775808) (hb' : b.length < 9223372036854775808) (sto : Sto) (lo : Nat) (hlo : lo ≤ sto.length) : CD 20 [.v (LB a), .v (LB b)] sto lo (.v (.bool (decide (a = b)))) sto := by
  have hm : True := trivial
  have hm2 := hm
  have hm3 := hm
  refine CallEv.intro ⟨_, _, [], Try.func20, rfl, by decide, ?_⟩; simp only [go_sem, Try.ntmps20]
  by_cases c1 : a.length = b.length
  · (try refine lxgo ⟨?_⟩)
    refine c_loop (fun m s => ∃ (i : Nat), (i ≤ a.length ∧ m = a.length - i ∧ a.take i = b.take i) ∧ (s.env.length = 26 ∧ s.sto = sto ∧ s.env[0]? = some (.v (LB a)) ∧ s.env[1]? = some (.v (LB b)) ∧ s.env[5]? = some (.v (VI i)))) (.refl _) ⟨0, ⟨by omega, rfl, by simp⟩, rfl, rfl, ?_, ?_, ?_⟩ ?_
    all_goals first | rfl | skip
    rintro m s ⟨i, ⟨h1, rfl, h3⟩, hL, hT, k0, k1, k5⟩
    obtain ⟨env, st0⟩ := s; obtain ⟨J, hJ⟩ := listJ hL; rw [show (List.range 26).map J = J 0 :: J 1 :: J 2 :: J 3 :: J 4 :: J 5 :: J 6 :: J 7 :: J 8 :: J 9 :: J 10 :: J 11 :: J 12 :: J 13 :: J 14 :: J 15 :: J 16 :: J 17 :: J 18 :: J 19 :: J 20 :: J 21 :: J 22 :: J 23 :: J 24 :: J 25 :: [] from by kernel_rfl] at hJ; replace k0 := Option.some.inj ((congrArg (·[0]?) hJ).symm.trans k0); replace k1 := Option.some.inj ((congrArg (·[1]?) hJ).symm.trans k1); replace k5 := Option.some.inj ((congrArg (·[5]?) hJ).symm.trans k5); rw [k0, k1, k5] at hJ; dsimp only at hJ hT; subst hJ; replace hT := hT.symm; subst hT; clear hL k0 k1 k5
    by_cases hb : i < a.length
    · have hbb : i < b.length := by omega
      by_cases c2 : a[i] = b[i]
      · (try refine lxgo ⟨?_⟩)
        refine ⟨_, _, ?_, .refl _, i + 1, ⟨by omega, rfl, ?_⟩, rfl, rfl, ?_, ?_, ?_⟩
        · omega
        · rw [take_succ hb, take_succ (by omega), h3, c2]
        all_goals rfl
      · have : decide (a = b) = false := decide_eq_false fun h => c2 (by subst h; rfl)
        rw [this]
        (try refine lxgo ⟨?_⟩)
        refine ⟨by first | exact .inr rfl | exact .inl rfl, .inl ⟨[], _, (by dsimp only [Try.f20]; exact lxsv), ?_, by simp⟩⟩
        rfl
    · rw [List.take_of_length_le (by omega), List.take_of_length_le (by omega)] at h3
      rw [decide_eq_true h3]
      (try refine lxgo ⟨?_⟩)
      refine ⟨by first | exact .inr rfl | exact .inl rfl, .inl ⟨[], _, (by dsimp only [Try.f20]; exact lxsv), ?_, by simp⟩⟩
      rfl
  · have : decide (a = b) = false := decide_eq_false fun h => c1 (by rw [h])
    rw [this]
    (try refine lxgo ⟨?_⟩)
    refine ⟨by first | exact .inr rfl | exact .inl rfl, .inl ⟨[], _, (by dsimp only [Try.f20]; exact lxsv), ?_, by simp⟩⟩
    rfl
theorem textS_len (o : OpS) (ho : o.ok) : (textS o.text).length < 9223372036854775808 := by
  obtain ⟨-, -, -, hl, -, -⟩ := ho
  unfold textS
  split
  · simp; omega
  · exact hl
theorem do_ev (D : DK) (hD : D.ok) (o : OpS) (ho : o.ok) (k : Nat) : DiskW 10 [.ptr (k + 3) 0, .v (OPV o)] k D (.v (.tup [STR (doS D o).2.1, VI (doS D o).2.2])) (doS D o).1 := by
  have htx := fun (sto : Sto) (lo : Nat) (hlo : lo ≤ sto.length) => text_ev o ho sto lo hlo
  have htl := textS_len o ho
  obtain ⟨b1, b2, b3, b4, b5, b6⟩ := ho
  have hw := write_ev D hD o.i (textS o.text) htl k
  have hr := read_ev D hD o.i k
  have hf := flush_ev D hD k
  have ht := trip_ev D o.i k
  have hmo := mount_ev D hD o.picks b6 b5 k
  have hro := rot_ev D hD o.i o.bit b3 k
  have hwe := wear_ev D hD o.i k
  have hm : True := trivial
  have hm2 := hm
  have hm3 := hm
  obtain ⟨b11, b12⟩ := b1
  intro sto lo hlt hlo; refine CallEv.intro ⟨_, _, [999999], Try.func10, rfl, by decide, ?_⟩; simp only [go_sem, Try.ntmps10]
  by_cases h1 : o.kind = 1
  · have e : doS D o = ((writeS D o.i (textS o.text)).1, ([], (writeS D o.i (textS o.text)).2)) := by rw [doS, if_pos h1]
    rw [e]
    (try refine lxgoW ⟨?_⟩)
    ((refine lxcall ?_); (refine ⟨_, htx _ _ (by simp only [if_true, Nat.le_refl]), ?_⟩); (try simp only [go_sem]))
    (try refine lxgoW ⟨?_⟩)
    ((with_reducible apply ops_callWD); kernel_rfl; rfl; (simp (disch := (first | omega | assumption | ((repeat' with_reducible apply And.intro) <;> first | omega | assumption | rfl | (apply Or.inl; rfl) | (apply Or.inr; first | rfl | trivial | fail) | fail) | fail)) only [go_sem, if_pos, if_neg, wrapI, wrapU, decide_eq_true, decide_eq_false, beqT, beqF, bneT, bneF, hm, hm2, hm3] <;> rfl); (exact DiskW.app hw (by omega) (by omega)); (intro i hi; (rw [List.getElem?_append_right (by rw [putD_len]; omega), List.getElem?_append_right (by rw [putD_len]; omega)]; simp only [putD_len])); (exact ho_putDa (by first | omega | (simp; done)) (by first | omega | (simp only [putD_len]; omega))); (try simp only [go_sem]))
    (try refine lxgoW ⟨?_⟩)
    refine ⟨by first | exact .inr rfl | exact .inl rfl, .inl ⟨[], _, (by dsimp only [Try.f10]; exact lxsv), ?_, ?_⟩⟩; all_goals (first | rfl | (simp (disch := omega) only [putD_setd, putD_setw, putD_setp, putD_takeN, putD_take]; done) | (simp (disch := omega) only [putD_setd, putD_setw, putD_setp, putD_takeN, putD_take]; rfl) | skip)
  by_cases h2 : o.kind = 2
  · have e : doS D o = (D, readS D o.i) := by rw [doS, if_neg h1, if_pos h2]
    rw [e]
    (try refine lxgoW ⟨?_⟩)
    ((refine lxcall ?_); (refine ⟨_, DiskR.app hr (by omega) (by first | omega | (simp; done) | (simp; omega)), ?_⟩); (try simp only [go_sem]))
    (try refine lxgoW ⟨?_⟩)
    refine ⟨by first | exact .inr rfl | exact .inl rfl, .inl ⟨[], _, (by dsimp only [Try.f10]; exact lxsv), ?_, ?_⟩⟩; all_goals (first | rfl | (simp (disch := omega) only [putD_setd, putD_setw, putD_setp, putD_takeN, putD_take]; done) | (simp (disch := omega) only [putD_setd, putD_setw, putD_setp, putD_takeN, putD_take]; rfl) | skip)
  by_cases h3 : o.kind = 3
  · have e : doS D o = ((flushS D).1, ([], (flushS D).2)) := by rw [doS, if_neg h1, if_neg h2, if_pos h3]
    rw [e]
    (try refine lxgoW ⟨?_⟩)
    ((with_reducible apply ops_callWD); kernel_rfl; rfl; (simp (disch := (first | omega | assumption | ((repeat' with_reducible apply And.intro) <;> first | omega | assumption | rfl | (apply Or.inl; rfl) | (apply Or.inr; first | rfl | trivial | fail) | fail) | fail)) only [go_sem, if_pos, if_neg, wrapI, wrapU, decide_eq_true, decide_eq_false, beqT, beqF, bneT, bneF, hm, hm2, hm3] <;> rfl); (exact DiskW.app hf (by omega) (by omega)); (intro i hi; (rw [List.getElem?_append_right (by rw [putD_len]; omega), List.getElem?_append_right (by rw [putD_len]; omega)]; simp only [putD_len])); (exact ho_putDa (by first | omega | (simp; done)) (by first | omega | (simp only [putD_len]; omega))); (try simp only [go_sem]))
    (try refine lxgoW ⟨?_⟩)
    refine ⟨by first | exact .inr rfl | exact .inl rfl, .inl ⟨[], _, (by dsimp only [Try.f10]; exact lxsv), ?_, ?_⟩⟩; all_goals (first | rfl | (simp (disch := omega) only [putD_setd, putD_setw, putD_setp, putD_takeN, putD_take]; done) | (simp (disch := omega) only [putD_setd, putD_setw, putD_setp, putD_takeN, putD_take]; rfl) | skip)
  by_cases h4 : o.kind = 4
  · have e : doS D o = ({ D with lf := o.i }, ([], 0)) := by rw [doS, if_neg h1, if_neg h2, if_neg h3, if_pos h4]
    rw [e]
    (try refine lxgoW ⟨?_⟩)
    ((with_reducible apply ops_callWD); kernel_rfl; rfl; (simp (disch := (first | omega | assumption | ((repeat' with_reducible apply And.intro) <;> first | omega | assumption | rfl | (apply Or.inl; rfl) | (apply Or.inr; first | rfl | trivial | fail) | fail) | fail)) only [go_sem, if_pos, if_neg, wrapI, wrapU, decide_eq_true, decide_eq_false, beqT, beqF, bneT, bneF, hm, hm2, hm3] <;> rfl); (exact DiskW.app ht (by omega) (by omega)); (intro i hi; (rw [List.getElem?_append_right (by rw [putD_len]; omega), List.getElem?_append_right (by rw [putD_len]; omega)]; simp only [putD_len])); (exact ho_putDa (by first | omega | (simp; done)) (by first | omega | (simp only [putD_len]; omega))); (try simp only [go_sem]))
    (try refine lxgoW ⟨?_⟩)
    refine ⟨by first | exact .inr rfl | exact .inl rfl, .inl ⟨[], _, (by dsimp only [Try.f10]; exact lxsv), ?_, ?_⟩⟩; all_goals (first | rfl | (simp (disch := omega) only [putD_setd, putD_setw, putD_setp, putD_takeN, putD_take]; done) | (simp (disch := omega) only [putD_setd, putD_setw, putD_setp, putD_takeN, putD_take]; rfl) | skip)
  by_cases h5 : o.kind = 5
  · have e : doS D o = (mountS D o.picks, ([], 0)) := by rw [doS, if_neg h1, if_neg h2, if_neg h3, if_neg h4, if_pos h5]
    rw [e]
    (try refine lxgoW ⟨?_⟩)
    ((with_reducible apply ops_callWD); kernel_rfl; rfl; (simp (disch := (first | omega | assumption | ((repeat' with_reducible apply And.intro) <;> first | omega | assumption | rfl | (apply Or.inl; rfl) | (apply Or.inr; first | rfl | trivial | fail) | fail) | fail)) only [go_sem, if_pos, if_neg, wrapI, wrapU, decide_eq_true, decide_eq_false, beqT, beqF, bneT, bneF, hm, hm2, hm3] <;> rfl); (exact DiskW.app hmo (by omega) (by omega)); (intro i hi; (rw [List.getElem?_append_right (by rw [putD_len]; omega), List.getElem?_append_right (by rw [putD_len]; omega)]; simp only [putD_len])); (exact ho_putDa (by first | omega | (simp; done)) (by first | omega | (simp only [putD_len]; omega))); (try simp only [go_sem]))
    (try refine lxgoW ⟨?_⟩)
    refine ⟨by first | exact .inr rfl | exact .inl rfl, .inl ⟨[], _, (by dsimp only [Try.f10]; exact lxsv), ?_, ?_⟩⟩; all_goals (first | rfl | (simp (disch := omega) only [putD_setd, putD_setw, putD_setp, putD_takeN, putD_take]; done) | (simp (disch := omega) only [putD_setd, putD_setw, putD_setp, putD_takeN, putD_take]; rfl) | skip)
  by_cases h6 : o.kind = 6
  · have e : doS D o = ((rotS D o.i o.bit).1, ([], (rotS D o.i o.bit).2)) := by rw [doS, if_neg h1, if_neg h2, if_neg h3, if_neg h4, if_neg h5, if_pos h6]
    rw [e]
    (try refine lxgoW ⟨?_⟩)
    ((with_reducible apply ops_callWD); kernel_rfl; rfl; (simp (disch := (first | omega | assumption | ((repeat' with_reducible apply And.intro) <;> first | omega | assumption | rfl | (apply Or.inl; rfl) | (apply Or.inr; first | rfl | trivial | fail) | fail) | fail)) only [go_sem, if_pos, if_neg, wrapI, wrapU, decide_eq_true, decide_eq_false, beqT, beqF, bneT, bneF, hm, hm2, hm3] <;> rfl); (exact DiskW.app hro (by omega) (by omega)); (intro i hi; (rw [List.getElem?_append_right (by rw [putD_len]; omega), List.getElem?_append_right (by rw [putD_len]; omega)]; simp only [putD_len])); (exact ho_putDa (by first | omega | (simp; done)) (by first | omega | (simp only [putD_len]; omega))); (try simp only [go_sem]))
    (try refine lxgoW ⟨?_⟩)
    refine ⟨by first | exact .inr rfl | exact .inl rfl, .inl ⟨[], _, (by dsimp only [Try.f10]; exact lxsv), ?_, ?_⟩⟩; all_goals (first | rfl | (simp (disch := omega) only [putD_setd, putD_setw, putD_setp, putD_takeN, putD_take]; done) | (simp (disch := omega) only [putD_setd, putD_setw, putD_setp, putD_takeN, putD_take]; rfl) | skip)
  by_cases h7 : o.kind = 7
  · have e : doS D o = ((wearS D o.i).1, ([], (wearS D o.i).2)) := by rw [doS, if_neg h1, if_neg h2, if_neg h3, if_neg h4, if_neg h5, if_neg h6, if_pos h7]
    rw [e]
    (try refine lxgoW ⟨?_⟩)
    ((with_reducible apply ops_callWD); kernel_rfl; rfl; (simp (disch := (first | omega | assumption | ((repeat' with_reducible apply And.intro) <;> first | omega | assumption | rfl | (apply Or.inl; rfl) | (apply Or.inr; first | rfl | trivial | fail) | fail) | fail)) only [go_sem, if_pos, if_neg, wrapI, wrapU, decide_eq_true, decide_eq_false, beqT, beqF, bneT, bneF, hm, hm2, hm3] <;> rfl); (exact DiskW.app hwe (by omega) (by omega)); (intro i hi; (rw [List.getElem?_append_right (by rw [putD_len]; omega), List.getElem?_append_right (by rw [putD_len]; omega)]; simp only [putD_len])); (exact ho_putDa (by first | omega | (simp; done)) (by first | omega | (simp only [putD_len]; omega))); (try simp only [go_sem]))
    (try refine lxgoW ⟨?_⟩)
    refine ⟨by first | exact .inr rfl | exact .inl rfl, .inl ⟨[], _, (by dsimp only [Try.f10]; exact lxsv), ?_, ?_⟩⟩; all_goals (first | rfl | (simp (disch := omega) only [putD_setd, putD_setw, putD_setp, putD_takeN, putD_take]; done) | (simp (disch := omega) only [putD_setd, putD_setw, putD_setp, putD_takeN, putD_take]; rfl) | skip)
  have e : doS D o = (D, ([], 0)) := by rw [doS, if_neg h1, if_neg h2, if_neg h3, if_neg h4, if_neg h5, if_neg h6, if_neg h7]
  rw [e]
  (try refine lxgoW ⟨?_⟩)
  refine ⟨by first | exact .inr rfl | exact .inl rfl, .inl ⟨[], _, (by dsimp only [Try.f10]; exact lxsv), ?_, ?_⟩⟩; all_goals (first | rfl | (simp (disch := omega) only [putD_setd, putD_setw, putD_setp, putD_takeN, putD_take]; done) | (simp (disch := omega) only [putD_setd, putD_setw, putD_setp, putD_takeN, putD_take]; rfl) | skip)
end Go.Proofs.Ytghdanpigohnjaa
namespace Go.Proofs.Ytghdanpigohnjaa
open Go Go.RowKit

attribute [local irreducible] EvOps EvC
attribute [local go_sem] List.getElem?_toArray List.flatten_cons List.flatten_nil List.contains_nil List.append_nil List.nil_append List.length_set Bool.and_self implies_true eq_self Nat.zero_mul Nat.add_zero Nat.zero_add Nat.sub_zero List.take_zero List.drop_zero List.drop_replicate Nat.sub_self List.replicate_zero List.map_nil List.map_append List.length_replicate
attribute [local go_sem] bytesV_bs strV_u8s bs_size u8s_len bs_extract bs_append bs_beq bs_nil bs_nil2
attribute [local go_sem] putD_len putD_b putD_p putD_w putD_d putD_app putD_put putD_get0 putD_get putD_set0 putD_set putD_take putD_takeN putD_setd putD_setw putD_setp getLD setLD
set_option linter.unusedSimpArgs false
set_option linter.unusedVariables false
set_option maxRecDepth 100000
set_option maxHeartbeats 4000000
attribute [local go_sem] take_u8 take_u8v drop_u8v len_u8v viewL_mv eqVs_u8s zsV_Z64 Z64_len Nat.min_self Nat.min_eq_right

attribute [local go_sem] putR_len putR_s putR_d putR_app putR_put putR_get0 putR_get putR_set0 putR_set putR_take putR_takeN putR_setd getLR setLR cellsR

theorem lygoX {p q : Prop} (k : Later q) (h : Later q → p := by (intro k; (first | with_reducible (first | refine c_seq ?_ | refine c_block ?_ | refine c_skip ?_ | refine c_exit ?_ | refine c_ret ?_ | refine then_normal ?_ | refine then_exit ?_ | refine then_ret ?_ | refine block_normal ?_ | refine block_here ?_ | refine block_ret ?_ | refine block_far (by decide) ?_ | refine ops_nil ?_ | refine c_cond_t rfl ?_ | refine c_cond_f rfl ?_) | ((with_reducible apply ops_pure); rfl; (simp (disch := (first | omega | assumption | ((repeat' with_reducible apply And.intro) <;> first | omega | assumption | rfl | (apply Or.inl; rfl) | (apply Or.inr; first | rfl | trivial | fail) | fail) | fail)) only [go_sem, if_pos, if_neg, wrapI, wrapU, decide_eq_true, decide_eq_false, beqT, beqF, bneT, bneF, hm, hm2, hm3, hm4, hm5] <;> rfl); simp only [go_sem]) | ((with_reducible apply ops_pureF); rfl; (intro _; simp (disch := (first | omega | assumption | ((repeat' with_reducible apply And.intro) <;> first | omega | assumption | rfl | (apply Or.inl; rfl) | (apply Or.inr; first | rfl | trivial | fail) | fail) | fail)) only [go_sem, if_pos, if_neg, wrapI, wrapU, decide_eq_true, decide_eq_false, beqT, beqF, bneT, bneF, hm, hm2, hm3, hm4, hm5] <;> rfl); simp only [go_sem]) | ((with_reducible apply ops_pureD); kernel_rfl; rfl; (simp (disch := (first | omega | assumption | ((repeat' with_reducible apply And.intro) <;> first | omega | assumption | rfl | (apply Or.inl; rfl) | (apply Or.inr; first | rfl | trivial | fail) | fail) | fail)) only [go_sem, if_pos, if_neg, wrapI, wrapU, decide_eq_true, decide_eq_false, beqT, beqF, bneT, bneF, hm, hm2, hm3, hm4, hm5] <;> rfl); simp only [go_sem]) | ((with_reducible apply ops_skip); rfl; simp only [go_sem]) | ((with_reducible apply c_regionD); kernel_rfl) | ((first | ((with_reducible apply ops_eff); decide) | (with_reducible apply ops_lit)); rfl; (simp (disch := (first | omega | assumption | ((repeat' with_reducible apply And.intro) <;> first | omega | assumption | rfl | (apply Or.inl; rfl) | (apply Or.inr; first | rfl | trivial | fail) | fail) | fail)) only [go_sem, if_pos, if_neg, wrapI, wrapU, decide_eq_true, decide_eq_false, beqT, beqF, bneT, bneF, hm, hm2, hm3, hm4, hm5] <;> rfl); simp only [go_sem])); (repeat (first | with_reducible (first | refine c_seq ?_ | refine c_block ?_ | refine c_skip ?_ | refine c_exit ?_ | refine c_ret ?_ | refine then_normal ?_ | refine then_exit ?_ | refine then_ret ?_ | refine block_normal ?_ | refine block_here ?_ | refine block_ret ?_ | refine block_far (by decide) ?_ | refine ops_nil ?_ | refine c_cond_t rfl ?_ | refine c_cond_f rfl ?_) | ((with_reducible apply ops_pure); rfl; (simp (disch := (first | omega | assumption | ((repeat' with_reducible apply And.intro) <;> first | omega | assumption | rfl | (apply Or.inl; rfl) | (apply Or.inr; first | rfl | trivial | fail) | fail) | fail)) only [go_sem, if_pos, if_neg, wrapI, wrapU, decide_eq_true, decide_eq_false, beqT, beqF, bneT, bneF, hm, hm2, hm3, hm4, hm5] <;> rfl); simp only [go_sem]) | ((with_reducible apply ops_pureF); rfl; (intro _; simp (disch := (first | omega | assumption | ((repeat' with_reducible apply And.intro) <;> first | omega | assumption | rfl | (apply Or.inl; rfl) | (apply Or.inr; first | rfl | trivial | fail) | fail) | fail)) only [go_sem, if_pos, if_neg, wrapI, wrapU, decide_eq_true, decide_eq_false, beqT, beqF, bneT, bneF, hm, hm2, hm3, hm4, hm5] <;> rfl); simp only [go_sem]) | ((with_reducible apply ops_pureD); kernel_rfl; rfl; (simp (disch := (first | omega | assumption | ((repeat' with_reducible apply And.intro) <;> first | omega | assumption | rfl | (apply Or.inl; rfl) | (apply Or.inr; first | rfl | trivial | fail) | fail) | fail)) only [go_sem, if_pos, if_neg, wrapI, wrapU, decide_eq_true, decide_eq_false, beqT, beqF, bneT, bneF, hm, hm2, hm3, hm4, hm5] <;> rfl); simp only [go_sem]) | ((with_reducible apply ops_skip); rfl; simp only [go_sem]) | ((with_reducible apply c_regionD); kernel_rfl) | ((first | ((with_reducible apply ops_eff); decide) | (with_reducible apply ops_lit)); rfl; (simp (disch := (first | omega | assumption | ((repeat' with_reducible apply And.intro) <;> first | omega | assumption | rfl | (apply Or.inl; rfl) | (apply Or.inr; first | rfl | trivial | fail) | fail) | fail)) only [go_sem, if_pos, if_neg, wrapI, wrapU, decide_eq_true, decide_eq_false, beqT, beqF, bneT, bneF, hm, hm2, hm3, hm4, hm5] <;> rfl); simp only [go_sem]))); exact k.get)) : p := h k
theorem lysv {p : Prop} (h : p := by simp (disch := (first | omega | assumption | ((repeat' with_reducible apply And.intro) <;> first | omega | assumption | rfl | (apply Or.inl; rfl) | (apply Or.inr; first | rfl | trivial | fail) | fail) | fail)) only [go_sem, if_pos, if_neg, wrapI, wrapU, decide_eq_true, decide_eq_false, beqT, beqF, bneT, bneF, hm, hm2, hm3, hm4, hm5] <;> rfl) : p := h
theorem lycall {T : Tab} {X : CallP} {n0 lo : Nat} {wt : List Tmp} {draw : Bool} {ops : Array Oper} {Q : St → Prop} {rest : List Oper} {o : Oper} {env : List D} {sto : Sto} {f : FuncId} {args : List D} (k : ∃ r, X f args sto (if draw then sto.length else lo) r sto ∧ EvOps T X n0 lo wt draw ops Q rest (St.put ⟨env, sto⟩ o.dst r)) (hg : guardD ops o env = some true := by rfl) (h : evCallee (opd env) sto o = some (f, args) := by simp (disch := (first | omega | assumption | ((repeat' with_reducible apply And.intro) <;> first | omega | assumption | rfl | (apply Or.inl; rfl) | (apply Or.inr; first | rfl | trivial | fail) | fail) | fail)) only [go_sem, if_pos, if_neg, wrapI, wrapU, decide_eq_true, decide_eq_false, beqT, beqF, bneT, bneF, hm, hm2, hm3, hm4, hm5] <;> rfl) : EvOps T X n0 lo wt draw ops Q (o :: rest) ⟨env, sto⟩ := k.elim fun _ k => ops_call hg h k.1 k.2
attribute [local go_sem] OpS.cells
theorem lygoW {p q : Prop} (k : Later q) (h : Later q → p := by (intro k; (first | with_reducible (first | refine c_seq ?_ | refine c_block ?_ | refine c_region ?_ | refine c_skip ?_ | refine c_exit ?_ | refine c_ret ?_ | refine then_normal ?_ | refine then_exit ?_ | refine then_ret ?_ | refine block_normal ?_ | refine block_here ?_ | refine block_ret ?_ | refine block_far (by decide) ?_ | refine ops_nil ?_ | refine c_cond_t rfl ?_ | refine c_cond_f rfl ?_) | ((with_reducible apply ops_pure); rfl; (simp (disch := (first | omega | assumption | ((repeat' with_reducible apply And.intro) <;> first | omega | assumption | rfl | (apply Or.inl; rfl) | (apply Or.inr; first | rfl | trivial | fail) | fail) | fail)) only [go_sem, if_pos, if_neg, wrapI, wrapU, decide_eq_true, decide_eq_false, beqT, beqF, bneT, bneF, hm, hm2, hm3, hm4, hm5] <;> rfl); simp only [go_sem]) | ((with_reducible apply ops_pureF); rfl; (intro _; simp (disch := (first | omega | assumption | ((repeat' with_reducible apply And.intro) <;> first | omega | assumption | rfl | (apply Or.inl; rfl) | (apply Or.inr; first | rfl | trivial | fail) | fail) | fail)) only [go_sem, if_pos, if_neg, wrapI, wrapU, decide_eq_true, decide_eq_false, beqT, beqF, bneT, bneF, hm, hm2, hm3, hm4, hm5] <;> rfl); simp only [go_sem]) | ((with_reducible apply ops_pureW); kernel_rfl; rfl; (simp (disch := (first | omega | assumption | ((repeat' with_reducible apply And.intro) <;> first | omega | assumption | rfl | (apply Or.inl; rfl) | (apply Or.inr; first | rfl | trivial | fail) | fail) | fail)) only [go_sem, if_pos, if_neg, wrapI, wrapU, decide_eq_true, decide_eq_false, beqT, beqF, bneT, bneF, hm, hm2, hm3, hm4, hm5] <;> rfl); (intro s hs0 hs; (simp (disch := (first | omega | assumption | ((repeat' with_reducible apply And.intro) <;> first | omega | assumption | rfl | (apply Or.inl; rfl) | (apply Or.inr; first | rfl | trivial | fail) | fail) | fail)) only [go_sem, if_pos, if_neg, hs0, hs]) <;> rfl); simp only [go_sem]) | ((with_reducible apply ops_skip); rfl; simp only [go_sem]) | ((with_reducible apply c_regionD); kernel_rfl) | ((first | ((with_reducible apply ops_eff); decide) | (with_reducible apply ops_lit)); rfl; (simp (disch := (first | omega | assumption | ((repeat' with_reducible apply And.intro) <;> first | omega | assumption | rfl | (apply Or.inl; rfl) | (apply Or.inr; first | rfl | trivial | fail) | fail) | fail)) only [go_sem, if_pos, if_neg, wrapI, wrapU, decide_eq_true, decide_eq_false, beqT, beqF, bneT, bneF, hm, hm2, hm3, hm4, hm5] <;> rfl); simp only [go_sem])); (repeat (first | with_reducible (first | refine c_seq ?_ | refine c_block ?_ | refine c_region ?_ | refine c_skip ?_ | refine c_exit ?_ | refine c_ret ?_ | refine then_normal ?_ | refine then_exit ?_ | refine then_ret ?_ | refine block_normal ?_ | refine block_here ?_ | refine block_ret ?_ | refine block_far (by decide) ?_ | refine ops_nil ?_ | refine c_cond_t rfl ?_ | refine c_cond_f rfl ?_) | ((with_reducible apply ops_pure); rfl; (simp (disch := (first | omega | assumption | ((repeat' with_reducible apply And.intro) <;> first | omega | assumption | rfl | (apply Or.inl; rfl) | (apply Or.inr; first | rfl | trivial | fail) | fail) | fail)) only [go_sem, if_pos, if_neg, wrapI, wrapU, decide_eq_true, decide_eq_false, beqT, beqF, bneT, bneF, hm, hm2, hm3, hm4, hm5] <;> rfl); simp only [go_sem]) | ((with_reducible apply ops_pureF); rfl; (intro _; simp (disch := (first | omega | assumption | ((repeat' with_reducible apply And.intro) <;> first | omega | assumption | rfl | (apply Or.inl; rfl) | (apply Or.inr; first | rfl | trivial | fail) | fail) | fail)) only [go_sem, if_pos, if_neg, wrapI, wrapU, decide_eq_true, decide_eq_false, beqT, beqF, bneT, bneF, hm, hm2, hm3, hm4, hm5] <;> rfl); simp only [go_sem]) | ((with_reducible apply ops_pureW); kernel_rfl; rfl; (simp (disch := (first | omega | assumption | ((repeat' with_reducible apply And.intro) <;> first | omega | assumption | rfl | (apply Or.inl; rfl) | (apply Or.inr; first | rfl | trivial | fail) | fail) | fail)) only [go_sem, if_pos, if_neg, wrapI, wrapU, decide_eq_true, decide_eq_false, beqT, beqF, bneT, bneF, hm, hm2, hm3, hm4, hm5] <;> rfl); (intro s hs0 hs; (simp (disch := (first | omega | assumption | ((repeat' with_reducible apply And.intro) <;> first | omega | assumption | rfl | (apply Or.inl; rfl) | (apply Or.inr; first | rfl | trivial | fail) | fail) | fail)) only [go_sem, if_pos, if_neg, hs0, hs]) <;> rfl); simp only [go_sem]) | ((with_reducible apply ops_skip); rfl; simp only [go_sem]) | ((with_reducible apply c_regionD); kernel_rfl) | ((first | ((with_reducible apply ops_eff); decide) | (with_reducible apply ops_lit)); rfl; (simp (disch := (first | omega | assumption | ((repeat' with_reducible apply And.intro) <;> first | omega | assumption | rfl | (apply Or.inl; rfl) | (apply Or.inr; first | rfl | trivial | fail) | fail) | fail)) only [go_sem, if_pos, if_neg, wrapI, wrapU, decide_eq_true, decide_eq_false, beqT, beqF, bneT, bneF, hm, hm2, hm3, hm4, hm5] <;> rfl); simp only [go_sem]))); exact k.get)) : p := h k
theorem textS_len' (o : OpS) (ho : o.ok) : (textS o.text).length < 9223372036854775808 := by
  obtain ⟨-, -, -, hl, -, -⟩ := ho
  unfold textS
  split
  · simp; omega
  · exact hl
theorem rdo_ev (R : RK) (hR : R.ok) (o : OpS) (ho : o.ok) (q a : Nat) (hqa : q ≠ a) : RefW 11 [.ptr q 0, .v (OPV o)] q a R (.v (.tup [STR (rdoS R o).2.1, VI (rdoS R o).2.2])) (rdoS R o).1 := by
  have htx := fun (sto : Sto) (lo : Nat) (hlo : lo ≤ sto.length) => text_ev o ho sto lo hlo
  have htl := textS_len' o ho
  obtain ⟨b1, b2, b3, b4, b5, b6⟩ := ho
  have hw := rwrite_ev R hR o.i (textS o.text) htl q a hqa
  have hr := rread_ev R hR o.i q a hqa
  have hf := rflush_ev R hR q a hqa
  have ht := rtrip_ev R o.i q a hqa
  have hmo := rmount_ev R hR o.picks b6 b5 q a hqa
  have hro := rrot_ev R hR o.i o.bit b3 q a hqa
  have hwe := rwear_ev R hR o.i q a hqa
  have hm : True := trivial
  have hm2 := hm
  have hm3 := hm
  have hm4 := hm
  have hm5 := hm
  obtain ⟨b11, b12⟩ := b1
  intro sto lo hq ha hlq hla; refine CallEv.intro ⟨_, _, [999999], Try.func11, rfl, by decide, ?_⟩; simp only [go_sem, Try.ntmps11]
  by_cases h1 : o.kind = 1
  · have e : rdoS R o = ((rwriteS R o.i (textS o.text)).1, ([], (rwriteS R o.i (textS o.text)).2)) := by rw [rdoS, if_pos h1]
    rw [e]
    (try refine lygoW ⟨?_⟩)
    ((refine lycall ?_); (refine ⟨_, htx _ _ (by simp only [if_true, Nat.le_refl]), ?_⟩); (try simp only [go_sem]))
    (try refine lygoW ⟨?_⟩)
    ((with_reducible apply ops_callWD); kernel_rfl; rfl; (simp (disch := (first | omega | assumption | ((repeat' with_reducible apply And.intro) <;> first | omega | assumption | rfl | (apply Or.inl; rfl) | (apply Or.inr; first | rfl | trivial | fail) | fail) | fail)) only [go_sem, if_pos, if_neg, wrapI, wrapU, decide_eq_true, decide_eq_false, beqT, beqF, bneT, bneF, hm, hm2, hm3, hm4, hm5] <;> rfl); (exact RefW.app hw hq ha (by omega) (by omega)); (intro i hi; (rw [List.getElem?_append_right (by rw [putR_len]; omega), List.getElem?_append_right (by rw [putR_len]; omega)]; simp only [putR_len])); (exact ho_putRa hqa hq ha (by omega) (by omega)); (try simp only [go_sem]))
    (try refine lygoW ⟨?_⟩)
    refine ⟨by first | exact .inr rfl | exact .inl rfl, .inl ⟨[], _, (by dsimp only [Try.f11]; exact lysv), ?_, ?_⟩⟩; all_goals (first | rfl | (simp (disch := first | omega | assumption) only [putR_setd, putR_takeN, putR_take]; done) | (simp (disch := first | omega | assumption) only [putR_setd, putR_takeN, putR_take]; rfl) | skip)
  by_cases h2 : o.kind = 2
  · have e : rdoS R o = (R, rreadS R o.i) := by rw [rdoS, if_neg h1, if_pos h2]
    rw [e]
    (try refine lygoW ⟨?_⟩)
    ((refine lycall ?_); (refine ⟨_, RefR.app hr hq ha (by first | omega | (simp only [putR_len, if_true, if_false, reduceIte, Bool.false_eq_true, List.length_append]; omega)), ?_⟩); (try simp only [go_sem]))
    (try refine lygoW ⟨?_⟩)
    refine ⟨by first | exact .inr rfl | exact .inl rfl, .inl ⟨[], _, (by dsimp only [Try.f11]; exact lysv), ?_, ?_⟩⟩; all_goals (first | rfl | (simp (disch := first | omega | assumption) only [putR_setd, putR_takeN, putR_take]; done) | (simp (disch := first | omega | assumption) only [putR_setd, putR_takeN, putR_take]; rfl) | skip)
  by_cases h3 : o.kind = 3
  · have e : rdoS R o = ((rflushS R).1, ([], (rflushS R).2)) := by rw [rdoS, if_neg h1, if_neg h2, if_pos h3]
    rw [e]
    (try refine lygoW ⟨?_⟩)
    ((with_reducible apply ops_callWD); kernel_rfl; rfl; (simp (disch := (first | omega | assumption | ((repeat' with_reducible apply And.intro) <;> first | omega | assumption | rfl | (apply Or.inl; rfl) | (apply Or.inr; first | rfl | trivial | fail) | fail) | fail)) only [go_sem, if_pos, if_neg, wrapI, wrapU, decide_eq_true, decide_eq_false, beqT, beqF, bneT, bneF, hm, hm2, hm3, hm4, hm5] <;> rfl); (exact RefW.app hf hq ha (by omega) (by omega)); (intro i hi; (rw [List.getElem?_append_right (by rw [putR_len]; omega), List.getElem?_append_right (by rw [putR_len]; omega)]; simp only [putR_len])); (exact ho_putRa hqa hq ha (by omega) (by omega)); (try simp only [go_sem]))
    (try refine lygoW ⟨?_⟩)
    refine ⟨by first | exact .inr rfl | exact .inl rfl, .inl ⟨[], _, (by dsimp only [Try.f11]; exact lysv), ?_, ?_⟩⟩; all_goals (first | rfl | (simp (disch := first | omega | assumption) only [putR_setd, putR_takeN, putR_take]; done) | (simp (disch := first | omega | assumption) only [putR_setd, putR_takeN, putR_take]; rfl) | skip)
  by_cases h4 : o.kind = 4
  · have e : rdoS R o = ({ R with lf := max (-1) o.i }, ([], 0)) := by rw [rdoS, if_neg h1, if_neg h2, if_neg h3, if_pos h4]
    rw [e]
    (try refine lygoW ⟨?_⟩)
    ((with_reducible apply ops_callWD); kernel_rfl; rfl; (simp (disch := (first | omega | assumption | ((repeat' with_reducible apply And.intro) <;> first | omega | assumption | rfl | (apply Or.inl; rfl) | (apply Or.inr; first | rfl | trivial | fail) | fail) | fail)) only [go_sem, if_pos, if_neg, wrapI, wrapU, decide_eq_true, decide_eq_false, beqT, beqF, bneT, bneF, hm, hm2, hm3, hm4, hm5] <;> rfl); (exact RefW.app ht hq ha (by omega) (by omega)); (intro i hi; (rw [List.getElem?_append_right (by rw [putR_len]; omega), List.getElem?_append_right (by rw [putR_len]; omega)]; simp only [putR_len])); (exact ho_putRa hqa hq ha (by omega) (by omega)); (try simp only [go_sem]))
    (try refine lygoW ⟨?_⟩)
    refine ⟨by first | exact .inr rfl | exact .inl rfl, .inl ⟨[], _, (by dsimp only [Try.f11]; exact lysv), ?_, ?_⟩⟩; all_goals (first | rfl | (simp (disch := first | omega | assumption) only [putR_setd, putR_takeN, putR_take]; done) | (simp (disch := first | omega | assumption) only [putR_setd, putR_takeN, putR_take]; rfl) | skip)
  by_cases h5 : o.kind = 5
  · have e : rdoS R o = (rmountS R o.picks, ([], 0)) := by rw [rdoS, if_neg h1, if_neg h2, if_neg h3, if_neg h4, if_pos h5]
    rw [e]
    (try refine lygoW ⟨?_⟩)
    ((with_reducible apply ops_callWD); kernel_rfl; rfl; (simp (disch := (first | omega | assumption | ((repeat' with_reducible apply And.intro) <;> first | omega | assumption | rfl | (apply Or.inl; rfl) | (apply Or.inr; first | rfl | trivial | fail) | fail) | fail)) only [go_sem, if_pos, if_neg, wrapI, wrapU, decide_eq_true, decide_eq_false, beqT, beqF, bneT, bneF, hm, hm2, hm3, hm4, hm5] <;> rfl); (exact RefW.app hmo hq ha (by omega) (by omega)); (intro i hi; (rw [List.getElem?_append_right (by rw [putR_len]; omega), List.getElem?_append_right (by rw [putR_len]; omega)]; simp only [putR_len])); (exact ho_putRa hqa hq ha (by omega) (by omega)); (try simp only [go_sem]))
    (try refine lygoW ⟨?_⟩)
    refine ⟨by first | exact .inr rfl | exact .inl rfl, .inl ⟨[], _, (by dsimp only [Try.f11]; exact lysv), ?_, ?_⟩⟩; all_goals (first | rfl | (simp (disch := first | omega | assumption) only [putR_setd, putR_takeN, putR_take]; done) | (simp (disch := first | omega | assumption) only [putR_setd, putR_takeN, putR_take]; rfl) | skip)
  by_cases h6 : o.kind = 6
  · have e : rdoS R o = ((rrotS R o.i o.bit).1, ([], (rrotS R o.i o.bit).2)) := by rw [rdoS, if_neg h1, if_neg h2, if_neg h3, if_neg h4, if_neg h5, if_pos h6]
    rw [e]
    (try refine lygoW ⟨?_⟩)
    ((with_reducible apply ops_callWD); kernel_rfl; rfl; (simp (disch := (first | omega | assumption | ((repeat' with_reducible apply And.intro) <;> first | omega | assumption | rfl | (apply Or.inl; rfl) | (apply Or.inr; first | rfl | trivial | fail) | fail) | fail)) only [go_sem, if_pos, if_neg, wrapI, wrapU, decide_eq_true, decide_eq_false, beqT, beqF, bneT, bneF, hm, hm2, hm3, hm4, hm5] <;> rfl); (exact RefW.app hro hq ha (by omega) (by omega)); (intro i hi; (rw [List.getElem?_append_right (by rw [putR_len]; omega), List.getElem?_append_right (by rw [putR_len]; omega)]; simp only [putR_len])); (exact ho_putRa hqa hq ha (by omega) (by omega)); (try simp only [go_sem]))
    (try refine lygoW ⟨?_⟩)
    refine ⟨by first | exact .inr rfl | exact .inl rfl, .inl ⟨[], _, (by dsimp only [Try.f11]; exact lysv), ?_, ?_⟩⟩; all_goals (first | rfl | (simp (disch := first | omega | assumption) only [putR_setd, putR_takeN, putR_take]; done) | (simp (disch := first | omega | assumption) only [putR_setd, putR_takeN, putR_take]; rfl) | skip)
  by_cases h7 : o.kind = 7
  · have e : rdoS R o = ((rwearS R o.i).1, ([], (rwearS R o.i).2)) := by rw [rdoS, if_neg h1, if_neg h2, if_neg h3, if_neg h4, if_neg h5, if_neg h6, if_pos h7]
    rw [e]
    (try refine lygoW ⟨?_⟩)
    ((with_reducible apply ops_callWD); kernel_rfl; rfl; (simp (disch := (first | omega | assumption | ((repeat' with_reducible apply And.intro) <;> first | omega | assumption | rfl | (apply Or.inl; rfl) | (apply Or.inr; first | rfl | trivial | fail) | fail) | fail)) only [go_sem, if_pos, if_neg, wrapI, wrapU, decide_eq_true, decide_eq_false, beqT, beqF, bneT, bneF, hm, hm2, hm3, hm4, hm5] <;> rfl); (exact RefW.app hwe hq ha (by omega) (by omega)); (intro i hi; (rw [List.getElem?_append_right (by rw [putR_len]; omega), List.getElem?_append_right (by rw [putR_len]; omega)]; simp only [putR_len])); (exact ho_putRa hqa hq ha (by omega) (by omega)); (try simp only [go_sem]))
    (try refine lygoW ⟨?_⟩)
    refine ⟨by first | exact .inr rfl | exact .inl rfl, .inl ⟨[], _, (by dsimp only [Try.f11]; exact lysv), ?_, ?_⟩⟩; all_goals (first | rfl | (simp (disch := first | omega | assumption) only [putR_setd, putR_takeN, putR_take]; done) | (simp (disch := first | omega | assumption) only [putR_setd, putR_takeN, putR_take]; rfl) | skip)
  have e : rdoS R o = (R, ([], 0)) := by rw [rdoS, if_neg h1, if_neg h2, if_neg h3, if_neg h4, if_neg h5, if_neg h6, if_neg h7]
  rw [e]
  (try refine lygoW ⟨?_⟩)
  refine ⟨by first | exact .inr rfl | exact .inl rfl, .inl ⟨[], _, (by dsimp only [Try.f11]; exact lysv), ?_, ?_⟩⟩; all_goals (first | rfl | (simp (disch := first | omega | assumption) only [putR_setd, putR_takeN, putR_take]; done) | (simp (disch := first | omega | assumption) only [putR_setd, putR_takeN, putR_take]; rfl) | skip)
end Go.Proofs.Ytghdanpigohnjaa
namespace Go.Proofs.Ytghdanpigohnjaa
open Go Go.RowKit

attribute [local irreducible] EvOps EvC
attribute [local go_sem] List.getElem?_toArray List.flatten_cons List.flatten_nil List.contains_nil List.append_nil List.nil_append List.length_set Bool.and_self implies_true eq_self Nat.zero_mul Nat.add_zero Nat.zero_add Nat.sub_zero List.take_zero List.drop_zero List.drop_replicate Nat.sub_self List.replicate_zero List.map_nil List.map_append List.length_replicate
attribute [local go_sem] bytesV_bs strV_u8s bs_size u8s_len bs_extract bs_append bs_beq bs_nil bs_nil2
attribute [local go_sem] putD_len putD_b putD_p putD_w putD_d putD_app putD_put putD_get0 putD_get putD_set0 putD_set putD_take putD_takeN putD_setd putD_setw putD_setp getLD setLD
set_option linter.unusedSimpArgs false
set_option linter.unusedVariables false
set_option maxRecDepth 100000
set_option maxHeartbeats 4000000
attribute [local go_sem] take_u8 take_u8v drop_u8v len_u8v viewL_mv eqVs_u8s zsV_Z64 Z64_len Nat.min_self Nat.min_eq_right

theorem lzgo {p q : Prop} (k : Later q) (h : Later q → p := by (intro k; (first | with_reducible (first | refine c_seq ?_ | refine c_block ?_ | refine c_region ?_ | refine c_skip ?_ | refine c_exit ?_ | refine c_ret ?_ | refine then_normal ?_ | refine then_exit ?_ | refine then_ret ?_ | refine block_normal ?_ | refine block_here ?_ | refine block_ret ?_ | refine block_far (by decide) ?_ | refine ops_nil ?_ | refine c_cond_t rfl ?_ | refine c_cond_f rfl ?_) | ((with_reducible apply ops_pure); rfl; (simp (disch := (first | omega | assumption | ((repeat' with_reducible apply And.intro) <;> first | omega | assumption | rfl | (apply Or.inl; rfl) | (apply Or.inr; first | rfl | trivial | fail) | fail) | fail)) only [go_sem, if_pos, if_neg, wrapI, wrapU, decide_eq_true, decide_eq_false, beqT, beqF, bneT, bneF, hm, hm2, hm3] <;> rfl); simp only [go_sem]) | ((with_reducible apply ops_pureF); rfl; (intro _; simp (disch := (first | omega | assumption | ((repeat' with_reducible apply And.intro) <;> first | omega | assumption | rfl | (apply Or.inl; rfl) | (apply Or.inr; first | rfl | trivial | fail) | fail) | fail)) only [go_sem, if_pos, if_neg, wrapI, wrapU, decide_eq_true, decide_eq_false, beqT, beqF, bneT, bneF, hm, hm2, hm3] <;> rfl); simp only [go_sem]) | ((with_reducible apply ops_pureD); kernel_rfl; rfl; (simp (disch := (first | omega | assumption | ((repeat' with_reducible apply And.intro) <;> first | omega | assumption | rfl | (apply Or.inl; rfl) | (apply Or.inr; first | rfl | trivial | fail) | fail) | fail)) only [go_sem, if_pos, if_neg, wrapI, wrapU, decide_eq_true, decide_eq_false, beqT, beqF, bneT, bneF, hm, hm2, hm3] <;> rfl); simp only [go_sem]) | ((with_reducible apply ops_skip); rfl; simp only [go_sem]) | ((with_reducible apply c_regionD); kernel_rfl) | ((first | ((with_reducible apply ops_eff); decide) | (with_reducible apply ops_lit)); rfl; (simp (disch := (first | omega | assumption | ((repeat' with_reducible apply And.intro) <;> first | omega | assumption | rfl | (apply Or.inl; rfl) | (apply Or.inr; first | rfl | trivial | fail) | fail) | fail)) only [go_sem, if_pos, if_neg, wrapI, wrapU, decide_eq_true, decide_eq_false, beqT, beqF, bneT, bneF, hm, hm2, hm3] <;> rfl); simp only [go_sem])); (repeat (first | with_reducible (first | refine c_seq ?_ | refine c_block ?_ | refine c_region ?_ | refine c_skip ?_ | refine c_exit ?_ | refine c_ret ?_ | refine then_normal ?_ | refine then_exit ?_ | refine then_ret ?_ | refine block_normal ?_ | refine block_here ?_ | refine block_ret ?_ | refine block_far (by decide) ?_ | refine ops_nil ?_ | refine c_cond_t rfl ?_ | refine c_cond_f rfl ?_) | ((with_reducible apply ops_pure); rfl; (simp (disch := (first | omega | assumption | ((repeat' with_reducible apply And.intro) <;> first | omega | assumption | rfl | (apply Or.inl; rfl) | (apply Or.inr; first | rfl | trivial | fail) | fail) | fail)) only [go_sem, if_pos, if_neg, wrapI, wrapU, decide_eq_true, decide_eq_false, beqT, beqF, bneT, bneF, hm, hm2, hm3] <;> rfl); simp only [go_sem]) | ((with_reducible apply ops_pureF); rfl; (intro _; simp (disch := (first | omega | assumption | ((repeat' with_reducible apply And.intro) <;> first | omega | assumption | rfl | (apply Or.inl; rfl) | (apply Or.inr; first | rfl | trivial | fail) | fail) | fail)) only [go_sem, if_pos, if_neg, wrapI, wrapU, decide_eq_true, decide_eq_false, beqT, beqF, bneT, bneF, hm, hm2, hm3] <;> rfl); simp only [go_sem]) | ((with_reducible apply ops_pureD); kernel_rfl; rfl; (simp (disch := (first | omega | assumption | ((repeat' with_reducible apply And.intro) <;> first | omega | assumption | rfl | (apply Or.inl; rfl) | (apply Or.inr; first | rfl | trivial | fail) | fail) | fail)) only [go_sem, if_pos, if_neg, wrapI, wrapU, decide_eq_true, decide_eq_false, beqT, beqF, bneT, bneF, hm, hm2, hm3] <;> rfl); simp only [go_sem]) | ((with_reducible apply ops_skip); rfl; simp only [go_sem]) | ((with_reducible apply c_regionD); kernel_rfl) | ((first | ((with_reducible apply ops_eff); decide) | (with_reducible apply ops_lit)); rfl; (simp (disch := (first | omega | assumption | ((repeat' with_reducible apply And.intro) <;> first | omega | assumption | rfl | (apply Or.inl; rfl) | (apply Or.inr; first | rfl | trivial | fail) | fail) | fail)) only [go_sem, if_pos, if_neg, wrapI, wrapU, decide_eq_true, decide_eq_false, beqT, beqF, bneT, bneF, hm, hm2, hm3] <;> rfl); simp only [go_sem]))); exact k.get)) : p := h k
theorem lzgoX {p q : Prop} (k : Later q) (h : Later q → p := by (intro k; (first | with_reducible (first | refine c_seq ?_ | refine c_block ?_ | refine c_skip ?_ | refine c_exit ?_ | refine c_ret ?_ | refine then_normal ?_ | refine then_exit ?_ | refine then_ret ?_ | refine block_normal ?_ | refine block_here ?_ | refine block_ret ?_ | refine block_far (by decide) ?_ | refine ops_nil ?_ | refine c_cond_t rfl ?_ | refine c_cond_f rfl ?_) | ((with_reducible apply ops_pure); rfl; (simp (disch := (first | omega | assumption | ((repeat' with_reducible apply And.intro) <;> first | omega | assumption | rfl | (apply Or.inl; rfl) | (apply Or.inr; first | rfl | trivial | fail) | fail) | fail)) only [go_sem, if_pos, if_neg, wrapI, wrapU, decide_eq_true, decide_eq_false, beqT, beqF, bneT, bneF, hm, hm2, hm3] <;> rfl); simp only [go_sem]) | ((with_reducible apply ops_pureF); rfl; (intro _; simp (disch := (first | omega | assumption | ((repeat' with_reducible apply And.intro) <;> first | omega | assumption | rfl | (apply Or.inl; rfl) | (apply Or.inr; first | rfl | trivial | fail) | fail) | fail)) only [go_sem, if_pos, if_neg, wrapI, wrapU, decide_eq_true, decide_eq_false, beqT, beqF, bneT, bneF, hm, hm2, hm3] <;> rfl); simp only [go_sem]) | ((with_reducible apply ops_pureD); kernel_rfl; rfl; (simp (disch := (first | omega | assumption | ((repeat' with_reducible apply And.intro) <;> first | omega | assumption | rfl | (apply Or.inl; rfl) | (apply Or.inr; first | rfl | trivial | fail) | fail) | fail)) only [go_sem, if_pos, if_neg, wrapI, wrapU, decide_eq_true, decide_eq_false, beqT, beqF, bneT, bneF, hm, hm2, hm3] <;> rfl); simp only [go_sem]) | ((with_reducible apply ops_skip); rfl; simp only [go_sem]) | ((with_reducible apply c_regionD); kernel_rfl) | ((first | ((with_reducible apply ops_eff); decide) | (with_reducible apply ops_lit)); rfl; (simp (disch := (first | omega | assumption | ((repeat' with_reducible apply And.intro) <;> first | omega | assumption | rfl | (apply Or.inl; rfl) | (apply Or.inr; first | rfl | trivial | fail) | fail) | fail)) only [go_sem, if_pos, if_neg, wrapI, wrapU, decide_eq_true, decide_eq_false, beqT, beqF, bneT, bneF, hm, hm2, hm3] <;> rfl); simp only [go_sem])); (repeat (first | with_reducible (first | refine c_seq ?_ | refine c_block ?_ | refine c_skip ?_ | refine c_exit ?_ | refine c_ret ?_ | refine then_normal ?_ | refine then_exit ?_ | refine then_ret ?_ | refine block_normal ?_ | refine block_here ?_ | refine block_ret ?_ | refine block_far (by decide) ?_ | refine ops_nil ?_ | refine c_cond_t rfl ?_ | refine c_cond_f rfl ?_) | ((with_reducible apply ops_pure); rfl; (simp (disch := (first | omega | assumption | ((repeat' with_reducible apply And.intro) <;> first | omega | assumption | rfl | (apply Or.inl; rfl) | (apply Or.inr; first | rfl | trivial | fail) | fail) | fail)) only [go_sem, if_pos, if_neg, wrapI, wrapU, decide_eq_true, decide_eq_false, beqT, beqF, bneT, bneF, hm, hm2, hm3] <;> rfl); simp only [go_sem]) | ((with_reducible apply ops_pureF); rfl; (intro _; simp (disch := (first | omega | assumption | ((repeat' with_reducible apply And.intro) <;> first | omega | assumption | rfl | (apply Or.inl; rfl) | (apply Or.inr; first | rfl | trivial | fail) | fail) | fail)) only [go_sem, if_pos, if_neg, wrapI, wrapU, decide_eq_true, decide_eq_false, beqT, beqF, bneT, bneF, hm, hm2, hm3] <;> rfl); simp only [go_sem]) | ((with_reducible apply ops_pureD); kernel_rfl; rfl; (simp (disch := (first | omega | assumption | ((repeat' with_reducible apply And.intro) <;> first | omega | assumption | rfl | (apply Or.inl; rfl) | (apply Or.inr; first | rfl | trivial | fail) | fail) | fail)) only [go_sem, if_pos, if_neg, wrapI, wrapU, decide_eq_true, decide_eq_false, beqT, beqF, bneT, bneF, hm, hm2, hm3] <;> rfl); simp only [go_sem]) | ((with_reducible apply ops_skip); rfl; simp only [go_sem]) | ((with_reducible apply c_regionD); kernel_rfl) | ((first | ((with_reducible apply ops_eff); decide) | (with_reducible apply ops_lit)); rfl; (simp (disch := (first | omega | assumption | ((repeat' with_reducible apply And.intro) <;> first | omega | assumption | rfl | (apply Or.inl; rfl) | (apply Or.inr; first | rfl | trivial | fail) | fail) | fail)) only [go_sem, if_pos, if_neg, wrapI, wrapU, decide_eq_true, decide_eq_false, beqT, beqF, bneT, bneF, hm, hm2, hm3] <;> rfl); simp only [go_sem]))); exact k.get)) : p := h k
theorem lzsv {p : Prop} (h : p := by simp (disch := (first | omega | assumption | ((repeat' with_reducible apply And.intro) <;> first | omega | assumption | rfl | (apply Or.inl; rfl) | (apply Or.inr; first | rfl | trivial | fail) | fail) | fail)) only [go_sem, if_pos, if_neg, wrapI, wrapU, decide_eq_true, decide_eq_false, beqT, beqF, bneT, bneF, hm, hm2, hm3] <;> rfl) : p := h
theorem lzcall {T : Tab} {X : CallP} {n0 lo : Nat} {wt : List Tmp} {draw : Bool} {ops : Array Oper} {Q : St → Prop} {rest : List Oper} {o : Oper} {env : List D} {sto : Sto} {f : FuncId} {args : List D} (k : ∃ r, X f args sto (if draw then sto.length else lo) r sto ∧ EvOps T X n0 lo wt draw ops Q rest (St.put ⟨env, sto⟩ o.dst r)) (hg : guardD ops o env = some true := by rfl) (h : evCallee (opd env) sto o = some (f, args) := by simp (disch := (first | omega | assumption | ((repeat' with_reducible apply And.intro) <;> first | omega | assumption | rfl | (apply Or.inl; rfl) | (apply Or.inr; first | rfl | trivial | fail) | fail) | fail)) only [go_sem, if_pos, if_neg, wrapI, wrapU, decide_eq_true, decide_eq_false, beqT, beqF, bneT, bneF, hm, hm2, hm3] <;> rfl) : EvOps T X n0 lo wt draw ops Q (o :: rest) ⟨env, sto⟩ := k.elim fun _ k => ops_call hg h k.1 k.2
def fillS (c : UInt8) (i : Nat) : By := List.replicate i c ++ List.replicate (64 - i) 0
theorem fillS_len (c : UInt8) {i : Nat} (h : i ≤ 64) : (fillS c i).length = 64 := by simp [fillS]; omega
theorem fillS_succ (c : UInt8) {i : Nat} (h : i < 64) : (u8s (fillS c i)).set i (u8V c) = u8s (fillS c (i + 1)) := by
  rw [u8s, ← List.map_set, fillS, List.set_append_right _ _ (by simp), List.length_replicate, Nat.sub_self, show 64 - i = (64 - (i + 1)) + 1 by omega, List.replicate_succ, List.set_cons_zero, fillS, List.replicate_succ', List.append_assoc]
  rfl
def fullB (c : UInt8) : By := List.replicate 64 c
theorem fillS_end (c : UInt8) : fillS c 64 = fullB c := by simp [fillS, fullB]
attribute [local go_sem] u8V
theorem full_ev (c : UInt8) (sto : Sto) (lo : Nat) (hlo : lo ≤ sto.length) : CD 17 [.v (u8V c)] sto lo (.v (STR (fullB c))) sto := by
  have hm : True := trivial
  have hm2 := hm
  have hm3 := hm
  refine CallEv.intro ⟨_, _, [5], Try.func17, rfl, by decide, ?_⟩; simp only [go_sem, Try.ntmps17]
  (try refine lzgo ⟨?_⟩)
  refine c_loop (fun m s => ∃ (i : Nat), (i ≤ 64 ∧ m = 64 - i) ∧ (s.env.length = 16 ∧ s.sto = sto ++ [.arr (some (5, 1)) true 64 (u8s (fillS c i))] ∧ s.env[0]? = some (.v (u8V c)) ∧ s.env[3]? = some (.arr sto.length 64) ∧ s.env[4]? = some (.v (VI i)))) (.refl _) ⟨0, ⟨by omega, rfl⟩, rfl, rfl, ?_, ?_, ?_⟩ ?_
  all_goals first | rfl | skip
  rintro m s ⟨i, ⟨h1, rfl⟩, hL, hT, k0, k3, k4⟩
  obtain ⟨env, st0⟩ := s; obtain ⟨J, hJ⟩ := listJ hL; rw [show (List.range 16).map J = J 0 :: J 1 :: J 2 :: J 3 :: J 4 :: J 5 :: J 6 :: J 7 :: J 8 :: J 9 :: J 10 :: J 11 :: J 12 :: J 13 :: J 14 :: J 15 :: [] from by kernel_rfl] at hJ; replace k0 := Option.some.inj ((congrArg (·[0]?) hJ).symm.trans k0); replace k3 := Option.some.inj ((congrArg (·[3]?) hJ).symm.trans k3); replace k4 := Option.some.inj ((congrArg (·[4]?) hJ).symm.trans k4); rw [k0, k3, k4] at hJ; dsimp only at hJ hT; subst hJ; replace hT := hT.symm; subst hT; clear hL k0 k3 k4
  have hl := fillS_len c h1
  have hul := u8s_len (fillS c i)
  by_cases hb : i < 64
  · have hs := fillS_succ c hb
    rw [List.set_eq_take_append_cons_drop, if_pos (by rw [hul, hl]; exact hb)] at hs
    (try refine lzgo ⟨?_⟩)
    refine ⟨_, _, ?_, .refl _, i + 1, ⟨by omega, rfl⟩, rfl, ?_, ?_⟩
    · omega
    · rw [← hs]; rfl
    · (repeat' apply And.intro) <;> rfl
  · obtain rfl : i = 64 := by omega
    rw [fillS_end]
    (try refine lzgo ⟨?_⟩)
    refine ⟨by first | exact .inr rfl | exact .inl rfl, .inl ⟨[], _, (by dsimp only [Try.f17]; exact lzsv), ?_, by simp⟩⟩
    rfl
end Go.Proofs.Ytghdanpigohnjaa
