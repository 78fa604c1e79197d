/-
  The reference's disk: Clone. No condition of its own. The law's four disks: their state; same, wherever they lie. No condition of its own.
-/
import Derived.Test.YtghdanpigohnjaaD4
import Derived.Test.YtghdanpigohnjaaD5
namespace Go.Proofs.Ytghdanpigohnjaa
open Go Go.RowKit

attribute [local irreducible] EvOps EvC
attribute [local go_sem] List.getElem?_toArray List.flatten_cons List.flatten_nil List.contains_nil List.append_nil List.nil_append List.length_set Bool.and_self implies_true eq_self Nat.zero_mul Nat.add_zero Nat.zero_add Nat.sub_zero List.take_zero List.drop_zero List.drop_replicate Nat.sub_self List.replicate_zero List.map_nil List.map_append List.length_replicate
attribute [local go_sem] bytesV_bs strV_u8s bs_size u8s_len bs_extract bs_append bs_beq bs_nil bs_nil2
attribute [local go_sem] putD_len putD_b putD_p putD_w putD_d putD_app putD_put putD_get0 putD_get putD_set0 putD_set putD_take putD_takeN putD_setd putD_setw putD_setp getLD setLD
set_option linter.unusedSimpArgs false
set_option linter.unusedVariables false
set_option maxRecDepth 100000
set_option maxHeartbeats 4000000
attribute [local go_sem] take_u8 take_u8v drop_u8v len_u8v viewL_mv eqVs_u8s zsV_Z64 Z64_len Nat.min_self Nat.min_eq_right

attribute [local go_sem] putR_len putR_s putR_d putR_app putR_put putR_get0 putR_get putR_set0 putR_set putR_take putR_takeN putR_setd getLR setLR cellsR

theorem rygoX {p q : Prop} (k : Later q) (h : Later q → p := by (intro k; (first | with_reducible (first | refine c_seq ?_ | refine c_block ?_ | refine c_skip ?_ | refine c_exit ?_ | refine c_ret ?_ | refine then_normal ?_ | refine then_exit ?_ | refine then_ret ?_ | refine block_normal ?_ | refine block_here ?_ | refine block_ret ?_ | refine block_far (by decide) ?_ | refine ops_nil ?_ | refine c_cond_t rfl ?_ | refine c_cond_f rfl ?_) | ((with_reducible apply ops_pure); rfl; (simp (disch := (first | omega | assumption | ((repeat' with_reducible apply And.intro) <;> first | omega | assumption | rfl | (apply Or.inl; rfl) | (apply Or.inr; first | rfl | trivial | fail) | fail) | fail)) only [go_sem, if_pos, if_neg, wrapI, wrapU, decide_eq_true, decide_eq_false, beqT, beqF, bneT, bneF, hm, hm2, hm3, hm4, hm5] <;> rfl); simp only [go_sem]) | ((with_reducible apply ops_pureF); rfl; (intro _; simp (disch := (first | omega | assumption | ((repeat' with_reducible apply And.intro) <;> first | omega | assumption | rfl | (apply Or.inl; rfl) | (apply Or.inr; first | rfl | trivial | fail) | fail) | fail)) only [go_sem, if_pos, if_neg, wrapI, wrapU, decide_eq_true, decide_eq_false, beqT, beqF, bneT, bneF, hm, hm2, hm3, hm4, hm5] <;> rfl); simp only [go_sem]) | ((with_reducible apply ops_pureD); kernel_rfl; rfl; (simp (disch := (first | omega | assumption | ((repeat' with_reducible apply And.intro) <;> first | omega | assumption | rfl | (apply Or.inl; rfl) | (apply Or.inr; first | rfl | trivial | fail) | fail) | fail)) only [go_sem, if_pos, if_neg, wrapI, wrapU, decide_eq_true, decide_eq_false, beqT, beqF, bneT, bneF, hm, hm2, hm3, hm4, hm5] <;> rfl); simp only [go_sem]) | ((with_reducible apply ops_skip); rfl; simp only [go_sem]) | ((with_reducible apply c_regionD); kernel_rfl) | ((first | ((with_reducible apply ops_eff); decide) | (with_reducible apply ops_lit)); rfl; (simp (disch := (first | omega | assumption | ((repeat' with_reducible apply And.intro) <;> first | omega | assumption | rfl | (apply Or.inl; rfl) | (apply Or.inr; first | rfl | trivial | fail) | fail) | fail)) only [go_sem, if_pos, if_neg, wrapI, wrapU, decide_eq_true, decide_eq_false, beqT, beqF, bneT, bneF, hm, hm2, hm3, hm4, hm5] <;> rfl); simp only [go_sem])); (repeat (first | with_reducible (first | refine c_seq ?_ | refine c_block ?_ | refine c_skip ?_ | refine c_exit ?_ | refine c_ret ?_ | refine then_normal ?_ | refine then_exit ?_ | refine then_ret ?_ | refine block_normal ?_ | refine block_here ?_ | refine block_ret ?_ | refine block_far (by decide) ?_ | refine ops_nil ?_ | refine c_cond_t rfl ?_ | refine c_cond_f rfl ?_) | ((with_reducible apply ops_pure); rfl; (simp (disch := (first | omega | assumption | ((repeat' with_reducible apply And.intro) <;> first | omega | assumption | rfl | (apply Or.inl; rfl) | (apply Or.inr; first | rfl | trivial | fail) | fail) | fail)) only [go_sem, if_pos, if_neg, wrapI, wrapU, decide_eq_true, decide_eq_false, beqT, beqF, bneT, bneF, hm, hm2, hm3, hm4, hm5] <;> rfl); simp only [go_sem]) | ((with_reducible apply ops_pureF); rfl; (intro _; simp (disch := (first | omega | assumption | ((repeat' with_reducible apply And.intro) <;> first | omega | assumption | rfl | (apply Or.inl; rfl) | (apply Or.inr; first | rfl | trivial | fail) | fail) | fail)) only [go_sem, if_pos, if_neg, wrapI, wrapU, decide_eq_true, decide_eq_false, beqT, beqF, bneT, bneF, hm, hm2, hm3, hm4, hm5] <;> rfl); simp only [go_sem]) | ((with_reducible apply ops_pureD); kernel_rfl; rfl; (simp (disch := (first | omega | assumption | ((repeat' with_reducible apply And.intro) <;> first | omega | assumption | rfl | (apply Or.inl; rfl) | (apply Or.inr; first | rfl | trivial | fail) | fail) | fail)) only [go_sem, if_pos, if_neg, wrapI, wrapU, decide_eq_true, decide_eq_false, beqT, beqF, bneT, bneF, hm, hm2, hm3, hm4, hm5] <;> rfl); simp only [go_sem]) | ((with_reducible apply ops_skip); rfl; simp only [go_sem]) | ((with_reducible apply c_regionD); kernel_rfl) | ((first | ((with_reducible apply ops_eff); decide) | (with_reducible apply ops_lit)); rfl; (simp (disch := (first | omega | assumption | ((repeat' with_reducible apply And.intro) <;> first | omega | assumption | rfl | (apply Or.inl; rfl) | (apply Or.inr; first | rfl | trivial | fail) | fail) | fail)) only [go_sem, if_pos, if_neg, wrapI, wrapU, decide_eq_true, decide_eq_false, beqT, beqF, bneT, bneF, hm, hm2, hm3, hm4, hm5] <;> rfl); simp only [go_sem]))); exact k.get)) : p := h k
theorem rysv {p : Prop} (h : p := by simp (disch := (first | omega | assumption | ((repeat' with_reducible apply And.intro) <;> first | omega | assumption | rfl | (apply Or.inl; rfl) | (apply Or.inr; first | rfl | trivial | fail) | fail) | fail)) only [go_sem, if_pos, if_neg, wrapI, wrapU, decide_eq_true, decide_eq_false, beqT, beqF, bneT, bneF, hm, hm2, hm3, hm4, hm5] <;> rfl) : p := h
theorem rycall {T : Tab} {X : CallP} {n0 lo : Nat} {wt : List Tmp} {draw : Bool} {ops : Array Oper} {Q : St → Prop} {rest : List Oper} {o : Oper} {env : List D} {sto : Sto} {f : FuncId} {args : List D} (k : ∃ r, X f args sto (if draw then sto.length else lo) r sto ∧ EvOps T X n0 lo wt draw ops Q rest (St.put ⟨env, sto⟩ o.dst r)) (hg : guardD ops o env = some true := by rfl) (h : evCallee (opd env) sto o = some (f, args) := by simp (disch := (first | omega | assumption | ((repeat' with_reducible apply And.intro) <;> first | omega | assumption | rfl | (apply Or.inl; rfl) | (apply Or.inr; first | rfl | trivial | fail) | fail) | fail)) only [go_sem, if_pos, if_neg, wrapI, wrapU, decide_eq_true, decide_eq_false, beqT, beqF, bneT, bneF, hm, hm2, hm3, hm4, hm5] <;> rfl) : EvOps T X n0 lo wt draw ops Q (o :: rest) ⟨env, sto⟩ := k.elim fun _ k => ops_call hg h k.1 k.2
def newRC (n : Nat) (R : RK) : Sto := [eS R, eR n R]
theorem rclone_ev (R : RK) (hR : R.ok) (q a : Nat) (hqa : q ≠ a) (sto : Sto) (lo : Nat) (hq : q < sto.length) (ha : a < sto.length) (hlo : lo ≤ sto.length) : CD 26 [.ptr q 0] (putR sto q a R) lo (.ptr (sto.length + 1) 0) (putR sto q a R ++ newRC sto.length R) := by
  have hfl := flatR_len R.s
  have hn : R.s.length ≤ 4096 := hR.2.1
  have hn0 : 0 < R.s.length := hR.2.2.1
  have hn1 : ¬ R.s.length = 0 := by omega
  clear hR
  have hm : True := trivial
  have hm2 := hm
  have hm3 := hm
  have hm4 := hm
  have hm5 := hm
  refine CallEv.intro ⟨_, _, [999999, 999998, 8], Try.func26, rfl, by decide, ?_⟩; simp only [go_sem, Try.ntmps26]
  repeat (first | with_reducible (first | refine c_seq ?_ | refine c_block ?_ | refine c_region ?_ | refine c_skip ?_ | refine c_exit ?_ | refine c_ret ?_ | refine then_normal ?_ | refine then_exit ?_ | refine then_ret ?_ | refine block_normal ?_ | refine block_here ?_ | refine block_ret ?_ | refine block_far (by decide) ?_ | refine ops_nil ?_ | refine c_cond_t rfl ?_ | refine c_cond_f rfl ?_) | ((with_reducible apply ops_pure); rfl; (simp (disch := (first | omega | assumption | ((repeat' with_reducible apply And.intro) <;> first | omega | assumption | rfl | (apply Or.inl; rfl) | (apply Or.inr; first | rfl | trivial | fail) | fail) | fail)) only [go_sem, if_pos, if_neg, wrapI, wrapU, decide_eq_true, decide_eq_false, beqT, beqF, bneT, bneF, hm, hm2, hm3, hm4, hm5] <;> rfl); simp only [go_sem]) | ((with_reducible apply c_regionD); kernel_rfl) | ((with_reducible apply ops_pureO); kernel_rfl; rfl; (intro s hs; have hsa := hs a ha; have hsq := hs q hq; clear hs; (simp (disch := (first | omega | assumption | ((repeat' with_reducible apply And.intro) <;> first | omega | assumption | rfl | (apply Or.inl; rfl) | (apply Or.inr; first | rfl | trivial | fail) | fail) | fail)) only [go_sem, if_pos, if_neg, hsa, hsq, hm, hm2, hm3, hm4, hm5]) <;> rfl); simp only [go_sem]) | ((with_reducible apply ops_effO); decide; rfl; (simp (disch := (first | omega | assumption | ((repeat' with_reducible apply And.intro) <;> first | omega | assumption | rfl | (apply Or.inl; rfl) | (apply Or.inr; first | rfl | trivial | fail) | fail) | fail)) only [go_sem, if_pos, if_neg, wrapI, wrapU, decide_eq_true, decide_eq_false, beqT, beqF, bneT, bneF, hm, hm2, hm3, hm4, hm5] <;> rfl); (intro i hi; (try simp only [List.append_assoc]); (try rw [List.getElem?_append_left (by rw [putR_len]; exact hi)]); (try rw [List.getElem?_append_left (by rw [putR_len]; exact hi)])); simp only [go_sem]))
  refine ⟨by first | exact .inr rfl | exact .inl rfl, .inr (.inl ⟨_, rfl, ?_, ?_⟩)⟩
  · rfl
  · rfl
end Go.Proofs.Ytghdanpigohnjaa
namespace Go.Proofs.Ytghdanpigohnjaa
open Go Go.RowKit

attribute [local irreducible] EvOps EvC
attribute [local go_sem] List.getElem?_toArray List.flatten_cons List.flatten_nil List.contains_nil List.append_nil List.nil_append List.length_set Bool.and_self implies_true eq_self Nat.zero_mul Nat.add_zero Nat.zero_add Nat.sub_zero List.take_zero List.drop_zero List.drop_replicate Nat.sub_self List.replicate_zero List.map_nil List.map_append List.length_replicate
attribute [local go_sem] bytesV_bs strV_u8s bs_size u8s_len bs_extract bs_append bs_beq bs_nil bs_nil2
attribute [local go_sem] putD_len putD_b putD_p putD_w putD_d putD_app putD_put putD_get0 putD_get putD_set0 putD_set putD_take putD_takeN putD_setd putD_setw putD_setp getLD setLD
set_option linter.unusedSimpArgs false
set_option linter.unusedVariables false
set_option maxRecDepth 100000
set_option maxHeartbeats 4000000
attribute [local go_sem] take_u8 take_u8v drop_u8v len_u8v viewL_mv eqVs_u8s zsV_Z64 Z64_len Nat.min_self Nat.min_eq_right

theorem lggo {p q : Prop} (k : Later q) (h : Later q → p := by (intro k; (first | with_reducible (first | refine c_seq ?_ | refine c_block ?_ | refine c_region ?_ | refine c_skip ?_ | refine c_exit ?_ | refine c_ret ?_ | refine then_normal ?_ | refine then_exit ?_ | refine then_ret ?_ | refine block_normal ?_ | refine block_here ?_ | refine block_ret ?_ | refine block_far (by decide) ?_ | refine ops_nil ?_ | refine c_cond_t rfl ?_ | refine c_cond_f rfl ?_) | ((with_reducible apply ops_pure); rfl; (simp (disch := (first | omega | assumption | ((repeat' with_reducible apply And.intro) <;> first | omega | assumption | rfl | (apply Or.inl; rfl) | (apply Or.inr; first | rfl | trivial | fail) | fail) | fail)) only [go_sem, if_pos, if_neg, wrapI, wrapU, decide_eq_true, decide_eq_false, beqT, beqF, bneT, bneF, hm, hm2, hm3] <;> rfl); simp only [go_sem]) | ((with_reducible apply ops_pureF); rfl; (intro _; simp (disch := (first | omega | assumption | ((repeat' with_reducible apply And.intro) <;> first | omega | assumption | rfl | (apply Or.inl; rfl) | (apply Or.inr; first | rfl | trivial | fail) | fail) | fail)) only [go_sem, if_pos, if_neg, wrapI, wrapU, decide_eq_true, decide_eq_false, beqT, beqF, bneT, bneF, hm, hm2, hm3] <;> rfl); simp only [go_sem]) | ((with_reducible apply ops_pureD); kernel_rfl; rfl; (simp (disch := (first | omega | assumption | ((repeat' with_reducible apply And.intro) <;> first | omega | assumption | rfl | (apply Or.inl; rfl) | (apply Or.inr; first | rfl | trivial | fail) | fail) | fail)) only [go_sem, if_pos, if_neg, wrapI, wrapU, decide_eq_true, decide_eq_false, beqT, beqF, bneT, bneF, hm, hm2, hm3] <;> rfl); simp only [go_sem]) | ((with_reducible apply ops_skip); rfl; simp only [go_sem]) | ((with_reducible apply c_regionD); kernel_rfl) | ((first | ((with_reducible apply ops_eff); decide) | (with_reducible apply ops_lit)); rfl; (simp (disch := (first | omega | assumption | ((repeat' with_reducible apply And.intro) <;> first | omega | assumption | rfl | (apply Or.inl; rfl) | (apply Or.inr; first | rfl | trivial | fail) | fail) | fail)) only [go_sem, if_pos, if_neg, wrapI, wrapU, decide_eq_true, decide_eq_false, beqT, beqF, bneT, bneF, hm, hm2, hm3] <;> rfl); simp only [go_sem])); (repeat (first | with_reducible (first | refine c_seq ?_ | refine c_block ?_ | refine c_region ?_ | refine c_skip ?_ | refine c_exit ?_ | refine c_ret ?_ | refine then_normal ?_ | refine then_exit ?_ | refine then_ret ?_ | refine block_normal ?_ | refine block_here ?_ | refine block_ret ?_ | refine block_far (by decide) ?_ | refine ops_nil ?_ | refine c_cond_t rfl ?_ | refine c_cond_f rfl ?_) | ((with_reducible apply ops_pure); rfl; (simp (disch := (first | omega | assumption | ((repeat' with_reducible apply And.intro) <;> first | omega | assumption | rfl | (apply Or.inl; rfl) | (apply Or.inr; first | rfl | trivial | fail) | fail) | fail)) only [go_sem, if_pos, if_neg, wrapI, wrapU, decide_eq_true, decide_eq_false, beqT, beqF, bneT, bneF, hm, hm2, hm3] <;> rfl); simp only [go_sem]) | ((with_reducible apply ops_pureF); rfl; (intro _; simp (disch := (first | omega | assumption | ((repeat' with_reducible apply And.intro) <;> first | omega | assumption | rfl | (apply Or.inl; rfl) | (apply Or.inr; first | rfl | trivial | fail) | fail) | fail)) only [go_sem, if_pos, if_neg, wrapI, wrapU, decide_eq_true, decide_eq_false, beqT, beqF, bneT, bneF, hm, hm2, hm3] <;> rfl); simp only [go_sem]) | ((with_reducible apply ops_pureD); kernel_rfl; rfl; (simp (disch := (first | omega | assumption | ((repeat' with_reducible apply And.intro) <;> first | omega | assumption | rfl | (apply Or.inl; rfl) | (apply Or.inr; first | rfl | trivial | fail) | fail) | fail)) only [go_sem, if_pos, if_neg, wrapI, wrapU, decide_eq_true, decide_eq_false, beqT, beqF, bneT, bneF, hm, hm2, hm3] <;> rfl); simp only [go_sem]) | ((with_reducible apply ops_skip); rfl; simp only [go_sem]) | ((with_reducible apply c_regionD); kernel_rfl) | ((first | ((with_reducible apply ops_eff); decide) | (with_reducible apply ops_lit)); rfl; (simp (disch := (first | omega | assumption | ((repeat' with_reducible apply And.intro) <;> first | omega | assumption | rfl | (apply Or.inl; rfl) | (apply Or.inr; first | rfl | trivial | fail) | fail) | fail)) only [go_sem, if_pos, if_neg, wrapI, wrapU, decide_eq_true, decide_eq_false, beqT, beqF, bneT, bneF, hm, hm2, hm3] <;> rfl); simp only [go_sem]))); exact k.get)) : p := h k
theorem lggoX {p q : Prop} (k : Later q) (h : Later q → p := by (intro k; (first | with_reducible (first | refine c_seq ?_ | refine c_block ?_ | refine c_skip ?_ | refine c_exit ?_ | refine c_ret ?_ | refine then_normal ?_ | refine then_exit ?_ | refine then_ret ?_ | refine block_normal ?_ | refine block_here ?_ | refine block_ret ?_ | refine block_far (by decide) ?_ | refine ops_nil ?_ | refine c_cond_t rfl ?_ | refine c_cond_f rfl ?_) | ((with_reducible apply ops_pure); rfl; (simp (disch := (first | omega | assumption | ((repeat' with_reducible apply And.intro) <;> first | omega | assumption | rfl | (apply Or.inl; rfl) | (apply Or.inr; first | rfl | trivial | fail) | fail) | fail)) only [go_sem, if_pos, if_neg, wrapI, wrapU, decide_eq_true, decide_eq_false, beqT, beqF, bneT, bneF, hm, hm2, hm3] <;> rfl); simp only [go_sem]) | ((with_reducible apply ops_pureF); rfl; (intro _; simp (disch := (first | omega | assumption | ((repeat' with_reducible apply And.intro) <;> first | omega | assumption | rfl | (apply Or.inl; rfl) | (apply Or.inr; first | rfl | trivial | fail) | fail) | fail)) only [go_sem, if_pos, if_neg, wrapI, wrapU, decide_eq_true, decide_eq_false, beqT, beqF, bneT, bneF, hm, hm2, hm3] <;> rfl); simp only [go_sem]) | ((with_reducible apply ops_pureD); kernel_rfl; rfl; (simp (disch := (first | omega | assumption | ((repeat' with_reducible apply And.intro) <;> first | omega | assumption | rfl | (apply Or.inl; rfl) | (apply Or.inr; first | rfl | trivial | fail) | fail) | fail)) only [go_sem, if_pos, if_neg, wrapI, wrapU, decide_eq_true, decide_eq_false, beqT, beqF, bneT, bneF, hm, hm2, hm3] <;> rfl); simp only [go_sem]) | ((with_reducible apply ops_skip); rfl; simp only [go_sem]) | ((with_reducible apply c_regionD); kernel_rfl) | ((first | ((with_reducible apply ops_eff); decide) | (with_reducible apply ops_lit)); rfl; (simp (disch := (first | omega | assumption | ((repeat' with_reducible apply And.intro) <;> first | omega | assumption | rfl | (apply Or.inl; rfl) | (apply Or.inr; first | rfl | trivial | fail) | fail) | fail)) only [go_sem, if_pos, if_neg, wrapI, wrapU, decide_eq_true, decide_eq_false, beqT, beqF, bneT, bneF, hm, hm2, hm3] <;> rfl); simp only [go_sem])); (repeat (first | with_reducible (first | refine c_seq ?_ | refine c_block ?_ | refine c_skip ?_ | refine c_exit ?_ | refine c_ret ?_ | refine then_normal ?_ | refine then_exit ?_ | refine then_ret ?_ | refine block_normal ?_ | refine block_here ?_ | refine block_ret ?_ | refine block_far (by decide) ?_ | refine ops_nil ?_ | refine c_cond_t rfl ?_ | refine c_cond_f rfl ?_) | ((with_reducible apply ops_pure); rfl; (simp (disch := (first | omega | assumption | ((repeat' with_reducible apply And.intro) <;> first | omega | assumption | rfl | (apply Or.inl; rfl) | (apply Or.inr; first | rfl | trivial | fail) | fail) | fail)) only [go_sem, if_pos, if_neg, wrapI, wrapU, decide_eq_true, decide_eq_false, beqT, beqF, bneT, bneF, hm, hm2, hm3] <;> rfl); simp only [go_sem]) | ((with_reducible apply ops_pureF); rfl; (intro _; simp (disch := (first | omega | assumption | ((repeat' with_reducible apply And.intro) <;> first | omega | assumption | rfl | (apply Or.inl; rfl) | (apply Or.inr; first | rfl | trivial | fail) | fail) | fail)) only [go_sem, if_pos, if_neg, wrapI, wrapU, decide_eq_true, decide_eq_false, beqT, beqF, bneT, bneF, hm, hm2, hm3] <;> rfl); simp only [go_sem]) | ((with_reducible apply ops_pureD); kernel_rfl; rfl; (simp (disch := (first | omega | assumption | ((repeat' with_reducible apply And.intro) <;> first | omega | assumption | rfl | (apply Or.inl; rfl) | (apply Or.inr; first | rfl | trivial | fail) | fail) | fail)) only [go_sem, if_pos, if_neg, wrapI, wrapU, decide_eq_true, decide_eq_false, beqT, beqF, bneT, bneF, hm, hm2, hm3] <;> rfl); simp only [go_sem]) | ((with_reducible apply ops_skip); rfl; simp only [go_sem]) | ((with_reducible apply c_regionD); kernel_rfl) | ((first | ((with_reducible apply ops_eff); decide) | (with_reducible apply ops_lit)); rfl; (simp (disch := (first | omega | assumption | ((repeat' with_reducible apply And.intro) <;> first | omega | assumption | rfl | (apply Or.inl; rfl) | (apply Or.inr; first | rfl | trivial | fail) | fail) | fail)) only [go_sem, if_pos, if_neg, wrapI, wrapU, decide_eq_true, decide_eq_false, beqT, beqF, bneT, bneF, hm, hm2, hm3] <;> rfl); simp only [go_sem]))); exact k.get)) : p := h k
theorem lgsv {p : Prop} (h : p := by simp (disch := (first | omega | assumption | ((repeat' with_reducible apply And.intro) <;> first | omega | assumption | rfl | (apply Or.inl; rfl) | (apply Or.inr; first | rfl | trivial | fail) | fail) | fail)) only [go_sem, if_pos, if_neg, wrapI, wrapU, decide_eq_true, decide_eq_false, beqT, beqF, bneT, bneF, hm, hm2, hm3] <;> rfl) : p := h
theorem lgcall {T : Tab} {X : CallP} {n0 lo : Nat} {wt : List Tmp} {draw : Bool} {ops : Array Oper} {Q : St → Prop} {rest : List Oper} {o : Oper} {env : List D} {sto : Sto} {f : FuncId} {args : List D} (k : ∃ r, X f args sto (if draw then sto.length else lo) r sto ∧ EvOps T X n0 lo wt draw ops Q rest (St.put ⟨env, sto⟩ o.dst r)) (hg : guardD ops o env = some true := by rfl) (h : evCallee (opd env) sto o = some (f, args) := by simp (disch := (first | omega | assumption | ((repeat' with_reducible apply And.intro) <;> first | omega | assumption | rfl | (apply Or.inl; rfl) | (apply Or.inr; first | rfl | trivial | fail) | fail) | fail)) only [go_sem, if_pos, if_neg, wrapI, wrapU, decide_eq_true, decide_eq_false, beqT, beqF, bneT, bneF, hm, hm2, hm3] <;> rfl) : EvOps T X n0 lo wt draw ops Q (o :: rest) ⟨env, sto⟩ := k.elim fun _ k => ops_call hg h k.1 k.2
@[irreducible] def st4 (sto : Sto) (D : DK) (R : RK) (C : DK) (S : RK) : Sto := sto ++ (newE sto.length D ++ newRE (sto.length + 4) R ++ newE (sto.length + 6) C ++ newRC (sto.length + 10) S)
section
variable {sto : Sto} {D C : DK} {R S : RK}
theorem st4_len : (st4 sto D R C S).length = sto.length + 12 := by unfold st4; simp [newE, newRE, newRC]
theorem st4_lt {i : Nat} (h : i < sto.length) : (st4 sto D R C S)[i]? = sto[i]? := by
  unfold st4
  rw [List.getElem?_append_left h]
theorem st4_take : (st4 sto D R C S).take sto.length = sto := by
  unfold st4
  rw [List.take_left]
theorem st4_at (j : Nat) : (st4 sto D R C S)[sto.length + j]? = (newE sto.length D ++ newRE (sto.length + 4) R ++ newE (sto.length + 6) C ++ newRC (sto.length + 10) S)[j]? := by
  unfold st4
  rw [List.getElem?_append_right (by omega), Nat.add_sub_cancel_left]
theorem st4_d : DiskAt (st4 sto D R C S) sto.length D := ⟨st4_at 0, st4_at 1, st4_at 2, st4_at 3⟩
theorem st4_r : RefAt (st4 sto D R C S) (sto.length + 4) (sto.length + 5) R := ⟨st4_at 5, st4_at 4⟩
theorem st4_c : DiskAt (st4 sto D R C S) (sto.length + 6) C := ⟨st4_at 6, st4_at 7, st4_at 8, st4_at 9⟩
theorem st4_s : RefAt (st4 sto D R C S) (sto.length + 11) (sto.length + 10) S := ⟨st4_at 10, st4_at 11⟩
theorem st4_putd {E : DK} : putD (st4 sto D R C S) sto.length E = st4 sto E R C S := by
  refine (putD_eq (by rw [st4_len, st4_len]) st4_d fun i hi => ?_).symm
  by_cases h : i < sto.length
  · rw [st4_lt h, st4_lt h]
  · obtain ⟨j, rfl⟩ : ∃ j, i = sto.length + (j + 4) := ⟨i - sto.length - 4, by omega⟩
    rw [st4_at, st4_at]
    rfl
theorem st4_putc {E : DK} : putD (st4 sto D R C S) (sto.length + 6) E = st4 sto D R E S := by
  refine (putD_eq (by rw [st4_len, st4_len]) st4_c fun i hi => ?_).symm
  by_cases h : i < sto.length
  · rw [st4_lt h, st4_lt h]
  · obtain ⟨j, rfl⟩ : ∃ j, i = sto.length + j := ⟨i - sto.length, by omega⟩
    rw [st4_at, st4_at]
    match j with
    | 0 | 1 | 2 | 3 | 4 | 5 => rfl
    | 6 | 7 | 8 | 9 => omega
    | j + 10 => rfl
theorem st4_putr {E : RK} : putR (st4 sto D R C S) (sto.length + 4) (sto.length + 5) E = st4 sto D E C S := by
  refine (putR_eq (by omega) (by rw [st4_len, st4_len]) st4_r fun i h1 h2 => ?_).symm
  by_cases h : i < sto.length
  · rw [st4_lt h, st4_lt h]
  · obtain ⟨j, rfl⟩ : ∃ j, i = sto.length + j := ⟨i - sto.length, by omega⟩
    rw [st4_at, st4_at]
    match j with
    | 0 | 1 | 2 | 3 => rfl
    | 4 => exact absurd rfl h1
    | 5 => exact absurd rfl h2
    | j + 6 => rfl
theorem st4_puts {E : RK} : putR (st4 sto D R C S) (sto.length + 11) (sto.length + 10) E = st4 sto D R C E := by
  refine (putR_eq (by omega) (by rw [st4_len, st4_len]) st4_s fun i h1 h2 => ?_).symm
  by_cases h : i < sto.length
  · rw [st4_lt h, st4_lt h]
  · obtain ⟨j, rfl⟩ : ∃ j, i = sto.length + j := ⟨i - sto.length, by omega⟩
    rw [st4_at, st4_at]
    match j with
    | 0 | 1 | 2 | 3 | 4 | 5 | 6 | 7 | 8 | 9 => rfl
    | 10 => exact absurd rfl h2
    | 11 => exact absurd rfl h1
    | j + 12 => rfl
theorem ho_st4 {lo : Nat} {D' C' : DK} {R' S' : RK} : ∀ i ds, lo ≤ i → i < sto.length → (st4 sto D' R' C' S')[i]? = some (.cells ds) → (st4 sto D R C S)[i]? = some (.cells ds) ∨ scopedL sto.length ds = true := by
  intro i ds _ h1 h2
  rw [st4_lt h1] at h2 ⊢
  exact .inl h2
theorem ho_st24 {lo : Nat} {l : Sto} : ∀ i ds, lo ≤ i → i < sto.length → (st2 sto D R ++ l)[i]? = some (.cells ds) → (st2 sto D R)[i]? = some (.cells ds) ∨ scopedL sto.length ds = true := by
  intro i ds _ h1 h2
  rw [List.getElem?_append_left (by rw [st2_len]; omega)] at h2
  exact .inl h2
theorem ho_st34 {lo : Nat} {l : Sto} : ∀ i ds, lo ≤ i → i < sto.length → (st4 sto D R C S)[i]? = some (.cells ds) → (st2 sto D R ++ l)[i]? = some (.cells ds) ∨ scopedL sto.length ds = true := by
  intro i ds _ h1 h2
  rw [st4_lt h1] at h2
  rw [List.getElem?_append_left (by rw [st2_len]; omega), st2_lt h1]
  exact .inl h2
theorem clone_s2 (hD : D.ok) {lo : Nat} (hlo : lo ≤ sto.length) : CD 25 [.ptr (sto.length + 3) 0] (st2 sto D R) lo (.ptr (sto.length + 9) 0) (st2 sto D R ++ newE (sto.length + 6) D) := by
  have := clone_ev D hD sto.length (st2 sto D R) lo (by rw [st2_len]; omega) (by rw [st2_len]; omega)
  rw [putD_same st2_disk, st2_len] at this
  exact this
theorem st3_st4 : st2 sto D R ++ newE (sto.length + 6) D ++ newRC (sto.length + 10) R = st4 sto D R D R := by
  unfold st2 st4
  simp only [List.append_assoc]
theorem rclone_s3 (hR : R.ok) {lo : Nat} (hlo : lo ≤ sto.length) : CD 26 [.ptr (sto.length + 4) 0] (st2 sto D R ++ newE (sto.length + 6) D) lo (.ptr (sto.length + 11) 0) (st4 sto D R D R) := by
  have hl : (st2 sto D R ++ newE (sto.length + 6) D).length = sto.length + 10 := by simp [st2_len, newE]
  have hat : RefAt (st2 sto D R ++ newE (sto.length + 6) D) (sto.length + 4) (sto.length + 5) R := by
    obtain ⟨h1, h2⟩ := st2_ref (sto := sto) (D := D) (R := R)
    exact ⟨by rw [List.getElem?_append_left (by rw [st2_len]; omega)]; exact h1, by rw [List.getElem?_append_left (by rw [st2_len]; omega)]; exact h2⟩
  have := rclone_ev R hR (sto.length + 4) (sto.length + 5) (by omega) (st2 sto D R ++ newE (sto.length + 6) D) lo (by omega) (by omega) (by omega)
  rw [putR_same (by omega) hat, hl, st3_st4] at this
  exact this
end
theorem same_at (D : DK) (R : RK) (h : Rel D R) (k q a : Nat) (hqa : q ≠ a) (s : Sto) (hd : DiskAt s k D) (hr : RefAt s q a R) (lo : Nat) (hlo : lo ≤ s.length) : CD 12 [.ptr (k + 3) 0, .ptr q 0] s lo (.v (.bool true)) s := by
  have hm : True := trivial
  have hm2 := hm
  have hm3 := hm
  have e1 := rel_img h
  have e2 := rel_pend h
  have e3 := rel_worn h
  have e4 := h.len
  have e5 := h.off
  have c1 := image_ev D h.dok k
  have c2 := rimage_ev R h.rok _ _ hqa
  have c3 := pending_ev D h.dok k
  have c4 := rpending_ev R h.rok _ _ hqa
  have c5 := worn_ev D h.dok k
  have c6 := rworn_ev R h.rok _ _ hqa
  have c7 := len_ev D k
  have c8 := rlen_ev R _ _ hqa
  have c9 := up_ev D k
  have c10 := rup_ev R _ _ hqa
  have b1 : D.bl.length ≤ 4096 := h.dok.2.2.2.2.2.1
  have b2 : (pendS D).length ≤ 4096 := pend_len h.dok
  have b3 : (wornS D).length ≤ 4096 := by rw [wornS, List.length_mergeSort]; exact wn_len h.dok
  rw [← e1] at c2
  rw [← e2] at c4
  rw [← e3] at c6
  rw [← e4] at c8
  rw [← e5] at c10
  have s1 := fun (st : Sto) (l2 : Nat) (hl : l2 ≤ st.length) => sameTexts_ev D.bl D.bl (by omega) (by omega) st l2 hl
  have s2 := fun (st : Sto) (l2 : Nat) (hl : l2 ≤ st.length) => rsameInts_ev (pendS D) (pendS D) (by omega) (by omega) st l2 hl
  have s3 := fun (st : Sto) (l2 : Nat) (hl : l2 ≤ st.length) => rsameInts_ev (wornS D) (wornS D) (by omega) (by omega) st l2 hl
  rw [decide_eq_true rfl] at s1 s2 s3
  clear e1 e2 e3 e4 e5
  refine CallEv.intro ⟨_, _, [], Try.func12, rfl, by decide, ?_⟩; simp only [go_sem, Try.ntmps12]
  (try refine lggo ⟨?_⟩)
  ((refine lgcall ?_); (refine ⟨_, DiskR.here c1 hd (by simp only [Bool.false_eq_true, if_false]; exact hlo), ?_⟩); (try simp only [go_sem]))
  (try refine lggo ⟨?_⟩)
  ((refine lgcall ?_); (refine ⟨_, RefR.here c2 hqa hr (by simp only [Bool.false_eq_true, if_false]; exact hlo), ?_⟩); (try simp only [go_sem]))
  (try refine lggo ⟨?_⟩)
  ((refine lgcall ?_); (refine ⟨_, s1 _ _ hlo, ?_⟩); (try simp only [go_sem]))
  (try refine lggo ⟨?_⟩)
  ((refine lgcall ?_); (refine ⟨_, DiskR.here c3 hd (by simp only [Bool.false_eq_true, if_false]; exact hlo), ?_⟩); (try simp only [go_sem]))
  (try refine lggo ⟨?_⟩)
  ((refine lgcall ?_); (refine ⟨_, RefR.here c4 hqa hr (by simp only [Bool.false_eq_true, if_false]; exact hlo), ?_⟩); (try simp only [go_sem]))
  (try refine lggo ⟨?_⟩)
  ((refine lgcall ?_); (refine ⟨_, s2 _ _ hlo, ?_⟩); (try simp only [go_sem]))
  (try refine lggo ⟨?_⟩)
  ((refine lgcall ?_); (refine ⟨_, DiskR.here c5 hd (by simp only [Bool.false_eq_true, if_false]; exact hlo), ?_⟩); (try simp only [go_sem]))
  (try refine lggo ⟨?_⟩)
  ((refine lgcall ?_); (refine ⟨_, RefR.here c6 hqa hr (by simp only [Bool.false_eq_true, if_false]; exact hlo), ?_⟩); (try simp only [go_sem]))
  (try refine lggo ⟨?_⟩)
  ((refine lgcall ?_); (refine ⟨_, s3 _ _ hlo, ?_⟩); (try simp only [go_sem]))
  (try refine lggo ⟨?_⟩)
  ((refine lgcall ?_); (refine ⟨_, DiskR.here c7 hd (by simp only [Bool.false_eq_true, if_false]; exact hlo), ?_⟩); (try simp only [go_sem]))
  (try refine lggo ⟨?_⟩)
  ((refine lgcall ?_); (refine ⟨_, RefR.here c8 hqa hr (by simp only [Bool.false_eq_true, if_false]; exact hlo), ?_⟩); (try simp only [go_sem]))
  (try refine lggo ⟨?_⟩)
  ((refine lgcall ?_); (refine ⟨_, DiskR.here c9 hd (by simp only [Bool.false_eq_true, if_false]; exact hlo), ?_⟩); (try simp only [go_sem]))
  (try refine lggo ⟨?_⟩)
  ((refine lgcall ?_); (refine ⟨_, RefR.here c10 hqa hr (by simp only [Bool.false_eq_true, if_false]; exact hlo), ?_⟩); (try simp only [go_sem]))
  (try refine lggo ⟨?_⟩)
  refine ⟨by first | exact .inr rfl | exact .inl rfl, .inl ⟨[], _, (by dsimp only [Try.f12]; exact lgsv), ?_, ?_⟩⟩
  · cases D.off <;> rfl
  · exact List.take_of_length_le (Nat.le_refl _)
end Go.Proofs.Ytghdanpigohnjaa
