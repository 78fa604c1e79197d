/-
  DiskRefusesSizes' walk. No condition of its own. DiskRefusesSizes: whatever the input, it returns true.
-/
import Derived.Test.YtghdanpigohnjaaD5
import Derived.Test.YtghdanpigohnjaaD0
namespace Go.Proofs.Ytghdanpigohnjaa
open Go Go.RowKit

attribute [local irreducible] EvOps EvC
attribute [local go_sem] List.getElem?_toArray List.flatten_cons List.flatten_nil List.contains_nil List.append_nil List.nil_append List.length_set Bool.and_self implies_true eq_self Nat.zero_mul Nat.add_zero Nat.zero_add Nat.sub_zero List.take_zero List.drop_zero List.drop_replicate Nat.sub_self List.replicate_zero List.map_nil List.map_append List.length_replicate
attribute [local go_sem] bytesV_bs strV_u8s bs_size u8s_len bs_extract bs_append bs_beq bs_nil bs_nil2
attribute [local go_sem] putD_len putD_b putD_p putD_w putD_d putD_app putD_put putD_get0 putD_get putD_set0 putD_set putD_take putD_takeN putD_setd putD_setw putD_setp getLD setLD
set_option linter.unusedSimpArgs false
set_option linter.unusedVariables false
set_option maxRecDepth 100000
set_option maxHeartbeats 4000000
attribute [local go_sem] take_u8 take_u8v drop_u8v len_u8v viewL_mv eqVs_u8s zsV_Z64 Z64_len Nat.min_self Nat.min_eq_right


theorem ldgo {p q : Prop} (k : Later q) (h : Later q → p := by (intro k; (first | with_reducible (first | refine c_seq ?_ | refine c_block ?_ | refine c_region ?_ | refine c_skip ?_ | refine c_exit ?_ | refine c_ret ?_ | refine then_normal ?_ | refine then_exit ?_ | refine then_ret ?_ | refine block_normal ?_ | refine block_here ?_ | refine block_ret ?_ | refine block_far (by decide) ?_ | refine ops_nil ?_ | refine c_cond_t rfl ?_ | refine c_cond_f rfl ?_) | ((with_reducible apply ops_pure); rfl; (simp (disch := (first | omega | assumption | ((repeat' with_reducible apply And.intro) <;> first | omega | assumption | rfl | (apply Or.inl; rfl) | (apply Or.inr; first | rfl | trivial | fail) | fail) | fail)) only [go_sem, if_pos, if_neg, wrapI, wrapU, decide_eq_true, decide_eq_false, beqT, beqF, bneT, bneF, hm, hm2, hm3] <;> rfl); simp only [go_sem]) | ((with_reducible apply ops_pureF); rfl; (intro _; simp (disch := (first | omega | assumption | ((repeat' with_reducible apply And.intro) <;> first | omega | assumption | rfl | (apply Or.inl; rfl) | (apply Or.inr; first | rfl | trivial | fail) | fail) | fail)) only [go_sem, if_pos, if_neg, wrapI, wrapU, decide_eq_true, decide_eq_false, beqT, beqF, bneT, bneF, hm, hm2, hm3] <;> rfl); simp only [go_sem]) | ((with_reducible apply ops_pureD); kernel_rfl; rfl; (simp (disch := (first | omega | assumption | ((repeat' with_reducible apply And.intro) <;> first | omega | assumption | rfl | (apply Or.inl; rfl) | (apply Or.inr; first | rfl | trivial | fail) | fail) | fail)) only [go_sem, if_pos, if_neg, wrapI, wrapU, decide_eq_true, decide_eq_false, beqT, beqF, bneT, bneF, hm, hm2, hm3] <;> rfl); simp only [go_sem]) | ((with_reducible apply ops_skip); rfl; simp only [go_sem]) | ((with_reducible apply c_regionD); kernel_rfl) | ((first | ((with_reducible apply ops_eff); decide) | (with_reducible apply ops_lit)); rfl; (simp (disch := (first | omega | assumption | ((repeat' with_reducible apply And.intro) <;> first | omega | assumption | rfl | (apply Or.inl; rfl) | (apply Or.inr; first | rfl | trivial | fail) | fail) | fail)) only [go_sem, if_pos, if_neg, wrapI, wrapU, decide_eq_true, decide_eq_false, beqT, beqF, bneT, bneF, hm, hm2, hm3] <;> rfl); simp only [go_sem])); (repeat (first | with_reducible (first | refine c_seq ?_ | refine c_block ?_ | refine c_region ?_ | refine c_skip ?_ | refine c_exit ?_ | refine c_ret ?_ | refine then_normal ?_ | refine then_exit ?_ | refine then_ret ?_ | refine block_normal ?_ | refine block_here ?_ | refine block_ret ?_ | refine block_far (by decide) ?_ | refine ops_nil ?_ | refine c_cond_t rfl ?_ | refine c_cond_f rfl ?_) | ((with_reducible apply ops_pure); rfl; (simp (disch := (first | omega | assumption | ((repeat' with_reducible apply And.intro) <;> first | omega | assumption | rfl | (apply Or.inl; rfl) | (apply Or.inr; first | rfl | trivial | fail) | fail) | fail)) only [go_sem, if_pos, if_neg, wrapI, wrapU, decide_eq_true, decide_eq_false, beqT, beqF, bneT, bneF, hm, hm2, hm3] <;> rfl); simp only [go_sem]) | ((with_reducible apply ops_pureF); rfl; (intro _; simp (disch := (first | omega | assumption | ((repeat' with_reducible apply And.intro) <;> first | omega | assumption | rfl | (apply Or.inl; rfl) | (apply Or.inr; first | rfl | trivial | fail) | fail) | fail)) only [go_sem, if_pos, if_neg, wrapI, wrapU, decide_eq_true, decide_eq_false, beqT, beqF, bneT, bneF, hm, hm2, hm3] <;> rfl); simp only [go_sem]) | ((with_reducible apply ops_pureD); kernel_rfl; rfl; (simp (disch := (first | omega | assumption | ((repeat' with_reducible apply And.intro) <;> first | omega | assumption | rfl | (apply Or.inl; rfl) | (apply Or.inr; first | rfl | trivial | fail) | fail) | fail)) only [go_sem, if_pos, if_neg, wrapI, wrapU, decide_eq_true, decide_eq_false, beqT, beqF, bneT, bneF, hm, hm2, hm3] <;> rfl); simp only [go_sem]) | ((with_reducible apply ops_skip); rfl; simp only [go_sem]) | ((with_reducible apply c_regionD); kernel_rfl) | ((first | ((with_reducible apply ops_eff); decide) | (with_reducible apply ops_lit)); rfl; (simp (disch := (first | omega | assumption | ((repeat' with_reducible apply And.intro) <;> first | omega | assumption | rfl | (apply Or.inl; rfl) | (apply Or.inr; first | rfl | trivial | fail) | fail) | fail)) only [go_sem, if_pos, if_neg, wrapI, wrapU, decide_eq_true, decide_eq_false, beqT, beqF, bneT, bneF, hm, hm2, hm3] <;> rfl); simp only [go_sem]))); exact k.get)) : p := h k
theorem ldgoX {p q : Prop} (k : Later q) (h : Later q → p := by (intro k; (first | with_reducible (first | refine c_seq ?_ | refine c_block ?_ | refine c_skip ?_ | refine c_exit ?_ | refine c_ret ?_ | refine then_normal ?_ | refine then_exit ?_ | refine then_ret ?_ | refine block_normal ?_ | refine block_here ?_ | refine block_ret ?_ | refine block_far (by decide) ?_ | refine ops_nil ?_ | refine c_cond_t rfl ?_ | refine c_cond_f rfl ?_) | ((with_reducible apply ops_pure); rfl; (simp (disch := (first | omega | assumption | ((repeat' with_reducible apply And.intro) <;> first | omega | assumption | rfl | (apply Or.inl; rfl) | (apply Or.inr; first | rfl | trivial | fail) | fail) | fail)) only [go_sem, if_pos, if_neg, wrapI, wrapU, decide_eq_true, decide_eq_false, beqT, beqF, bneT, bneF, hm, hm2, hm3] <;> rfl); simp only [go_sem]) | ((with_reducible apply ops_pureF); rfl; (intro _; simp (disch := (first | omega | assumption | ((repeat' with_reducible apply And.intro) <;> first | omega | assumption | rfl | (apply Or.inl; rfl) | (apply Or.inr; first | rfl | trivial | fail) | fail) | fail)) only [go_sem, if_pos, if_neg, wrapI, wrapU, decide_eq_true, decide_eq_false, beqT, beqF, bneT, bneF, hm, hm2, hm3] <;> rfl); simp only [go_sem]) | ((with_reducible apply ops_pureD); kernel_rfl; rfl; (simp (disch := (first | omega | assumption | ((repeat' with_reducible apply And.intro) <;> first | omega | assumption | rfl | (apply Or.inl; rfl) | (apply Or.inr; first | rfl | trivial | fail) | fail) | fail)) only [go_sem, if_pos, if_neg, wrapI, wrapU, decide_eq_true, decide_eq_false, beqT, beqF, bneT, bneF, hm, hm2, hm3] <;> rfl); simp only [go_sem]) | ((with_reducible apply ops_skip); rfl; simp only [go_sem]) | ((with_reducible apply c_regionD); kernel_rfl) | ((first | ((with_reducible apply ops_eff); decide) | (with_reducible apply ops_lit)); rfl; (simp (disch := (first | omega | assumption | ((repeat' with_reducible apply And.intro) <;> first | omega | assumption | rfl | (apply Or.inl; rfl) | (apply Or.inr; first | rfl | trivial | fail) | fail) | fail)) only [go_sem, if_pos, if_neg, wrapI, wrapU, decide_eq_true, decide_eq_false, beqT, beqF, bneT, bneF, hm, hm2, hm3] <;> rfl); simp only [go_sem])); (repeat (first | with_reducible (first | refine c_seq ?_ | refine c_block ?_ | refine c_skip ?_ | refine c_exit ?_ | refine c_ret ?_ | refine then_normal ?_ | refine then_exit ?_ | refine then_ret ?_ | refine block_normal ?_ | refine block_here ?_ | refine block_ret ?_ | refine block_far (by decide) ?_ | refine ops_nil ?_ | refine c_cond_t rfl ?_ | refine c_cond_f rfl ?_) | ((with_reducible apply ops_pure); rfl; (simp (disch := (first | omega | assumption | ((repeat' with_reducible apply And.intro) <;> first | omega | assumption | rfl | (apply Or.inl; rfl) | (apply Or.inr; first | rfl | trivial | fail) | fail) | fail)) only [go_sem, if_pos, if_neg, wrapI, wrapU, decide_eq_true, decide_eq_false, beqT, beqF, bneT, bneF, hm, hm2, hm3] <;> rfl); simp only [go_sem]) | ((with_reducible apply ops_pureF); rfl; (intro _; simp (disch := (first | omega | assumption | ((repeat' with_reducible apply And.intro) <;> first | omega | assumption | rfl | (apply Or.inl; rfl) | (apply Or.inr; first | rfl | trivial | fail) | fail) | fail)) only [go_sem, if_pos, if_neg, wrapI, wrapU, decide_eq_true, decide_eq_false, beqT, beqF, bneT, bneF, hm, hm2, hm3] <;> rfl); simp only [go_sem]) | ((with_reducible apply ops_pureD); kernel_rfl; rfl; (simp (disch := (first | omega | assumption | ((repeat' with_reducible apply And.intro) <;> first | omega | assumption | rfl | (apply Or.inl; rfl) | (apply Or.inr; first | rfl | trivial | fail) | fail) | fail)) only [go_sem, if_pos, if_neg, wrapI, wrapU, decide_eq_true, decide_eq_false, beqT, beqF, bneT, bneF, hm, hm2, hm3] <;> rfl); simp only [go_sem]) | ((with_reducible apply ops_skip); rfl; simp only [go_sem]) | ((with_reducible apply c_regionD); kernel_rfl) | ((first | ((with_reducible apply ops_eff); decide) | (with_reducible apply ops_lit)); rfl; (simp (disch := (first | omega | assumption | ((repeat' with_reducible apply And.intro) <;> first | omega | assumption | rfl | (apply Or.inl; rfl) | (apply Or.inr; first | rfl | trivial | fail) | fail) | fail)) only [go_sem, if_pos, if_neg, wrapI, wrapU, decide_eq_true, decide_eq_false, beqT, beqF, bneT, bneF, hm, hm2, hm3] <;> rfl); simp only [go_sem]))); exact k.get)) : p := h k
theorem ldsv {p : Prop} (h : p := by simp (disch := (first | omega | assumption | ((repeat' with_reducible apply And.intro) <;> first | omega | assumption | rfl | (apply Or.inl; rfl) | (apply Or.inr; first | rfl | trivial | fail) | fail) | fail)) only [go_sem, if_pos, if_neg, wrapI, wrapU, decide_eq_true, decide_eq_false, beqT, beqF, bneT, bneF, hm, hm2, hm3] <;> rfl) : p := h
theorem ldcall {T : Tab} {X : CallP} {n0 lo : Nat} {wt : List Tmp} {draw : Bool} {ops : Array Oper} {Q : St → Prop} {rest : List Oper} {o : Oper} {env : List D} {sto : Sto} {f : FuncId} {args : List D} (k : ∃ r, X f args sto (if draw then sto.length else lo) r sto ∧ EvOps T X n0 lo wt draw ops Q rest (St.put ⟨env, sto⟩ o.dst r)) (hg : guardD ops o env = some true := by rfl) (h : evCallee (opd env) sto o = some (f, args) := by simp (disch := (first | omega | assumption | ((repeat' with_reducible apply And.intro) <;> first | omega | assumption | rfl | (apply Or.inl; rfl) | (apply Or.inr; first | rfl | trivial | fail) | fail) | fail)) only [go_sem, if_pos, if_neg, wrapI, wrapU, decide_eq_true, decide_eq_false, beqT, beqF, bneT, bneF, hm, hm2, hm3] <;> rfl) : EvOps T X n0 lo wt draw ops Q (o :: rest) ⟨env, sto⟩ := k.elim fun _ k => ops_call hg h k.1 k.2
def X0 : DK := newD 3
theorem x0_ok : X0.ok := new_ok (n := 3) (by omega) (by omega)
theorem x0_len : X0.bl.length = 3 := rfl
theorem x0_check (i : Int) (h : i < 0 ∨ i > 2) : checkS X0 i = 1 := by
  unfold checkS
  rw [show X0.off = false from rfl, if_neg (by simp), if_pos (by rw [x0_len]; omega)]
theorem x0_check0 : checkS X0 0 = 0 := by kernel_rfl
theorem x0_read (i : Int) (h : i < 0 ∨ i > 2) : readS X0 i = ([], 1) := by simp [readS, x0_check i h]
theorem x0_write (i : Int) (h : i < 0 ∨ i > 2) (s : By) : writeS X0 i s = (X0, 1) := by simp [writeS, x0_check i h]
theorem x0_rot (i : Int) (h : i < 0 ∨ i > 2) : rotS X0 i 0 = (X0, 1) := by
  unfold rotS
  rw [if_pos (by rw [x0_len]; omega)]
theorem x0_wear (i : Int) (h : i < 0 ∨ i > 2) : wearS X0 i = (X0, 1) := by
  unfold wearS
  rw [if_pos (by rw [x0_len]; omega)]
theorem x0_write0 (s : By) (h2 : s.length ≠ 64) : writeS X0 0 s = (X0, 1) := by
  unfold writeS
  rw [x0_check0, if_neg (by simp), if_pos h2]
theorem refuses_ev (n i : Int) (hi : Big i) (s : By) (hs : s.length < 9223372036854775808) (sto : Sto) (lo : Nat) (hlo : lo ≤ sto.length) : CD 4 [.v (VI n), .v (VI i), .v (STR s)] sto lo (.v (.bool true)) sto := by
  have hm : True := trivial
  have hm2 := hm
  have hm3 := hm
  have hsan := sanity_ev sto lo hlo
  have c0 := new_ev 3 (by omega) (by omega) sto lo hlo
  rw [sd_new, show newD 3 = X0 from rfl] at c0
  have i0 := image_ev X0 x0_ok sto.length
  have p0 := pending_ev X0 x0_ok sto.length
  have w0 := worn_ev X0 x0_ok sto.length
  rw [show pendS X0 = [] by simp [pendS, X0, newD]] at p0
  rw [show wornS X0 = [] by simp [wornS, X0, newD]] at w0
  have f120 := fun (s : Sto) (l : Nat) (h : l ≤ s.length) => full_ev 120 s l h
  rw [show u8V 120 = .int .u8 120 from rfl] at f120
  have st := sameTexts_ev X0.bl X0.bl (by rw [x0_len]; omega) (by rw [x0_len]; omega) (sd sto X0 []) lo (by rw [sd_len]; omega)
  rw [decide_eq_true rfl] at st
  have hwt := write_ev X0 x0_ok 0 s hs sto.length
  have hr := read_ev X0 x0_ok i sto.length
  have hw := write_ev X0 x0_ok i (fullB 120) (by simp [fullB]) sto.length
  have hro := rot_ev X0 x0_ok i 0 (by simp [Big]) sto.length
  have hwe := wear_ev X0 x0_ok i sto.length
  obtain ⟨hi1, hi2⟩ := hi
  refine CallEv.intro ⟨_, _, [], Try.func4, rfl, by decide, ?_⟩; simp only [go_sem, Try.ntmps4]
  (try refine ldgo ⟨?_⟩)
  ((refine ldcall ?_); (refine ⟨_, hsan, ?_⟩); (try simp only [go_sem]))
  clear hsan
  by_cases hn1 : n < 1
  · have hnb := new_bad n (.inl hn1) sto lo hlo
    (try refine ldgo ⟨?_⟩)
    ((refine ldcall ?_); (refine ⟨_, hnb, ?_⟩); (try simp only [go_sem]))
    (try refine ldgo ⟨?_⟩)
    refine ops_callW rfl (by exact ldsv) c0 ho_sd0 ?_
    simp only [go_sem]
    (try refine ldgo ⟨?_⟩)
    refine ops_call rfl (by exact ldsv) (DiskR.sd i0 hlo) ?_; simp only [go_sem]
    by_cases h1 : i < 0
    · have hk := h1
      rw [x0_read i (.inl h1)] at hr
      rw [x0_write i (.inl h1)] at hw
      rw [x0_rot i (.inl h1)] at hro
      rw [x0_wear i (.inl h1)] at hwe
      dsimp only at hr hw hro hwe
      (try refine ldgo ⟨?_⟩)
      refine ops_call rfl (by exact ldsv) (DiskR.sd hr hlo) ?_; simp only [go_sem]
      (try refine ldgo ⟨?_⟩)
      refine ops_call rfl (by exact ldsv) (f120 _ _ (by rw [if_neg (by simp), sd_len]; omega)) ?_; simp only [go_sem]
      (try refine ldgo ⟨?_⟩)
      refine ops_callW rfl (by exact ldsv) (DiskW.sd hw hlo) ho_sd ?_; simp only [go_sem]
      (try refine ldgo ⟨?_⟩)
      refine ops_callW rfl (by exact ldsv) (DiskW.sd hro hlo) ho_sd ?_; simp only [go_sem]
      (try refine ldgo ⟨?_⟩)
      refine ops_callW rfl (by exact ldsv) (DiskW.sd hwe hlo) ho_sd ?_; simp only [go_sem]
      by_cases h64 : s.length = 64
      · (try refine ldgo ⟨?_⟩)
        refine ops_call rfl (by exact ldsv) (DiskR.sd i0 hlo) ?_; simp only [go_sem]
        (try refine ldgo ⟨?_⟩)
        ((refine ldcall ?_); (refine ⟨_, st, ?_⟩); (try simp only [go_sem]))
        (try refine ldgo ⟨?_⟩)
        refine ops_call rfl (by exact ldsv) (DiskR.sd p0 hlo) ?_; simp only [go_sem]
        (try refine ldgo ⟨?_⟩)
        refine ops_call rfl (by exact ldsv) (DiskR.sd w0 hlo) ?_; simp only [go_sem]
        (try refine ldgo ⟨?_⟩)
        refine ⟨by first | exact .inr rfl | exact .inl rfl, .inl ⟨[], _, (by dsimp only [Try.f4]; exact ldsv), ?_, ?_⟩⟩
        · rfl
        · exact sd_take
      · rw [x0_write0 s h64] at hwt
        dsimp only at hwt
        (try refine ldgo ⟨?_⟩)
        refine ops_callW rfl (by exact ldsv) (DiskW.sd hwt hlo) ho_sd ?_; simp only [go_sem]
        (try refine ldgo ⟨?_⟩)
        refine ops_call rfl (by exact ldsv) (DiskR.sd i0 hlo) ?_; simp only [go_sem]
        (try refine ldgo ⟨?_⟩)
        ((refine ldcall ?_); (refine ⟨_, st, ?_⟩); (try simp only [go_sem]))
        (try refine ldgo ⟨?_⟩)
        refine ops_call rfl (by exact ldsv) (DiskR.sd p0 hlo) ?_; simp only [go_sem]
        (try refine ldgo ⟨?_⟩)
        refine ops_call rfl (by exact ldsv) (DiskR.sd w0 hlo) ?_; simp only [go_sem]
        (try refine ldgo ⟨?_⟩)
        refine ⟨by first | exact .inr rfl | exact .inl rfl, .inl ⟨[], _, (by dsimp only [Try.f4]; exact ldsv), ?_, ?_⟩⟩
        · rfl
        · exact sd_take
    · by_cases h2 : i > 2
      · have hk := h2
        rw [x0_read i (.inr h2)] at hr
        rw [x0_write i (.inr h2)] at hw
        rw [x0_rot i (.inr h2)] at hro
        rw [x0_wear i (.inr h2)] at hwe
        dsimp only at hr hw hro hwe
        (try refine ldgo ⟨?_⟩)
        refine ops_call rfl (by exact ldsv) (DiskR.sd hr hlo) ?_; simp only [go_sem]
        (try refine ldgo ⟨?_⟩)
        refine ops_call rfl (by exact ldsv) (f120 _ _ (by rw [if_neg (by simp), sd_len]; omega)) ?_; simp only [go_sem]
        (try refine ldgo ⟨?_⟩)
        refine ops_callW rfl (by exact ldsv) (DiskW.sd hw hlo) ho_sd ?_; simp only [go_sem]
        (try refine ldgo ⟨?_⟩)
        refine ops_callW rfl (by exact ldsv) (DiskW.sd hro hlo) ho_sd ?_; simp only [go_sem]
        (try refine ldgo ⟨?_⟩)
        refine ops_callW rfl (by exact ldsv) (DiskW.sd hwe hlo) ho_sd ?_; simp only [go_sem]
        by_cases h64 : s.length = 64
        · (try refine ldgo ⟨?_⟩)
          refine ops_call rfl (by exact ldsv) (DiskR.sd i0 hlo) ?_; simp only [go_sem]
          (try refine ldgo ⟨?_⟩)
          ((refine ldcall ?_); (refine ⟨_, st, ?_⟩); (try simp only [go_sem]))
          (try refine ldgo ⟨?_⟩)
          refine ops_call rfl (by exact ldsv) (DiskR.sd p0 hlo) ?_; simp only [go_sem]
          (try refine ldgo ⟨?_⟩)
          refine ops_call rfl (by exact ldsv) (DiskR.sd w0 hlo) ?_; simp only [go_sem]
          (try refine ldgo ⟨?_⟩)
          refine ⟨by first | exact .inr rfl | exact .inl rfl, .inl ⟨[], _, (by dsimp only [Try.f4]; exact ldsv), ?_, ?_⟩⟩
          · rfl
          · exact sd_take
        · rw [x0_write0 s h64] at hwt
          dsimp only at hwt
          (try refine ldgo ⟨?_⟩)
          refine ops_callW rfl (by exact ldsv) (DiskW.sd hwt hlo) ho_sd ?_; simp only [go_sem]
          (try refine ldgo ⟨?_⟩)
          refine ops_call rfl (by exact ldsv) (DiskR.sd i0 hlo) ?_; simp only [go_sem]
          (try refine ldgo ⟨?_⟩)
          ((refine ldcall ?_); (refine ⟨_, st, ?_⟩); (try simp only [go_sem]))
          (try refine ldgo ⟨?_⟩)
          refine ops_call rfl (by exact ldsv) (DiskR.sd p0 hlo) ?_; simp only [go_sem]
          (try refine ldgo ⟨?_⟩)
          refine ops_call rfl (by exact ldsv) (DiskR.sd w0 hlo) ?_; simp only [go_sem]
          (try refine ldgo ⟨?_⟩)
          refine ⟨by first | exact .inr rfl | exact .inl rfl, .inl ⟨[], _, (by dsimp only [Try.f4]; exact ldsv), ?_, ?_⟩⟩
          · rfl
          · exact sd_take
      · have hk := h2
        by_cases h64 : s.length = 64
        · (try refine ldgo ⟨?_⟩)
          refine ops_call rfl (by exact ldsv) (DiskR.sd i0 hlo) ?_; simp only [go_sem]
          (try refine ldgo ⟨?_⟩)
          ((refine ldcall ?_); (refine ⟨_, st, ?_⟩); (try simp only [go_sem]))
          (try refine ldgo ⟨?_⟩)
          refine ops_call rfl (by exact ldsv) (DiskR.sd p0 hlo) ?_; simp only [go_sem]
          (try refine ldgo ⟨?_⟩)
          refine ops_call rfl (by exact ldsv) (DiskR.sd w0 hlo) ?_; simp only [go_sem]
          (try refine ldgo ⟨?_⟩)
          refine ⟨by first | exact .inr rfl | exact .inl rfl, .inl ⟨[], _, (by dsimp only [Try.f4]; exact ldsv), ?_, ?_⟩⟩
          · rfl
          · exact sd_take
        · rw [x0_write0 s h64] at hwt
          dsimp only at hwt
          (try refine ldgo ⟨?_⟩)
          refine ops_callW rfl (by exact ldsv) (DiskW.sd hwt hlo) ho_sd ?_; simp only [go_sem]
          (try refine ldgo ⟨?_⟩)
          refine ops_call rfl (by exact ldsv) (DiskR.sd i0 hlo) ?_; simp only [go_sem]
          (try refine ldgo ⟨?_⟩)
          ((refine ldcall ?_); (refine ⟨_, st, ?_⟩); (try simp only [go_sem]))
          (try refine ldgo ⟨?_⟩)
          refine ops_call rfl (by exact ldsv) (DiskR.sd p0 hlo) ?_; simp only [go_sem]
          (try refine ldgo ⟨?_⟩)
          refine ops_call rfl (by exact ldsv) (DiskR.sd w0 hlo) ?_; simp only [go_sem]
          (try refine ldgo ⟨?_⟩)
          refine ⟨by first | exact .inr rfl | exact .inl rfl, .inl ⟨[], _, (by dsimp only [Try.f4]; exact ldsv), ?_, ?_⟩⟩
          · rfl
          · exact sd_take
  · by_cases hn2 : n > 4096
    · have hnb := new_bad n (.inr hn2) sto lo hlo
      (try refine ldgo ⟨?_⟩)
      ((refine ldcall ?_); (refine ⟨_, hnb, ?_⟩); (try simp only [go_sem]))
      (try refine ldgo ⟨?_⟩)
      refine ops_callW rfl (by exact ldsv) c0 ho_sd0 ?_
      simp only [go_sem]
      (try refine ldgo ⟨?_⟩)
      refine ops_call rfl (by exact ldsv) (DiskR.sd i0 hlo) ?_; simp only [go_sem]
      by_cases h1 : i < 0
      · have hk := h1
        rw [x0_read i (.inl h1)] at hr
        rw [x0_write i (.inl h1)] at hw
        rw [x0_rot i (.inl h1)] at hro
        rw [x0_wear i (.inl h1)] at hwe
        dsimp only at hr hw hro hwe
        (try refine ldgo ⟨?_⟩)
        refine ops_call rfl (by exact ldsv) (DiskR.sd hr hlo) ?_; simp only [go_sem]
        (try refine ldgo ⟨?_⟩)
        refine ops_call rfl (by exact ldsv) (f120 _ _ (by rw [if_neg (by simp), sd_len]; omega)) ?_; simp only [go_sem]
        (try refine ldgo ⟨?_⟩)
        refine ops_callW rfl (by exact ldsv) (DiskW.sd hw hlo) ho_sd ?_; simp only [go_sem]
        (try refine ldgo ⟨?_⟩)
        refine ops_callW rfl (by exact ldsv) (DiskW.sd hro hlo) ho_sd ?_; simp only [go_sem]
        (try refine ldgo ⟨?_⟩)
        refine ops_callW rfl (by exact ldsv) (DiskW.sd hwe hlo) ho_sd ?_; simp only [go_sem]
        by_cases h64 : s.length = 64
        · (try refine ldgo ⟨?_⟩)
          refine ops_call rfl (by exact ldsv) (DiskR.sd i0 hlo) ?_; simp only [go_sem]
          (try refine ldgo ⟨?_⟩)
          ((refine ldcall ?_); (refine ⟨_, st, ?_⟩); (try simp only [go_sem]))
          (try refine ldgo ⟨?_⟩)
          refine ops_call rfl (by exact ldsv) (DiskR.sd p0 hlo) ?_; simp only [go_sem]
          (try refine ldgo ⟨?_⟩)
          refine ops_call rfl (by exact ldsv) (DiskR.sd w0 hlo) ?_; simp only [go_sem]
          (try refine ldgo ⟨?_⟩)
          refine ⟨by first | exact .inr rfl | exact .inl rfl, .inl ⟨[], _, (by dsimp only [Try.f4]; exact ldsv), ?_, ?_⟩⟩
          · rfl
          · exact sd_take
        · rw [x0_write0 s h64] at hwt
          dsimp only at hwt
          (try refine ldgo ⟨?_⟩)
          refine ops_callW rfl (by exact ldsv) (DiskW.sd hwt hlo) ho_sd ?_; simp only [go_sem]
          (try refine ldgo ⟨?_⟩)
          refine ops_call rfl (by exact ldsv) (DiskR.sd i0 hlo) ?_; simp only [go_sem]
          (try refine ldgo ⟨?_⟩)
          ((refine ldcall ?_); (refine ⟨_, st, ?_⟩); (try simp only [go_sem]))
          (try refine ldgo ⟨?_⟩)
          refine ops_call rfl (by exact ldsv) (DiskR.sd p0 hlo) ?_; simp only [go_sem]
          (try refine ldgo ⟨?_⟩)
          refine ops_call rfl (by exact ldsv) (DiskR.sd w0 hlo) ?_; simp only [go_sem]
          (try refine ldgo ⟨?_⟩)
          refine ⟨by first | exact .inr rfl | exact .inl rfl, .inl ⟨[], _, (by dsimp only [Try.f4]; exact ldsv), ?_, ?_⟩⟩
          · rfl
          · exact sd_take
      · by_cases h2 : i > 2
        · have hk := h2
          rw [x0_read i (.inr h2)] at hr
          rw [x0_write i (.inr h2)] at hw
          rw [x0_rot i (.inr h2)] at hro
          rw [x0_wear i (.inr h2)] at hwe
          dsimp only at hr hw hro hwe
          (try refine ldgo ⟨?_⟩)
          refine ops_call rfl (by exact ldsv) (DiskR.sd hr hlo) ?_; simp only [go_sem]
          (try refine ldgo ⟨?_⟩)
          refine ops_call rfl (by exact ldsv) (f120 _ _ (by rw [if_neg (by simp), sd_len]; omega)) ?_; simp only [go_sem]
          (try refine ldgo ⟨?_⟩)
          refine ops_callW rfl (by exact ldsv) (DiskW.sd hw hlo) ho_sd ?_; simp only [go_sem]
          (try refine ldgo ⟨?_⟩)
          refine ops_callW rfl (by exact ldsv) (DiskW.sd hro hlo) ho_sd ?_; simp only [go_sem]
          (try refine ldgo ⟨?_⟩)
          refine ops_callW rfl (by exact ldsv) (DiskW.sd hwe hlo) ho_sd ?_; simp only [go_sem]
          by_cases h64 : s.length = 64
          · (try refine ldgo ⟨?_⟩)
            refine ops_call rfl (by exact ldsv) (DiskR.sd i0 hlo) ?_; simp only [go_sem]
            (try refine ldgo ⟨?_⟩)
            ((refine ldcall ?_); (refine ⟨_, st, ?_⟩); (try simp only [go_sem]))
            (try refine ldgo ⟨?_⟩)
            refine ops_call rfl (by exact ldsv) (DiskR.sd p0 hlo) ?_; simp only [go_sem]
            (try refine ldgo ⟨?_⟩)
            refine ops_call rfl (by exact ldsv) (DiskR.sd w0 hlo) ?_; simp only [go_sem]
            (try refine ldgo ⟨?_⟩)
            refine ⟨by first | exact .inr rfl | exact .inl rfl, .inl ⟨[], _, (by dsimp only [Try.f4]; exact ldsv), ?_, ?_⟩⟩
            · rfl
            · exact sd_take
          · rw [x0_write0 s h64] at hwt
            dsimp only at hwt
            (try refine ldgo ⟨?_⟩)
            refine ops_callW rfl (by exact ldsv) (DiskW.sd hwt hlo) ho_sd ?_; simp only [go_sem]
            (try refine ldgo ⟨?_⟩)
            refine ops_call rfl (by exact ldsv) (DiskR.sd i0 hlo) ?_; simp only [go_sem]
            (try refine ldgo ⟨?_⟩)
            ((refine ldcall ?_); (refine ⟨_, st, ?_⟩); (try simp only [go_sem]))
            (try refine ldgo ⟨?_⟩)
            refine ops_call rfl (by exact ldsv) (DiskR.sd p0 hlo) ?_; simp only [go_sem]
            (try refine ldgo ⟨?_⟩)
            refine ops_call rfl (by exact ldsv) (DiskR.sd w0 hlo) ?_; simp only [go_sem]
            (try refine ldgo ⟨?_⟩)
            refine ⟨by first | exact .inr rfl | exact .inl rfl, .inl ⟨[], _, (by dsimp only [Try.f4]; exact ldsv), ?_, ?_⟩⟩
            · rfl
            · exact sd_take
        · have hk := h2
          by_cases h64 : s.length = 64
          · (try refine ldgo ⟨?_⟩)
            refine ops_call rfl (by exact ldsv) (DiskR.sd i0 hlo) ?_; simp only [go_sem]
            (try refine ldgo ⟨?_⟩)
            ((refine ldcall ?_); (refine ⟨_, st, ?_⟩); (try simp only [go_sem]))
            (try refine ldgo ⟨?_⟩)
            refine ops_call rfl (by exact ldsv) (DiskR.sd p0 hlo) ?_; simp only [go_sem]
            (try refine ldgo ⟨?_⟩)
            refine ops_call rfl (by exact ldsv) (DiskR.sd w0 hlo) ?_; simp only [go_sem]
            (try refine ldgo ⟨?_⟩)
            refine ⟨by first | exact .inr rfl | exact .inl rfl, .inl ⟨[], _, (by dsimp only [Try.f4]; exact ldsv), ?_, ?_⟩⟩
            · rfl
            · exact sd_take
          · rw [x0_write0 s h64] at hwt
            dsimp only at hwt
            (try refine ldgo ⟨?_⟩)
            refine ops_callW rfl (by exact ldsv) (DiskW.sd hwt hlo) ho_sd ?_; simp only [go_sem]
            (try refine ldgo ⟨?_⟩)
            refine ops_call rfl (by exact ldsv) (DiskR.sd i0 hlo) ?_; simp only [go_sem]
            (try refine ldgo ⟨?_⟩)
            ((refine ldcall ?_); (refine ⟨_, st, ?_⟩); (try simp only [go_sem]))
            (try refine ldgo ⟨?_⟩)
            refine ops_call rfl (by exact ldsv) (DiskR.sd p0 hlo) ?_; simp only [go_sem]
            (try refine ldgo ⟨?_⟩)
            refine ops_call rfl (by exact ldsv) (DiskR.sd w0 hlo) ?_; simp only [go_sem]
            (try refine ldgo ⟨?_⟩)
            refine ⟨by first | exact .inr rfl | exact .inl rfl, .inl ⟨[], _, (by dsimp only [Try.f4]; exact ldsv), ?_, ?_⟩⟩
            · rfl
            · exact sd_take
    · (try refine ldgo ⟨?_⟩)
      refine ops_callW rfl (by exact ldsv) c0 ho_sd0 ?_
      simp only [go_sem]
      (try refine ldgo ⟨?_⟩)
      refine ops_call rfl (by exact ldsv) (DiskR.sd i0 hlo) ?_; simp only [go_sem]
      by_cases h1 : i < 0
      · have hk := h1
        rw [x0_read i (.inl h1)] at hr
        rw [x0_write i (.inl h1)] at hw
        rw [x0_rot i (.inl h1)] at hro
        rw [x0_wear i (.inl h1)] at hwe
        dsimp only at hr hw hro hwe
        (try refine ldgo ⟨?_⟩)
        refine ops_call rfl (by exact ldsv) (DiskR.sd hr hlo) ?_; simp only [go_sem]
        (try refine ldgo ⟨?_⟩)
        refine ops_call rfl (by exact ldsv) (f120 _ _ (by rw [if_neg (by simp), sd_len]; omega)) ?_; simp only [go_sem]
        (try refine ldgo ⟨?_⟩)
        refine ops_callW rfl (by exact ldsv) (DiskW.sd hw hlo) ho_sd ?_; simp only [go_sem]
        (try refine ldgo ⟨?_⟩)
        refine ops_callW rfl (by exact ldsv) (DiskW.sd hro hlo) ho_sd ?_; simp only [go_sem]
        (try refine ldgo ⟨?_⟩)
        refine ops_callW rfl (by exact ldsv) (DiskW.sd hwe hlo) ho_sd ?_; simp only [go_sem]
        by_cases h64 : s.length = 64
        · (try refine ldgo ⟨?_⟩)
          refine ops_call rfl (by exact ldsv) (DiskR.sd i0 hlo) ?_; simp only [go_sem]
          (try refine ldgo ⟨?_⟩)
          ((refine ldcall ?_); (refine ⟨_, st, ?_⟩); (try simp only [go_sem]))
          (try refine ldgo ⟨?_⟩)
          refine ops_call rfl (by exact ldsv) (DiskR.sd p0 hlo) ?_; simp only [go_sem]
          (try refine ldgo ⟨?_⟩)
          refine ops_call rfl (by exact ldsv) (DiskR.sd w0 hlo) ?_; simp only [go_sem]
          (try refine ldgo ⟨?_⟩)
          refine ⟨by first | exact .inr rfl | exact .inl rfl, .inl ⟨[], _, (by dsimp only [Try.f4]; exact ldsv), ?_, ?_⟩⟩
          · rfl
          · exact sd_take
        · rw [x0_write0 s h64] at hwt
          dsimp only at hwt
          (try refine ldgo ⟨?_⟩)
          refine ops_callW rfl (by exact ldsv) (DiskW.sd hwt hlo) ho_sd ?_; simp only [go_sem]
          (try refine ldgo ⟨?_⟩)
          refine ops_call rfl (by exact ldsv) (DiskR.sd i0 hlo) ?_; simp only [go_sem]
          (try refine ldgo ⟨?_⟩)
          ((refine ldcall ?_); (refine ⟨_, st, ?_⟩); (try simp only [go_sem]))
          (try refine ldgo ⟨?_⟩)
          refine ops_call rfl (by exact ldsv) (DiskR.sd p0 hlo) ?_; simp only [go_sem]
          (try refine ldgo ⟨?_⟩)
          refine ops_call rfl (by exact ldsv) (DiskR.sd w0 hlo) ?_; simp only [go_sem]
          (try refine ldgo ⟨?_⟩)
          refine ⟨by first | exact .inr rfl | exact .inl rfl, .inl ⟨[], _, (by dsimp only [Try.f4]; exact ldsv), ?_, ?_⟩⟩
          · rfl
          · exact sd_take
      · by_cases h2 : i > 2
        · have hk := h2
          rw [x0_read i (.inr h2)] at hr
          rw [x0_write i (.inr h2)] at hw
          rw [x0_rot i (.inr h2)] at hro
          rw [x0_wear i (.inr h2)] at hwe
          dsimp only at hr hw hro hwe
          (try refine ldgo ⟨?_⟩)
          refine ops_call rfl (by exact ldsv) (DiskR.sd hr hlo) ?_; simp only [go_sem]
          (try refine ldgo ⟨?_⟩)
          refine ops_call rfl (by exact ldsv) (f120 _ _ (by rw [if_neg (by simp), sd_len]; omega)) ?_; simp only [go_sem]
          (try refine ldgo ⟨?_⟩)
          refine ops_callW rfl (by exact ldsv) (DiskW.sd hw hlo) ho_sd ?_; simp only [go_sem]
          (try refine ldgo ⟨?_⟩)
          refine ops_callW rfl (by exact ldsv) (DiskW.sd hro hlo) ho_sd ?_; simp only [go_sem]
          (try refine ldgo ⟨?_⟩)
          refine ops_callW rfl (by exact ldsv) (DiskW.sd hwe hlo) ho_sd ?_; simp only [go_sem]
          by_cases h64 : s.length = 64
          · (try refine ldgo ⟨?_⟩)
            refine ops_call rfl (by exact ldsv) (DiskR.sd i0 hlo) ?_; simp only [go_sem]
            (try refine ldgo ⟨?_⟩)
            ((refine ldcall ?_); (refine ⟨_, st, ?_⟩); (try simp only [go_sem]))
            (try refine ldgo ⟨?_⟩)
            refine ops_call rfl (by exact ldsv) (DiskR.sd p0 hlo) ?_; simp only [go_sem]
            (try refine ldgo ⟨?_⟩)
            refine ops_call rfl (by exact ldsv) (DiskR.sd w0 hlo) ?_; simp only [go_sem]
            (try refine ldgo ⟨?_⟩)
            refine ⟨by first | exact .inr rfl | exact .inl rfl, .inl ⟨[], _, (by dsimp only [Try.f4]; exact ldsv), ?_, ?_⟩⟩
            · rfl
            · exact sd_take
          · rw [x0_write0 s h64] at hwt
            dsimp only at hwt
            (try refine ldgo ⟨?_⟩)
            refine ops_callW rfl (by exact ldsv) (DiskW.sd hwt hlo) ho_sd ?_; simp only [go_sem]
            (try refine ldgo ⟨?_⟩)
            refine ops_call rfl (by exact ldsv) (DiskR.sd i0 hlo) ?_; simp only [go_sem]
            (try refine ldgo ⟨?_⟩)
            ((refine ldcall ?_); (refine ⟨_, st, ?_⟩); (try simp only [go_sem]))
            (try refine ldgo ⟨?_⟩)
            refine ops_call rfl (by exact ldsv) (DiskR.sd p0 hlo) ?_; simp only [go_sem]
            (try refine ldgo ⟨?_⟩)
            refine ops_call rfl (by exact ldsv) (DiskR.sd w0 hlo) ?_; simp only [go_sem]
            (try refine ldgo ⟨?_⟩)
            refine ⟨by first | exact .inr rfl | exact .inl rfl, .inl ⟨[], _, (by dsimp only [Try.f4]; exact ldsv), ?_, ?_⟩⟩
            · rfl
            · exact sd_take
        · have hk := h2
          by_cases h64 : s.length = 64
          · (try refine ldgo ⟨?_⟩)
            refine ops_call rfl (by exact ldsv) (DiskR.sd i0 hlo) ?_; simp only [go_sem]
            (try refine ldgo ⟨?_⟩)
            ((refine ldcall ?_); (refine ⟨_, st, ?_⟩); (try simp only [go_sem]))
            (try refine ldgo ⟨?_⟩)
            refine ops_call rfl (by exact ldsv) (DiskR.sd p0 hlo) ?_; simp only [go_sem]
            (try refine ldgo ⟨?_⟩)
            refine ops_call rfl (by exact ldsv) (DiskR.sd w0 hlo) ?_; simp only [go_sem]
            (try refine ldgo ⟨?_⟩)
            refine ⟨by first | exact .inr rfl | exact .inl rfl, .inl ⟨[], _, (by dsimp only [Try.f4]; exact ldsv), ?_, ?_⟩⟩
            · rfl
            · exact sd_take
          · rw [x0_write0 s h64] at hwt
            dsimp only at hwt
            (try refine ldgo ⟨?_⟩)
            refine ops_callW rfl (by exact ldsv) (DiskW.sd hwt hlo) ho_sd ?_; simp only [go_sem]
            (try refine ldgo ⟨?_⟩)
            refine ops_call rfl (by exact ldsv) (DiskR.sd i0 hlo) ?_; simp only [go_sem]
            (try refine ldgo ⟨?_⟩)
            ((refine ldcall ?_); (refine ⟨_, st, ?_⟩); (try simp only [go_sem]))
            (try refine ldgo ⟨?_⟩)
            refine ops_call rfl (by exact ldsv) (DiskR.sd p0 hlo) ?_; simp only [go_sem]
            (try refine ldgo ⟨?_⟩)
            refine ops_call rfl (by exact ldsv) (DiskR.sd w0 hlo) ?_; simp only [go_sem]
            (try refine ldgo ⟨?_⟩)
            refine ⟨by first | exact .inr rfl | exact .inl rfl, .inl ⟨[], _, (by dsimp only [Try.f4]; exact ldsv), ?_, ?_⟩⟩
            · rfl
            · exact sd_take
end Go.Proofs.Ytghdanpigohnjaa
namespace Go.Proofs.Ytghdanpigohnjaa.diskRefusesSizes
open Go Go.ChangeShapes Go.WideShapes Go.ChangeAt Go.RowKit

theorem str_lt {a : ByteArray} (h : a.size ≤ maxLen) : a.data.toList.length < 9223372036854775808 := by
  have : a.data.toList.length = a.size := rfl
  unfold maxLen at h; omega

set_option maxRecDepth 100000 in
theorem lifted (os : Os) (started : os.Started) (H : Type) (enc : TypeId × Value → H) :
    ReturnsInHanded {} Try.checked os 4 .any (Rows.diskRefusesSizesSpec.pre6 enc Try.prog Try.f4 Rows.diskRefusesSizesRow.domain false) (Rows.diskRefusesSizesSpec.post enc Try.prog Try.f4 false true false false) := by
  refine returnsInHanded_of_change (C := Try.checked) own started (by kernel_rfl) Try.func4
    (ChangeSpec.witness6 (enc := enc) (C := Try.checked) false ⟨#[], #[.int .i64 0, .int .i64 0, .string ByteArray.empty], []⟩ 8 (by kernel_rfl) (by kernel_rfl) (by kernel_rfl) (by kernel_rfl)) ?_
  intro W base args ds gs before hval0 hW hcnd _
  have hval : ∀ (j : Nat) t v, Try.f4.params[j]? = some t → args[j]? = some v → Value.okWide Try.prog W .any base t v := hval0
  have hW' := hW
  obtain ⟨p, q, hA0, hV, rfl, hfz, hnd⟩ := hW
  have hA : DataW.TrodAll enc Try.prog W 0 (fun _ => true) true Try.f4.params.toList args.toList ds p := hA0
  rw [Try.params4] at hA hval
  obtain ⟨v0, vs0, d0, ds0, p0, q0, hargs, rfl, rfl, hd0, r0⟩ := trodAll_cons hA
  obtain ⟨v1, vs1, d1, ds1, p1, q1, rfl, rfl, rfl, hd1, r1⟩ := trodAll_cons r0
  obtain ⟨v2, vs2, d2, ds2, p2, q2, rfl, rfl, rfl, hd2, r2⟩ := trodAll_cons r1
  obtain ⟨rfl, rfl, rfl⟩ := trodAll_nil r2
  obtain rfl : args = #[v0, v1, v2] := by cases args; simp_all
  obtain ⟨a0, rfl, rfl, rfl, wa0⟩ := open_int Try.underlying3 (hval 0 3 v0 rfl rfl) hd0
  have b0 := i64_wf wa0
  obtain ⟨a1, rfl, rfl, rfl, wa1⟩ := open_int Try.underlying3 (hval 1 3 v1 rfl rfl) hd1
  have b1 := i64_wf wa1
  obtain ⟨a2, rfl, rfl, rfl, b2⟩ := Go.ChangeMaps.open_string Try.underlying9 (hval 2 9 v2 rfl rfl) hd2
  refine (law_calls (vals := [.int .i64 a0, .int .i64 a1, .string a2]) (xs := [VI a0, VI a1, STR a2.data.toList]) dB_ok (refuses_ev a0 a1 (big_of b1) a2.data.toList (str_lt b2) [] 0 (Nat.zero_le _)) (Pw.cons (rep_int a0) (Pw.cons (rep_int a1) (Pw.cons (rep_str a2) Pw.nil)))).mono fun e W' ⟨he, hb⟩ => ?_
  subst he
  exact ⟨_, rfl, law_post hW' rfl laidOut (by kernel_rfl) rfl Try.underlying4 (fun ds h => match ds, h with | [_, _, _], _ => rfl) hb⟩

theorem proved : Rows.DiskRefusesSizesSaid :=
  OpenClaim.holds_of_wide 4 Try.f4 rfl rfl rfl rfl rfl rfl rfl ⟨rfl, rfl, rfl, rfl, rfl⟩ rfl rfl rfl rfl rfl (by kernel_rfl) Try.func4 (by kernel_rfl)
    (of_decide_eq_true (by kernel_rfl)) (by unfold Func.isWrapper; first | (rw [if_pos (by decide +kernel)]; kernel_rfl) | (rw [if_neg (by decide +kernel)]; exact ⟨rfl, rfl⟩))
    (fun os started H enc _ => lifted os started H enc)
#print axioms proved
end Go.Proofs.Ytghdanpigohnjaa.diskRefusesSizes
