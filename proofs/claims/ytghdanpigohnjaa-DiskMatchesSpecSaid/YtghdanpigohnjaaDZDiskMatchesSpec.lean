/-
  DiskMatchesSpec's walk. No condition of its own. DiskMatchesSpec: whatever the input, it returns true.
-/
import Derived.Test.YtghdanpigohnjaaD5
import Derived.Test.YtghdanpigohnjaaD0
namespace Go.Proofs.Ytghdanpigohnjaa
open Go Go.RowKit

attribute [local irreducible] EvOps EvC
attribute [local go_sem] List.getElem?_toArray List.flatten_cons List.flatten_nil List.contains_nil List.append_nil List.nil_append List.length_set Bool.and_self implies_true eq_self Nat.zero_mul Nat.add_zero Nat.zero_add Nat.sub_zero List.take_zero List.drop_zero List.drop_replicate Nat.sub_self List.replicate_zero List.map_nil List.map_append List.length_replicate
attribute [local go_sem] bytesV_bs strV_u8s bs_size u8s_len bs_extract bs_append bs_beq bs_nil bs_nil2
attribute [local go_sem] putD_len putD_b putD_p putD_w putD_d putD_app putD_put putD_get0 putD_get putD_set0 putD_set putD_take putD_takeN putD_setd putD_setw putD_setp getLD setLD
set_option linter.unusedSimpArgs false
set_option linter.unusedVariables false
set_option maxRecDepth 100000
set_option maxHeartbeats 4000000
attribute [local go_sem] take_u8 take_u8v drop_u8v len_u8v viewL_mv eqVs_u8s zsV_Z64 Z64_len Nat.min_self Nat.min_eq_right


theorem lcgo {p q : Prop} (k : Later q) (h : Later q → p := by (intro k; (first | with_reducible (first | refine c_seq ?_ | refine c_block ?_ | refine c_region ?_ | refine c_skip ?_ | refine c_exit ?_ | refine c_ret ?_ | refine then_normal ?_ | refine then_exit ?_ | refine then_ret ?_ | refine block_normal ?_ | refine block_here ?_ | refine block_ret ?_ | refine block_far (by decide) ?_ | refine ops_nil ?_ | refine c_cond_t rfl ?_ | refine c_cond_f rfl ?_) | ((with_reducible apply ops_pure); rfl; (simp (disch := (first | omega | assumption | ((repeat' with_reducible apply And.intro) <;> first | omega | assumption | rfl | (apply Or.inl; rfl) | (apply Or.inr; first | rfl | trivial | fail) | fail) | fail)) only [go_sem, if_pos, if_neg, wrapI, wrapU, decide_eq_true, decide_eq_false, beqT, beqF, bneT, bneF, hm, hm2, hm3] <;> rfl); simp only [go_sem]) | ((with_reducible apply ops_pureF); rfl; (intro _; simp (disch := (first | omega | assumption | ((repeat' with_reducible apply And.intro) <;> first | omega | assumption | rfl | (apply Or.inl; rfl) | (apply Or.inr; first | rfl | trivial | fail) | fail) | fail)) only [go_sem, if_pos, if_neg, wrapI, wrapU, decide_eq_true, decide_eq_false, beqT, beqF, bneT, bneF, hm, hm2, hm3] <;> rfl); simp only [go_sem]) | ((with_reducible apply ops_pureD); kernel_rfl; rfl; (simp (disch := (first | omega | assumption | ((repeat' with_reducible apply And.intro) <;> first | omega | assumption | rfl | (apply Or.inl; rfl) | (apply Or.inr; first | rfl | trivial | fail) | fail) | fail)) only [go_sem, if_pos, if_neg, wrapI, wrapU, decide_eq_true, decide_eq_false, beqT, beqF, bneT, bneF, hm, hm2, hm3] <;> rfl); simp only [go_sem]) | ((with_reducible apply ops_skip); rfl; simp only [go_sem]) | ((with_reducible apply c_regionD); kernel_rfl) | ((first | ((with_reducible apply ops_eff); decide) | (with_reducible apply ops_lit)); rfl; (simp (disch := (first | omega | assumption | ((repeat' with_reducible apply And.intro) <;> first | omega | assumption | rfl | (apply Or.inl; rfl) | (apply Or.inr; first | rfl | trivial | fail) | fail) | fail)) only [go_sem, if_pos, if_neg, wrapI, wrapU, decide_eq_true, decide_eq_false, beqT, beqF, bneT, bneF, hm, hm2, hm3] <;> rfl); simp only [go_sem])); (repeat (first | with_reducible (first | refine c_seq ?_ | refine c_block ?_ | refine c_region ?_ | refine c_skip ?_ | refine c_exit ?_ | refine c_ret ?_ | refine then_normal ?_ | refine then_exit ?_ | refine then_ret ?_ | refine block_normal ?_ | refine block_here ?_ | refine block_ret ?_ | refine block_far (by decide) ?_ | refine ops_nil ?_ | refine c_cond_t rfl ?_ | refine c_cond_f rfl ?_) | ((with_reducible apply ops_pure); rfl; (simp (disch := (first | omega | assumption | ((repeat' with_reducible apply And.intro) <;> first | omega | assumption | rfl | (apply Or.inl; rfl) | (apply Or.inr; first | rfl | trivial | fail) | fail) | fail)) only [go_sem, if_pos, if_neg, wrapI, wrapU, decide_eq_true, decide_eq_false, beqT, beqF, bneT, bneF, hm, hm2, hm3] <;> rfl); simp only [go_sem]) | ((with_reducible apply ops_pureF); rfl; (intro _; simp (disch := (first | omega | assumption | ((repeat' with_reducible apply And.intro) <;> first | omega | assumption | rfl | (apply Or.inl; rfl) | (apply Or.inr; first | rfl | trivial | fail) | fail) | fail)) only [go_sem, if_pos, if_neg, wrapI, wrapU, decide_eq_true, decide_eq_false, beqT, beqF, bneT, bneF, hm, hm2, hm3] <;> rfl); simp only [go_sem]) | ((with_reducible apply ops_pureD); kernel_rfl; rfl; (simp (disch := (first | omega | assumption | ((repeat' with_reducible apply And.intro) <;> first | omega | assumption | rfl | (apply Or.inl; rfl) | (apply Or.inr; first | rfl | trivial | fail) | fail) | fail)) only [go_sem, if_pos, if_neg, wrapI, wrapU, decide_eq_true, decide_eq_false, beqT, beqF, bneT, bneF, hm, hm2, hm3] <;> rfl); simp only [go_sem]) | ((with_reducible apply ops_skip); rfl; simp only [go_sem]) | ((with_reducible apply c_regionD); kernel_rfl) | ((first | ((with_reducible apply ops_eff); decide) | (with_reducible apply ops_lit)); rfl; (simp (disch := (first | omega | assumption | ((repeat' with_reducible apply And.intro) <;> first | omega | assumption | rfl | (apply Or.inl; rfl) | (apply Or.inr; first | rfl | trivial | fail) | fail) | fail)) only [go_sem, if_pos, if_neg, wrapI, wrapU, decide_eq_true, decide_eq_false, beqT, beqF, bneT, bneF, hm, hm2, hm3] <;> rfl); simp only [go_sem]))); exact k.get)) : p := h k
theorem lcgoX {p q : Prop} (k : Later q) (h : Later q → p := by (intro k; (first | with_reducible (first | refine c_seq ?_ | refine c_block ?_ | refine c_skip ?_ | refine c_exit ?_ | refine c_ret ?_ | refine then_normal ?_ | refine then_exit ?_ | refine then_ret ?_ | refine block_normal ?_ | refine block_here ?_ | refine block_ret ?_ | refine block_far (by decide) ?_ | refine ops_nil ?_ | refine c_cond_t rfl ?_ | refine c_cond_f rfl ?_) | ((with_reducible apply ops_pure); rfl; (simp (disch := (first | omega | assumption | ((repeat' with_reducible apply And.intro) <;> first | omega | assumption | rfl | (apply Or.inl; rfl) | (apply Or.inr; first | rfl | trivial | fail) | fail) | fail)) only [go_sem, if_pos, if_neg, wrapI, wrapU, decide_eq_true, decide_eq_false, beqT, beqF, bneT, bneF, hm, hm2, hm3] <;> rfl); simp only [go_sem]) | ((with_reducible apply ops_pureF); rfl; (intro _; simp (disch := (first | omega | assumption | ((repeat' with_reducible apply And.intro) <;> first | omega | assumption | rfl | (apply Or.inl; rfl) | (apply Or.inr; first | rfl | trivial | fail) | fail) | fail)) only [go_sem, if_pos, if_neg, wrapI, wrapU, decide_eq_true, decide_eq_false, beqT, beqF, bneT, bneF, hm, hm2, hm3] <;> rfl); simp only [go_sem]) | ((with_reducible apply ops_pureD); kernel_rfl; rfl; (simp (disch := (first | omega | assumption | ((repeat' with_reducible apply And.intro) <;> first | omega | assumption | rfl | (apply Or.inl; rfl) | (apply Or.inr; first | rfl | trivial | fail) | fail) | fail)) only [go_sem, if_pos, if_neg, wrapI, wrapU, decide_eq_true, decide_eq_false, beqT, beqF, bneT, bneF, hm, hm2, hm3] <;> rfl); simp only [go_sem]) | ((with_reducible apply ops_skip); rfl; simp only [go_sem]) | ((with_reducible apply c_regionD); kernel_rfl) | ((first | ((with_reducible apply ops_eff); decide) | (with_reducible apply ops_lit)); rfl; (simp (disch := (first | omega | assumption | ((repeat' with_reducible apply And.intro) <;> first | omega | assumption | rfl | (apply Or.inl; rfl) | (apply Or.inr; first | rfl | trivial | fail) | fail) | fail)) only [go_sem, if_pos, if_neg, wrapI, wrapU, decide_eq_true, decide_eq_false, beqT, beqF, bneT, bneF, hm, hm2, hm3] <;> rfl); simp only [go_sem])); (repeat (first | with_reducible (first | refine c_seq ?_ | refine c_block ?_ | refine c_skip ?_ | refine c_exit ?_ | refine c_ret ?_ | refine then_normal ?_ | refine then_exit ?_ | refine then_ret ?_ | refine block_normal ?_ | refine block_here ?_ | refine block_ret ?_ | refine block_far (by decide) ?_ | refine ops_nil ?_ | refine c_cond_t rfl ?_ | refine c_cond_f rfl ?_) | ((with_reducible apply ops_pure); rfl; (simp (disch := (first | omega | assumption | ((repeat' with_reducible apply And.intro) <;> first | omega | assumption | rfl | (apply Or.inl; rfl) | (apply Or.inr; first | rfl | trivial | fail) | fail) | fail)) only [go_sem, if_pos, if_neg, wrapI, wrapU, decide_eq_true, decide_eq_false, beqT, beqF, bneT, bneF, hm, hm2, hm3] <;> rfl); simp only [go_sem]) | ((with_reducible apply ops_pureF); rfl; (intro _; simp (disch := (first | omega | assumption | ((repeat' with_reducible apply And.intro) <;> first | omega | assumption | rfl | (apply Or.inl; rfl) | (apply Or.inr; first | rfl | trivial | fail) | fail) | fail)) only [go_sem, if_pos, if_neg, wrapI, wrapU, decide_eq_true, decide_eq_false, beqT, beqF, bneT, bneF, hm, hm2, hm3] <;> rfl); simp only [go_sem]) | ((with_reducible apply ops_pureD); kernel_rfl; rfl; (simp (disch := (first | omega | assumption | ((repeat' with_reducible apply And.intro) <;> first | omega | assumption | rfl | (apply Or.inl; rfl) | (apply Or.inr; first | rfl | trivial | fail) | fail) | fail)) only [go_sem, if_pos, if_neg, wrapI, wrapU, decide_eq_true, decide_eq_false, beqT, beqF, bneT, bneF, hm, hm2, hm3] <;> rfl); simp only [go_sem]) | ((with_reducible apply ops_skip); rfl; simp only [go_sem]) | ((with_reducible apply c_regionD); kernel_rfl) | ((first | ((with_reducible apply ops_eff); decide) | (with_reducible apply ops_lit)); rfl; (simp (disch := (first | omega | assumption | ((repeat' with_reducible apply And.intro) <;> first | omega | assumption | rfl | (apply Or.inl; rfl) | (apply Or.inr; first | rfl | trivial | fail) | fail) | fail)) only [go_sem, if_pos, if_neg, wrapI, wrapU, decide_eq_true, decide_eq_false, beqT, beqF, bneT, bneF, hm, hm2, hm3] <;> rfl); simp only [go_sem]))); exact k.get)) : p := h k
theorem lcsv {p : Prop} (h : p := by simp (disch := (first | omega | assumption | ((repeat' with_reducible apply And.intro) <;> first | omega | assumption | rfl | (apply Or.inl; rfl) | (apply Or.inr; first | rfl | trivial | fail) | fail) | fail)) only [go_sem, if_pos, if_neg, wrapI, wrapU, decide_eq_true, decide_eq_false, beqT, beqF, bneT, bneF, hm, hm2, hm3] <;> rfl) : p := h
theorem lccall {T : Tab} {X : CallP} {n0 lo : Nat} {wt : List Tmp} {draw : Bool} {ops : Array Oper} {Q : St → Prop} {rest : List Oper} {o : Oper} {env : List D} {sto : Sto} {f : FuncId} {args : List D} (k : ∃ r, X f args sto (if draw then sto.length else lo) r sto ∧ EvOps T X n0 lo wt draw ops Q rest (St.put ⟨env, sto⟩ o.dst r)) (hg : guardD ops o env = some true := by rfl) (h : evCallee (opd env) sto o = some (f, args) := by simp (disch := (first | omega | assumption | ((repeat' with_reducible apply And.intro) <;> first | omega | assumption | rfl | (apply Or.inl; rfl) | (apply Or.inr; first | rfl | trivial | fail) | fail) | fail)) only [go_sem, if_pos, if_neg, wrapI, wrapU, decide_eq_true, decide_eq_false, beqT, beqF, bneT, bneF, hm, hm2, hm3] <;> rfl) : EvOps T X n0 lo wt draw ops Q (o :: rest) ⟨env, sto⟩ := k.elim fun _ k => ops_call hg h k.1 k.2
theorem matches_ev (n : Int) (l : List OpS) (hl : ∀ o ∈ l, o.ok) (hll : l.length < 9223372036854775808) (sto : Sto) (lo : Nat) (hlo : lo ≤ sto.length) : CD 3 [.v (VI n), .v (OPL l)] sto lo (.v (.bool true)) sto := by
  have hm : True := trivial
  have hm2 := hm
  have hm3 := hm
  have hsan := sanity_ev sto lo hlo
  have hcl := lenO l
  have hcg := fun i hi => cellsO l (i := i) hi
  rw [OPL]
  generalize (l.map OpS.cells).flatten = C at *
  refine CallEv.intro ⟨_, _, [], Try.func3, rfl, by decide, ?_⟩; simp only [go_sem, Try.ntmps3]
  (try refine lcgo ⟨?_⟩)
  ((refine lccall ?_); (refine ⟨_, hsan, ?_⟩); (try simp only [go_sem]))
  (try refine lcgo ⟨?_⟩)
  clear hsan
  by_cases hn : n < 1 ∨ n > 64
  · ((refine lccall ?_); (refine ⟨_, start_bad n hn sto lo hlo, ?_⟩); (try simp only [go_sem]))
    rcases hn with hn | hn
    · (try refine lcgo ⟨?_⟩)
      refine ⟨by first | exact .inr rfl | exact .inl rfl, .inl ⟨[], _, (by dsimp only [Try.f3]; exact lcsv), ?_, by simp⟩⟩
      rfl
    · by_cases hn1 : n < 1
      · (try refine lcgo ⟨?_⟩)
        refine ⟨by first | exact .inr rfl | exact .inl rfl, .inl ⟨[], _, (by dsimp only [Try.f3]; exact lcsv), ?_, by simp⟩⟩
        rfl
      · (try refine lcgo ⟨?_⟩)
        refine ⟨by first | exact .inr rfl | exact .inl rfl, .inl ⟨[], _, (by dsimp only [Try.f3]; exact lcsv), ?_, by simp⟩⟩
        rfl
  obtain ⟨m, rfl⟩ : ∃ m : Nat, n = m := ⟨n.toNat, by omega⟩
  have h0 : 0 < m := by omega
  have h64 : m ≤ 64 := by omega
  clear hn
  refine ops_callW rfl (by exact lcsv) (start_ev m h0 h64 sto lo hlo) ho_st0 ?_
  simp only [go_sem]
  by_cases h60 : l.length > 60
  · (try refine lcgo ⟨?_⟩)
    refine ⟨by first | exact .inr rfl | exact .inl rfl, .inl ⟨[], _, (by dsimp only [Try.f3]; exact lcsv), ?_, ?_⟩⟩
    · rfl
    · exact st2_take
  (try refine lcgo ⟨?_⟩)
  refine c_loop (fun g s => ∃ (i : Nat) (D : DK) (R : RK), (i ≤ l.length ∧ g = l.length - i ∧ Rel D R) ∧ (s.env.length = 79 ∧ s.sto = st2 sto D R ∧ s.env[0]? = some (.v (VI m)) ∧ s.env[1]? = some (.v (.sl l.length C)) ∧ s.env[5]? = some (.v (.bool true)) ∧ s.env[6]? = some (.ptr (sto.length + 3) 0) ∧ s.env[7]? = some (.ptr (sto.length + 4) 0) ∧ s.env[8]? = some (.v (.bool true)) ∧ s.env[9]? = some (.v (VI i)))) (.refl _) ⟨0, newD m, newRK m, ⟨by omega, rfl, rel_new h0 (by omega)⟩, rfl, rfl, ?_, ?_, ?_, ?_, ?_, ?_, ?_⟩ ?_
  all_goals first | rfl | skip
  rintro g s ⟨i, D, R, ⟨h1, rfl, hrel⟩, hL, hT, k0, k1, k5, k6, k7, k8, k9⟩
  obtain ⟨env, st0⟩ := s; obtain ⟨J, hJ⟩ := listJ hL; rw [show (List.range 79).map J = J 0 :: J 1 :: J 2 :: J 3 :: J 4 :: J 5 :: J 6 :: J 7 :: J 8 :: J 9 :: J 10 :: J 11 :: J 12 :: J 13 :: J 14 :: J 15 :: J 16 :: J 17 :: J 18 :: J 19 :: J 20 :: J 21 :: J 22 :: J 23 :: J 24 :: J 25 :: J 26 :: J 27 :: J 28 :: J 29 :: J 30 :: J 31 :: J 32 :: J 33 :: J 34 :: J 35 :: J 36 :: J 37 :: J 38 :: J 39 :: J 40 :: J 41 :: J 42 :: J 43 :: J 44 :: J 45 :: J 46 :: J 47 :: J 48 :: J 49 :: J 50 :: J 51 :: J 52 :: J 53 :: J 54 :: J 55 :: J 56 :: J 57 :: J 58 :: J 59 :: J 60 :: J 61 :: J 62 :: J 63 :: J 64 :: J 65 :: J 66 :: J 67 :: J 68 :: J 69 :: J 70 :: J 71 :: J 72 :: J 73 :: J 74 :: J 75 :: J 76 :: J 77 :: J 78 :: [] from by kernel_rfl] at hJ; replace k0 := Option.some.inj ((congrArg (·[0]?) hJ).symm.trans k0); replace k1 := Option.some.inj ((congrArg (·[1]?) hJ).symm.trans k1); replace k5 := Option.some.inj ((congrArg (·[5]?) hJ).symm.trans k5); replace k6 := Option.some.inj ((congrArg (·[6]?) hJ).symm.trans k6); replace k7 := Option.some.inj ((congrArg (·[7]?) hJ).symm.trans k7); replace k8 := Option.some.inj ((congrArg (·[8]?) hJ).symm.trans k8); replace k9 := Option.some.inj ((congrArg (·[9]?) hJ).symm.trans k9); rw [k0, k1, k5, k6, k7, k8, k9] at hJ; dsimp only at hJ hT; subst hJ; replace hT := hT.symm; subst hT; clear hL k0 k1 k5 k6 k7 k8 k9
  by_cases hb : i < l.length
  · have hm := hcg i hb
    have ho := hl _ (List.getElem_mem hb)
    clear hl hcg
    have c1 := do_ev D hrel.dok l[i] ho sto.length
    have c2 := rdo_ev R hrel.rok l[i] ho (sto.length + 4) (sto.length + 5) (by omega)
    obtain ⟨e1, e2⟩ := rel_do hrel l[i] ho
    rw [← e1] at c2
    clear e1 hrel
    generalize (doS D l[i]).2 = r at *
    generalize (doS D l[i]).1 = D1 at *
    generalize (rdoS R l[i]).1 = R1 at *
    obtain ⟨ra, re⟩ := r
    dsimp only at c1 c2
    have hs := same_ev D1 R1 e2 sto lo hlo
    (try refine lcgo ⟨?_⟩)
    refine ops_callW rfl (by exact lcsv) (DiskW.s2 c1 hlo) ho_st2 ?_; simp only [go_sem]
    (try refine lcgo ⟨?_⟩)
    refine ops_callW rfl (by exact lcsv) (RefW.s2 c2 hlo) ho_st2 ?_; simp only [go_sem]
    (try refine lcgo ⟨?_⟩)
    ((refine lccall ?_); (refine ⟨_, hs, ?_⟩); (try simp only [go_sem]))
    (try refine lcgo ⟨?_⟩)
    refine ⟨_, _, ?_, .refl _, i + 1, D1, R1, ⟨by omega, rfl, e2⟩, rfl, rfl, ?_, ?_, ?_, ?_, ?_, ?_, ?_⟩
    · omega
    all_goals rfl
  · (try refine lcgo ⟨?_⟩)
    refine ⟨by first | exact .inr rfl | exact .inl rfl, .inl ⟨[], _, (by dsimp only [Try.f3]; exact lcsv), ?_, ?_⟩⟩
    · rfl
    · exact st2_take
end Go.Proofs.Ytghdanpigohnjaa
namespace Go.Proofs.Ytghdanpigohnjaa.diskMatchesSpec
open Go Go.ChangeShapes Go.WideShapes Go.ChangeAt Go.RowKit

set_option maxRecDepth 100000 in
theorem lifted (os : Os) (started : os.Started) (H : Type) (enc : TypeId × Value → H) :
    ReturnsInHanded {} Try.checked os 3 .any (Rows.diskMatchesSpecSpec.pre6 enc Try.prog Try.f3 Rows.diskMatchesSpecRow.domain false) (Rows.diskMatchesSpecSpec.post enc Try.prog Try.f3 false true false false) := by
  refine returnsInHanded_of_change (C := Try.checked) own started (by kernel_rfl) Try.func3
    (ChangeSpec.witness6 (enc := enc) (C := Try.checked) false ⟨#[], #[.int .i64 0, .slice none 0 0], []⟩ 8 (by kernel_rfl) (by kernel_rfl) (by kernel_rfl) (by kernel_rfl)) ?_
  intro W base args ds gs before hval0 hW hcnd _
  have hval : ∀ (j : Nat) t v, Try.f3.params[j]? = some t → args[j]? = some v → Value.okWide Try.prog W .any base t v := hval0
  have hW' := hW
  obtain ⟨p, q, hA0, hV, rfl, hfz, hnd⟩ := hW
  have hA : DataW.TrodAll enc Try.prog W 0 (fun _ => true) true Try.f3.params.toList args.toList ds p := hA0
  rw [Try.params3] at hA hval
  obtain ⟨v0, vs0, d0, ds0, p0, q0, hargs, rfl, rfl, hd0, r0⟩ := trodAll_cons hA
  obtain ⟨v1, vs1, d1, ds1, p1, q1, rfl, rfl, rfl, hd1, r1⟩ := trodAll_cons r0
  obtain ⟨rfl, rfl, rfl⟩ := trodAll_nil r1
  obtain rfl : args = #[v0, v1] := by cases args; simp_all
  obtain ⟨a0, rfl, rfl, rfl, wa0⟩ := open_int Try.underlying3 (hval 0 3 v0 rfl rfl) hd0
  have b0 := i64_wf wa0
  obtain ⟨l1, h1⟩ := opens_ops.arg Try.underlying22 (hval 1 22 v1 rfl rfl) hd1
  refine (law_calls (vals := [.int .i64 a0, v1]) (xs := [VI a0, OPL l1]) dB_ok (matches_ev a0 l1 h1.1 h1.2.1 [] 0 (Nat.zero_le _)) (Pw.cons (rep_int a0) (Pw.cons h1.2.2 Pw.nil))).mono fun e W' ⟨he, hb⟩ => ?_
  subst he
  exact ⟨_, rfl, law_post hW' rfl laidOut (by kernel_rfl) rfl Try.underlying4 (fun ds h => match ds, h with | [_, _], _ => rfl) hb⟩

theorem proved : Rows.DiskMatchesSpecSaid :=
  OpenClaim.holds_of_wide 3 Try.f3 rfl rfl rfl rfl rfl rfl rfl ⟨rfl, rfl, rfl, rfl, rfl⟩ rfl rfl rfl rfl rfl (by kernel_rfl) Try.func3 (by kernel_rfl)
    (of_decide_eq_true (by kernel_rfl)) (by unfold Func.isWrapper; first | (rw [if_pos (by decide +kernel)]; kernel_rfl) | (rw [if_neg (by decide +kernel)]; exact ⟨rfl, rfl⟩))
    (fun os started H enc _ => lifted os started H enc)
#print axioms proved
end Go.Proofs.Ytghdanpigohnjaa.diskMatchesSpec
