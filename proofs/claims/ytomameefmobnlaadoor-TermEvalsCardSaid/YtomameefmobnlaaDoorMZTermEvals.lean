/-
  Terms: the law TermEvals. No condition of its own. TermEvals of layer 20: whatever the input, it returns true. The card ties word's table of operations to the program's text.
-/
import Derived.Test.YtomameefmobnlaaDoorM12
import Derived.Test.YtomameefmobnlaaDoorM3
import Derived.Test.YtomameefmobnlaaDoorCards
import Derived.Test.YtomameefmobnlaaDoorTie
import Derived.Test.YtomameefmobnlaaDoorM2
import Derived.SevenTiedAt
namespace Go.Proofs.YtomameefmobnlaaDoor
open Go Go.RowKit

attribute [local irreducible] EvOps EvC
attribute [local go_sem] List.getElem?_toArray getS List.flatten_cons List.flatten_nil List.contains_nil List.append_nil
set_option linter.unusedSimpArgs false
set_option linter.unusedVariables false
set_option maxRecDepth 100000
set_option maxHeartbeats 4000000
theorem big_smal {x : Int} (h : -100000 ≤ x ∧ x ≤ 100000) : Big x := ⟨by omega, by omega⟩
theorem wrap_big (x : Int) : Big (IntKind.wrap .i64 x) := by
  rw [IntKind.wrap_i64]
  exact ⟨by omega, by omega⟩
theorem lives_ev (sto : Sto) (lo : Nat) (hlo : lo ≤ sto.length) : CallEv Tryd.prog tab sortB 15 [] sto lo (.v (.bool true)) sto := livesV_ev valid_ev sto lo hlo
theorem varsK_len (l : List Int) (kind : Int) : (visK (termS l kind) []).length ≤ 64 ∧ varsK (termS l kind) = refVars (termS l kind) ∧ ∀ n ∈ visK (termS l kind) [], Big n := by
  have hok := term_vars l kind
  have he := vars_eq (fun p hp => ⟨(hok p hp).1, by have := (hok p hp).2.1; omega⟩)
  have h1 := keysS_length (mkK (visK (termS l kind) []))
  rw [he] at h1
  have h2 : (refVars (termS l kind)).length ≤ 64 := by
    unfold refVars
    exact upTo_len _ _
  simp only [mkK, List.length_map] at h1
  refine ⟨by omega, he, fun k hk => ?_⟩
  have h3 : k ∈ keysS (mkK (visK (termS l kind) [])) := by
    rw [keys_mk]; exact List.mem_mergeSort.2 hk
  have := varsS_range hok k h3
  exact ⟨by omega, by omega⟩
theorem termEvals_ev (l : List Int) (kind : Int) (vals : List Int) (n : Int) (hl : NumL l) (hk : Big kind) (hv : NumL vals) (hn : Big n) (sto : Sto) (lo : Nat) (hlo : lo ≤ sto.length) : CallEv Tryd.prog tab sortB 4 [.v (LI l), .v (VI kind), .v (LI vals), .v (VI n)] sto lo (.v (.bool true)) sto := by
  have hlv := fun sto lo hlo => lives_ev sto lo hlo
  have ht := fun sto lo hlo => (term_ev l kind hl hk sto lo hlo).up0 (B := sortB)
  have hv1 := fun sto lo hlo => (values_ev n hn sto lo hlo).up0 (B := sortB)
  have hv2 := fun sto lo hlo => (values_ev (IntKind.wrap .i64 (n * 7)) (wrap_big _) sto lo hlo).up0 (B := sortB)
  obtain ⟨hw, hsz⟩ := term_ok l kind
  obtain ⟨g1, g2, g3⟩ := varsK_len l kind
  have hvr := fun sto lo hlo => vars_ev (termS l kind) (by omega) g3 (by omega) sto lo hlo
  rw [g2] at hvr
  have hrv := fun sto lo hlo => (rVars_ev (termS l kind) (by omega) sto lo hlo).up0 (B := sortB)
  have hrl : (refVars (termS l kind)).length ≤ 64 := by
    unfold refVars
    exact upTo_len _ _
  have hsi := fun sto lo hlo => (sameInts_ev (refVars (termS l kind)) (refVars (termS l kind)) (by omega) (by omega) sto lo hlo).up0 (B := sortB)
  rw [decide_eq_true rfl] at hsi
  have hty := fun sto lo hlo => (type_ev (tsz (termS l kind)) (termS l kind) sto lo (Nat.le_refl _) (by omega) hlo).up0 (B := sortB)
  rw [hw.type] at hty
  have hls : ∀ x ∈ [vals, valuesS n, [], valuesS (IntKind.wrap .i64 (n * 7))], x.length < 9223372036854775808 ∧ ∀ y ∈ x, Big y := by
    intro x hx
    simp only [List.mem_cons, List.not_mem_nil, or_false] at hx
    rcases hx with rfl | rfl | rfl | rfl
    · exact ⟨hv.len, hv.big⟩
    · exact ⟨by rw [valuesS_length]; decide, fun y hy => big_smal (by have := valuesS_bound _ y hy; omega)⟩
    · exact ⟨by decide, fun y hy => by cases hy⟩
    · exact ⟨by rw [valuesS_length]; decide, fun y hy => big_smal (by have := valuesS_bound _ y hy; omega)⟩
  have hvsz : [vals, valuesS n, [], valuesS (IntKind.wrap .i64 (n * 7))].length = 4 := rfl
  generalize hkd : aroundS kind 2 = kd at *
  have hev : ∀ x, (x.length < 9223372036854775808 ∧ ∀ y ∈ x, Big y) → (∀ sto lo, lo ≤ sto.length → CallEv Tryd.prog tab sortB 20 [.v (TV (termS l kind)), .v (LI x)] sto lo (.v (VI (evalS x (termS l kind)))) sto) ∧ (∀ sto lo, lo ≤ sto.length → CallEv Tryd.prog tab sortB 21 [.v (TV (termS l kind)), .v (LI x)] sto lo (.v (VI (evalS x (termS l kind)))) sto) ∧ (-8 ≤ evalS x (termS l kind) ∧ evalS x (termS l kind) ≤ 7 ∧ (kd = 1 → evalS x (termS l kind) = 0 ∨ evalS x (termS l kind) = 1)) :=
    fun x hx => ⟨fun sto lo hlo => (eval_ev x hx.2 hx.1 hw sto lo hlo).up0, fun sto lo hlo => (rEval_ev x hx.2 hx.1 hw sto lo hlo).up0, eval_range hw x⟩
  clear g1 g2 g3 hw hsz hl hk hv hn hrl hkd
  obtain ⟨ls, hlsd⟩ : ∃ ls, ls = [vals, valuesS n, [], valuesS (IntKind.wrap .i64 (n * 7))] := ⟨_, rfl⟩
  rw [← hlsd] at hls hvsz
  generalize refVars (termS l kind) = rv at *
  generalize termS l kind = t at *
  obtain ⟨k0, n0, m0, l0⟩ := t
  refine CallEv.intro ⟨_, _, [], Tryd.func4, rfl, by decide, ?_⟩; simp only [go_sem, Tryd.ntmps4]
  repeat' (first | (refine go ⟨?_⟩) | (first | ((refine call ?_); (refine ⟨_, ht _ _ (by first | omega | (simp; done) | (simp; omega)), ?_⟩); (try simp only [go_sem])) | ((refine call ?_); (refine ⟨_, hv1 _ _ (by first | omega | (simp; done) | (simp; omega)), ?_⟩); (try simp only [go_sem])) | ((refine call ?_); (refine ⟨_, hv2 _ _ (by first | omega | (simp; done) | (simp; omega)), ?_⟩); (try simp only [go_sem])) | ((refine call ?_); (refine ⟨_, hvr _ _ (by first | omega | (simp; done) | (simp; omega)), ?_⟩); (try simp only [go_sem])) | ((refine call ?_); (refine ⟨_, hrv _ _ (by first | omega | (simp; done) | (simp; omega)), ?_⟩); (try simp only [go_sem])) | ((refine call ?_); (refine ⟨_, hsi _ _ (by first | omega | (simp; done) | (simp; omega)), ?_⟩); (try simp only [go_sem]))) | ((first | (refine bsp ?_ ?_) | (refine csp ?_ ?_)); all_goals (intro hb; (fail_if_success (cases hb; done)); (try simp only [decide_eq_true_eq, decide_eq_false_iff_not, beq_iff_eq, bne_iff_ne, ne_eq, beq_eq_false_iff_ne, bne_eq_false_iff_eq, Bool.not_eq_true', Bool.not_eq_false', Bool.and_eq_true, Bool.or_eq_true, Decidable.not_not] at hb); (try simp only [go_sem]))))
  refine c_loop (fun mm s => ∃ (i : Nat) (js : List Ent), (i ≤ 4 ∧ mm = 4 - i) ∧ (s.env.length = 67 ∧ s.sto = sto ++ .cells [.v (VI k0), .v (VI n0), .v (VI m0), .v (.sl l0.length (cellsTs l0))] :: js ∧ s.env[9]? = some (.ptr sto.length 0) ∧ s.env[10]? = some (.v (LLI ls)) ∧ s.env[11]? = some (.v (VI i)))) (.refl _) ⟨0, [], ⟨by omega, rfl⟩, rfl, rfl, ?_, ?_, ?_⟩ ?_
  all_goals first | rfl | (subst hlsd; rfl) | skip
  clear hlsd ht hv1 hv2 hvr hrv hsi
  rintro mm s ⟨i, js, ⟨h1, rfl⟩, hL, hT, k9, k10, k11⟩
  obtain ⟨env, st0⟩ := s; obtain ⟨J, hJ⟩ := listJ hL; rw [show (List.range 67).map J = J 0 :: J 1 :: J 2 :: J 3 :: J 4 :: J 5 :: J 6 :: J 7 :: J 8 :: J 9 :: J 10 :: J 11 :: J 12 :: J 13 :: J 14 :: J 15 :: J 16 :: J 17 :: J 18 :: J 19 :: J 20 :: J 21 :: J 22 :: J 23 :: J 24 :: J 25 :: J 26 :: J 27 :: J 28 :: J 29 :: J 30 :: J 31 :: J 32 :: J 33 :: J 34 :: J 35 :: J 36 :: J 37 :: J 38 :: J 39 :: J 40 :: J 41 :: J 42 :: J 43 :: J 44 :: J 45 :: J 46 :: J 47 :: J 48 :: J 49 :: J 50 :: J 51 :: J 52 :: J 53 :: J 54 :: J 55 :: J 56 :: J 57 :: J 58 :: J 59 :: J 60 :: J 61 :: J 62 :: J 63 :: J 64 :: J 65 :: J 66 :: [] from by kernel_rfl] at hJ; replace k9 := Option.some.inj ((congrArg (·[9]?) hJ).symm.trans k9); replace k10 := Option.some.inj ((congrArg (·[10]?) hJ).symm.trans k10); replace k11 := Option.some.inj ((congrArg (·[11]?) hJ).symm.trans k11); rw [k9, k10, k11] at hJ; dsimp only at hJ hT; subst hJ; replace hT := hT.symm; subst hT; clear hL k9 k10 k11
  by_cases hi : i < 4
  · obtain ⟨q1, q2, q3, q4, q5⟩ := hev ls[i] (hls _ (List.getElem_mem _))
    clear hev hls hlv
    generalize hvv : evalS ls[i] (.mk k0 n0 m0 l0) = v at *
    have hwr := fun sto lo hlo => (wWrap_ev v (big_smal (by omega)) sto lo hlo).up0 (B := sortB)
    rw [wrapS_id q3 q4] at hwr
    by_cases hkd : kd = 1
    · have q6 := q5 hkd
      clear q5
      subst hkd
      rcases q6 with q6 | q6
      all_goals
        rw [q6] at q1 q2 hwr
        repeat' (first | (refine go ⟨?_⟩) | (first | ((refine call ?_); (refine ⟨_, q1 _ _ (by first | omega | (simp; done) | (simp; omega)), ?_⟩); (try simp only [go_sem])) | ((refine call ?_); (refine ⟨_, q2 _ _ (by first | omega | (simp; done) | (simp; omega)), ?_⟩); (try simp only [go_sem])) | ((refine call ?_); (refine ⟨_, hwr _ _ (by first | omega | (simp; done) | (simp; omega)), ?_⟩); (try simp only [go_sem])) | ((refine call ?_); (refine ⟨_, hty _ _ (by first | omega | (simp; done) | (simp; omega)), ?_⟩); (try simp only [go_sem]))) | ((first | (refine bsp ?_ ?_) | (refine csp ?_ ?_)); all_goals (intro hb; (fail_if_success (cases hb; done)); (try simp only [decide_eq_true_eq, decide_eq_false_iff_not, beq_iff_eq, bne_iff_ne, ne_eq, beq_eq_false_iff_ne, bne_eq_false_iff_eq, Bool.not_eq_true', Bool.not_eq_false', Bool.and_eq_true, Bool.or_eq_true, Decidable.not_not] at hb); (try simp only [go_sem]))))
        refine ⟨_, _, ?_, .refl _, i + 1, _, ⟨by omega, rfl⟩, rfl, rfl, ?_, ?_, ?_⟩
        · omega
        all_goals rfl
    · clear q5
      repeat' (first | (refine go ⟨?_⟩) | (first | ((refine call ?_); (refine ⟨_, q1 _ _ (by first | omega | (simp; done) | (simp; omega)), ?_⟩); (try simp only [go_sem])) | ((refine call ?_); (refine ⟨_, q2 _ _ (by first | omega | (simp; done) | (simp; omega)), ?_⟩); (try simp only [go_sem])) | ((refine call ?_); (refine ⟨_, hwr _ _ (by first | omega | (simp; done) | (simp; omega)), ?_⟩); (try simp only [go_sem])) | ((refine call ?_); (refine ⟨_, hty _ _ (by first | omega | (simp; done) | (simp; omega)), ?_⟩); (try simp only [go_sem]))) | ((first | (refine bsp ?_ ?_) | (refine csp ?_ ?_)); all_goals (intro hb; (fail_if_success (cases hb; done)); (try simp only [decide_eq_true_eq, decide_eq_false_iff_not, beq_iff_eq, bne_iff_ne, ne_eq, beq_eq_false_iff_ne, bne_eq_false_iff_eq, Bool.not_eq_true', Bool.not_eq_false', Bool.and_eq_true, Bool.or_eq_true, Decidable.not_not] at hb); (try simp only [go_sem]))))
      refine ⟨_, _, ?_, .refl _, i + 1, _, ⟨by omega, rfl⟩, rfl, rfl, ?_, ?_, ?_⟩
      · omega
      all_goals rfl
  · repeat' (first | (refine go ⟨?_⟩) | (((refine call ?_); (refine ⟨_, hlv _ _ (by first | omega | (simp; done) | (simp; omega)), ?_⟩); (try simp only [go_sem]))) | ((first | (refine bsp ?_ ?_) | (refine csp ?_ ?_)); all_goals (intro hb; (fail_if_success (cases hb; done)); (try simp only [decide_eq_true_eq, decide_eq_false_iff_not, beq_iff_eq, bne_iff_ne, ne_eq, beq_eq_false_iff_ne, bne_eq_false_iff_eq, Bool.not_eq_true', Bool.not_eq_false', Bool.and_eq_true, Bool.or_eq_true, Decidable.not_not] at hb); (try simp only [go_sem]))))
    refine ⟨by first | exact .inr rfl | exact .inl rfl, .inl ⟨[], _, (by dsimp only [Tryd.f4]; exact sv), ?_, by simp⟩⟩
    rfl
end Go.Proofs.YtomameefmobnlaaDoor
namespace Go.Proofs.YtomameefmobnlaaDoor.termEvals
open Go Go.ChangeShapes Go.WideShapes Go.ChangeAt Go.RowKit

theorem door_met (os : Os) (args : Array Value) : laidMetH Tryd.prog Rows.termEvalsRow.laid ((World.doorLaid Tryd.prog 600 os).forCall (fun _ _ => 0) ⟨#[], args, []⟩).memory :=
  laidMetH_of_parts3 (fuel := 8) (laidMet_of_run' 8 (by kernel_rfl) (by kernel_rfl)) (by kernel_rfl) (by kernel_rfl)

set_option maxRecDepth 100000 in
theorem lifted (os : Os) (started : os.Started) (H : Type) (enc : TypeId × Value → H) :
    ReturnsInHanded {} Tryd.checked os 4 .any (fun w args => (Rows.termEvalsSpec.pre enc Tryd.prog Tryd.f4 [] false w args ∧ laidMetH Tryd.prog Rows.termEvalsRow.laid w) ∧ sizedMet enc Tryd.prog Tryd.f4 (OpenSpec.ofChange Rows.termEvalsSpec) false w args)
      (Rows.termEvalsSpec.post enc Tryd.prog Tryd.f4 false true false false) := by
  refine returnsInHanded_of_change_and (C := Tryd.checked) (X := fun w _ => laidMetH Tryd.prog Rows.termEvalsRow.laid w) (fun _ _ _ hh h => h.of_heap hh) own started (by kernel_rfl) Tryd.func4
    (ChangeSpec.witness_shaped (enc := enc) (C := Tryd.checked) (os := os) (X := fun w _ => laidMetH Tryd.prog Rows.termEvalsRow.laid w) false (World.doorLaid Tryd.prog 600 os) #[.slice none 0 0, .int .i64 0, .slice none 0 0, .int .i64 0] 8 rfl (World.shaped_of_RefB (by kernel_rfl) (by kernel_rfl)) (by kernel_rfl) (by kernel_rfl) (by kernel_rfl) (door_met os _)) ?_
  intro W base args ds gs before hval0 hW _ _ hL _
  have hval : ∀ (j : Nat) t v, Tryd.f4.params[j]? = some t → args[j]? = some v → Value.okWide Tryd.prog W .any base t v := hval0
  have hW' := hW
  obtain ⟨p, q, hA0, hV, rfl, hfz, hnd⟩ := hW
  have hA : DataW.TrodAll enc Tryd.prog W 0 (fun _ => true) true Tryd.f4.params.toList args.toList ds p := hA0
  rw [Tryd.params4] at hA hval
  obtain ⟨v0, vs0, d0, ds0, p0, q0, hargs, rfl, rfl, hd0, r0⟩ := trodAll_cons hA
  obtain ⟨v1, vs1, d1, ds1, p1, q1, rfl, rfl, rfl, hd1, r1⟩ := trodAll_cons r0
  obtain ⟨v2, vs2, d2, ds2, p2, q2, rfl, rfl, rfl, hd2, r2⟩ := trodAll_cons r1
  obtain ⟨v3, vs3, d3, ds3, p3, q3, rfl, rfl, rfl, hd3, r3⟩ := trodAll_cons r2
  obtain ⟨rfl, rfl, rfl⟩ := trodAll_nil r3
  obtain rfl : args = #[v0, v1, v2, v3] := by cases args; simp_all
  obtain ⟨l0, k0⟩ := (opens_slice Tryd.underlying22 (by kernel_rfl) (opens_int (k := .i64) Tryd.underlying3)).arg Tryd.underlying22 (hval 0 22 v0 rfl rfl) hd0
  obtain ⟨h0, q0⟩ := k0.ints
  have n0 := rd_len h0
  obtain ⟨a1, rfl, rfl, rfl, wa1⟩ := open_int Tryd.underlying3 (hval 1 3 v1 rfl rfl) hd1
  have b1 := i64_wf wa1
  obtain ⟨l2, k2⟩ := (opens_slice Tryd.underlying22 (by kernel_rfl) (opens_int (k := .i64) Tryd.underlying3)).arg Tryd.underlying22 (hval 2 22 v2 rfl rfl) hd2
  obtain ⟨h2, q2⟩ := k2.ints
  have n2 := rd_len h2
  obtain ⟨a3, rfl, rfl, rfl, wa3⟩ := open_int Tryd.underlying3 (hval 3 3 v3 rfl rfl) hd3
  have b3 := i64_wf wa3
  refine (law_calls (vals := [v0, .int .i64 a1, v2, .int .i64 a3]) (xs := [LI l0, VI a1, LI l2, VI a3]) sortB_ok (termEvals_ev l0 a1 l2 a3 ⟨n0, q0⟩ b1 ⟨n2, q2⟩ b3 [] 0 (Nat.le_refl _)) (glob_of_laid hL) (Pw.cons (rep_ints h0) (Pw.cons (rep_int a1) (Pw.cons (rep_ints h2) (Pw.cons (rep_int a3) (Pw.nil)))))).mono fun e W' ⟨he, hb⟩ => ?_
  subst he
  exact ⟨_, rfl, law_post hW' rfl laidOut (by kernel_rfl) rfl Tryd.underlying4 (fun ds h => match ds, h with | [_, _, _, _], _ => rfl) hb⟩

theorem said : Rows.TermEvalsSaid :=
  OpenClaim.holds_of_wide 4 Tryd.f4 rfl rfl rfl rfl rfl rfl rfl ⟨rfl, rfl, rfl, rfl, rfl⟩ rfl rfl rfl rfl rfl (by kernel_rfl) Tryd.func4 (by kernel_rfl)
    (of_decide_eq_true (by kernel_rfl)) (by unfold Func.isWrapper; first | (rw [if_pos (by decide +kernel)]; kernel_rfl) | (rw [if_neg (by decide +kernel)]; exact ⟨rfl, rfl⟩))
    (fun os started H enc _ => lifted os started H enc)

theorem plain (f : FuncId) (fn : Func) (hf : Tryd.pinned.checked.prog.funcNamed "scoria/scorialaw20.TermEvals" = some f) (hfn : Tryd.pinned.checked.prog.funcs[f]? = some fn) :
    false = Tryd.pinned.checked.prog.looks [] ∧ ∀ (j : Nat) t, fn.params[j]? = some t → Tryd.pinned.checked.prog.wantsStandIn t = false := by
  obtain rfl : f = 4 := Option.some.inj ((show Tryd.prog.funcNamed "scoria/scorialaw20.TermEvals" = some 4 by kernel_rfl).symm.trans hf) |>.symm
  obtain rfl : fn = Tryd.f4 := (Option.some.inj (Tryd.func4.symm.trans hfn)).symm
  refine ⟨by kernel_rfl, fun j t ht => ?_⟩
  have hall : (Tryd.f4.params.toList.all fun t => !(Tryd.prog.wantsStandIn t)) = true := by kernel_rfl
  have h := List.all_eq_true.1 hall t (Array.mem_toList_iff.2 (Array.mem_of_getElem? ht))
  exact (Bool.not_eq_true' _).mp h

/-- THE CARD. -/
theorem termEvals_holds : Rows.TermEvalsCardSaid :=
  Claim7.holds_tied_plain_at .later [] _ _ _ _ said (fun _ h => by cases h) (by kernel_rfl) (fun _ h => by cases h) termEvals_row_tie rfl ⟨rfl, rfl⟩ (by kernel_rfl) rfl plain (by kernel_rfl)
#print axioms termEvals_holds
end Go.Proofs.YtomameefmobnlaaDoor.termEvals
