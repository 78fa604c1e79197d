/-
  The law's two disks: their state, start, same. No condition of its own. The law's examples in plain words. No condition of its own. The disk: Clone. No condition of its own. The law's examples: sanity. No condition of its own. Slices of one-cell elements, for whatever program: 'OwnS': a slice of the call's own that reads as a list (it may be appended to, written into); 'RdS': a slice that reads as a list. The laws of append and make in these words. No condition of its own. Slices that are only read, for whatever program: 'RdL R w v as': the slice value v reads in world w as the list as, each element by R. It stays so where nothing below the blocks that are there changes. No condition of its own. From an argument's reading in the row to 'RdL': a slice (of slices ..) of one-cell elements reads as a list. No condition of its own. From the rows' arguments to plain data: numbers, strings, lists of numbers, lists of operations; from a law's contract to what the row asks. No condition of its own. The law's two disks: contracts at their state; lists of operations. No condition of its own.
-/
import Derived.Test.YtghdanpigohnjaaD4
import Derived.Test.YtghdanpigohnjaaD3
import Derived.WalkKit
import Derived.WalkSpells
import Derived.Lib.Hide
import Derived.Laws.AppendOwnNone
import Derived.Deep.Matrix
import Derived.OpenShut
import Derived.ProofKit
import Derived.Test.YtghdanpigohnjaaD0
import Derived.Deep.Slices
import Derived.ChangeMaps
namespace Go.Proofs.Ytghdanpigohnjaa
open Go Go.RowKit

attribute [local irreducible] EvOps EvC
attribute [local go_sem] List.getElem?_toArray List.flatten_cons List.flatten_nil List.contains_nil List.append_nil List.nil_append List.length_set Bool.and_self implies_true eq_self Nat.zero_mul Nat.add_zero Nat.zero_add Nat.sub_zero List.take_zero List.drop_zero List.drop_replicate Nat.sub_self List.replicate_zero List.map_nil List.map_append List.length_replicate
attribute [local go_sem] bytesV_bs strV_u8s bs_size u8s_len bs_extract bs_append bs_beq bs_nil bs_nil2
attribute [local go_sem] putD_len putD_b putD_p putD_w putD_d putD_app putD_put putD_get0 putD_get putD_set0 putD_set putD_take putD_takeN putD_setd putD_setw putD_setp getLD setLD
set_option linter.unusedSimpArgs false
set_option linter.unusedVariables false
set_option maxRecDepth 100000
set_option maxHeartbeats 4000000
attribute [local go_sem] take_u8 take_u8v drop_u8v len_u8v viewL_mv eqVs_u8s zsV_Z64 Z64_len Nat.min_self Nat.min_eq_right

theorem lago {p q : Prop} (k : Later q) (h : Later q → p := by (intro k; (first | with_reducible (first | refine c_seq ?_ | refine c_block ?_ | refine c_region ?_ | refine c_skip ?_ | refine c_exit ?_ | refine c_ret ?_ | refine then_normal ?_ | refine then_exit ?_ | refine then_ret ?_ | refine block_normal ?_ | refine block_here ?_ | refine block_ret ?_ | refine block_far (by decide) ?_ | refine ops_nil ?_ | refine c_cond_t rfl ?_ | refine c_cond_f rfl ?_) | ((with_reducible apply ops_pure); rfl; (simp (disch := (first | omega | assumption | ((repeat' with_reducible apply And.intro) <;> first | omega | assumption | rfl | (apply Or.inl; rfl) | (apply Or.inr; first | rfl | trivial | fail) | fail) | fail)) only [go_sem, if_pos, if_neg, wrapI, wrapU, decide_eq_true, decide_eq_false, beqT, beqF, bneT, bneF, hm, hm2, hm3] <;> rfl); simp only [go_sem]) | ((with_reducible apply ops_pureF); rfl; (intro _; simp (disch := (first | omega | assumption | ((repeat' with_reducible apply And.intro) <;> first | omega | assumption | rfl | (apply Or.inl; rfl) | (apply Or.inr; first | rfl | trivial | fail) | fail) | fail)) only [go_sem, if_pos, if_neg, wrapI, wrapU, decide_eq_true, decide_eq_false, beqT, beqF, bneT, bneF, hm, hm2, hm3] <;> rfl); simp only [go_sem]) | ((with_reducible apply ops_pureD); kernel_rfl; rfl; (simp (disch := (first | omega | assumption | ((repeat' with_reducible apply And.intro) <;> first | omega | assumption | rfl | (apply Or.inl; rfl) | (apply Or.inr; first | rfl | trivial | fail) | fail) | fail)) only [go_sem, if_pos, if_neg, wrapI, wrapU, decide_eq_true, decide_eq_false, beqT, beqF, bneT, bneF, hm, hm2, hm3] <;> rfl); simp only [go_sem]) | ((with_reducible apply ops_skip); rfl; simp only [go_sem]) | ((with_reducible apply c_regionD); kernel_rfl) | ((first | ((with_reducible apply ops_eff); decide) | (with_reducible apply ops_lit)); rfl; (simp (disch := (first | omega | assumption | ((repeat' with_reducible apply And.intro) <;> first | omega | assumption | rfl | (apply Or.inl; rfl) | (apply Or.inr; first | rfl | trivial | fail) | fail) | fail)) only [go_sem, if_pos, if_neg, wrapI, wrapU, decide_eq_true, decide_eq_false, beqT, beqF, bneT, bneF, hm, hm2, hm3] <;> rfl); simp only [go_sem])); (repeat (first | with_reducible (first | refine c_seq ?_ | refine c_block ?_ | refine c_region ?_ | refine c_skip ?_ | refine c_exit ?_ | refine c_ret ?_ | refine then_normal ?_ | refine then_exit ?_ | refine then_ret ?_ | refine block_normal ?_ | refine block_here ?_ | refine block_ret ?_ | refine block_far (by decide) ?_ | refine ops_nil ?_ | refine c_cond_t rfl ?_ | refine c_cond_f rfl ?_) | ((with_reducible apply ops_pure); rfl; (simp (disch := (first | omega | assumption | ((repeat' with_reducible apply And.intro) <;> first | omega | assumption | rfl | (apply Or.inl; rfl) | (apply Or.inr; first | rfl | trivial | fail) | fail) | fail)) only [go_sem, if_pos, if_neg, wrapI, wrapU, decide_eq_true, decide_eq_false, beqT, beqF, bneT, bneF, hm, hm2, hm3] <;> rfl); simp only [go_sem]) | ((with_reducible apply ops_pureF); rfl; (intro _; simp (disch := (first | omega | assumption | ((repeat' with_reducible apply And.intro) <;> first | omega | assumption | rfl | (apply Or.inl; rfl) | (apply Or.inr; first | rfl | trivial | fail) | fail) | fail)) only [go_sem, if_pos, if_neg, wrapI, wrapU, decide_eq_true, decide_eq_false, beqT, beqF, bneT, bneF, hm, hm2, hm3] <;> rfl); simp only [go_sem]) | ((with_reducible apply ops_pureD); kernel_rfl; rfl; (simp (disch := (first | omega | assumption | ((repeat' with_reducible apply And.intro) <;> first | omega | assumption | rfl | (apply Or.inl; rfl) | (apply Or.inr; first | rfl | trivial | fail) | fail) | fail)) only [go_sem, if_pos, if_neg, wrapI, wrapU, decide_eq_true, decide_eq_false, beqT, beqF, bneT, bneF, hm, hm2, hm3] <;> rfl); simp only [go_sem]) | ((with_reducible apply ops_skip); rfl; simp only [go_sem]) | ((with_reducible apply c_regionD); kernel_rfl) | ((first | ((with_reducible apply ops_eff); decide) | (with_reducible apply ops_lit)); rfl; (simp (disch := (first | omega | assumption | ((repeat' with_reducible apply And.intro) <;> first | omega | assumption | rfl | (apply Or.inl; rfl) | (apply Or.inr; first | rfl | trivial | fail) | fail) | fail)) only [go_sem, if_pos, if_neg, wrapI, wrapU, decide_eq_true, decide_eq_false, beqT, beqF, bneT, bneF, hm, hm2, hm3] <;> rfl); simp only [go_sem]))); exact k.get)) : p := h k
theorem lagoX {p q : Prop} (k : Later q) (h : Later q → p := by (intro k; (first | with_reducible (first | refine c_seq ?_ | refine c_block ?_ | refine c_skip ?_ | refine c_exit ?_ | refine c_ret ?_ | refine then_normal ?_ | refine then_exit ?_ | refine then_ret ?_ | refine block_normal ?_ | refine block_here ?_ | refine block_ret ?_ | refine block_far (by decide) ?_ | refine ops_nil ?_ | refine c_cond_t rfl ?_ | refine c_cond_f rfl ?_) | ((with_reducible apply ops_pure); rfl; (simp (disch := (first | omega | assumption | ((repeat' with_reducible apply And.intro) <;> first | omega | assumption | rfl | (apply Or.inl; rfl) | (apply Or.inr; first | rfl | trivial | fail) | fail) | fail)) only [go_sem, if_pos, if_neg, wrapI, wrapU, decide_eq_true, decide_eq_false, beqT, beqF, bneT, bneF, hm, hm2, hm3] <;> rfl); simp only [go_sem]) | ((with_reducible apply ops_pureF); rfl; (intro _; simp (disch := (first | omega | assumption | ((repeat' with_reducible apply And.intro) <;> first | omega | assumption | rfl | (apply Or.inl; rfl) | (apply Or.inr; first | rfl | trivial | fail) | fail) | fail)) only [go_sem, if_pos, if_neg, wrapI, wrapU, decide_eq_true, decide_eq_false, beqT, beqF, bneT, bneF, hm, hm2, hm3] <;> rfl); simp only [go_sem]) | ((with_reducible apply ops_pureD); kernel_rfl; rfl; (simp (disch := (first | omega | assumption | ((repeat' with_reducible apply And.intro) <;> first | omega | assumption | rfl | (apply Or.inl; rfl) | (apply Or.inr; first | rfl | trivial | fail) | fail) | fail)) only [go_sem, if_pos, if_neg, wrapI, wrapU, decide_eq_true, decide_eq_false, beqT, beqF, bneT, bneF, hm, hm2, hm3] <;> rfl); simp only [go_sem]) | ((with_reducible apply ops_skip); rfl; simp only [go_sem]) | ((with_reducible apply c_regionD); kernel_rfl) | ((first | ((with_reducible apply ops_eff); decide) | (with_reducible apply ops_lit)); rfl; (simp (disch := (first | omega | assumption | ((repeat' with_reducible apply And.intro) <;> first | omega | assumption | rfl | (apply Or.inl; rfl) | (apply Or.inr; first | rfl | trivial | fail) | fail) | fail)) only [go_sem, if_pos, if_neg, wrapI, wrapU, decide_eq_true, decide_eq_false, beqT, beqF, bneT, bneF, hm, hm2, hm3] <;> rfl); simp only [go_sem])); (repeat (first | with_reducible (first | refine c_seq ?_ | refine c_block ?_ | refine c_skip ?_ | refine c_exit ?_ | refine c_ret ?_ | refine then_normal ?_ | refine then_exit ?_ | refine then_ret ?_ | refine block_normal ?_ | refine block_here ?_ | refine block_ret ?_ | refine block_far (by decide) ?_ | refine ops_nil ?_ | refine c_cond_t rfl ?_ | refine c_cond_f rfl ?_) | ((with_reducible apply ops_pure); rfl; (simp (disch := (first | omega | assumption | ((repeat' with_reducible apply And.intro) <;> first | omega | assumption | rfl | (apply Or.inl; rfl) | (apply Or.inr; first | rfl | trivial | fail) | fail) | fail)) only [go_sem, if_pos, if_neg, wrapI, wrapU, decide_eq_true, decide_eq_false, beqT, beqF, bneT, bneF, hm, hm2, hm3] <;> rfl); simp only [go_sem]) | ((with_reducible apply ops_pureF); rfl; (intro _; simp (disch := (first | omega | assumption | ((repeat' with_reducible apply And.intro) <;> first | omega | assumption | rfl | (apply Or.inl; rfl) | (apply Or.inr; first | rfl | trivial | fail) | fail) | fail)) only [go_sem, if_pos, if_neg, wrapI, wrapU, decide_eq_true, decide_eq_false, beqT, beqF, bneT, bneF, hm, hm2, hm3] <;> rfl); simp only [go_sem]) | ((with_reducible apply ops_pureD); kernel_rfl; rfl; (simp (disch := (first | omega | assumption | ((repeat' with_reducible apply And.intro) <;> first | omega | assumption | rfl | (apply Or.inl; rfl) | (apply Or.inr; first | rfl | trivial | fail) | fail) | fail)) only [go_sem, if_pos, if_neg, wrapI, wrapU, decide_eq_true, decide_eq_false, beqT, beqF, bneT, bneF, hm, hm2, hm3] <;> rfl); simp only [go_sem]) | ((with_reducible apply ops_skip); rfl; simp only [go_sem]) | ((with_reducible apply c_regionD); kernel_rfl) | ((first | ((with_reducible apply ops_eff); decide) | (with_reducible apply ops_lit)); rfl; (simp (disch := (first | omega | assumption | ((repeat' with_reducible apply And.intro) <;> first | omega | assumption | rfl | (apply Or.inl; rfl) | (apply Or.inr; first | rfl | trivial | fail) | fail) | fail)) only [go_sem, if_pos, if_neg, wrapI, wrapU, decide_eq_true, decide_eq_false, beqT, beqF, bneT, bneF, hm, hm2, hm3] <;> rfl); simp only [go_sem]))); exact k.get)) : p := h k
theorem lasv {p : Prop} (h : p := by simp (disch := (first | omega | assumption | ((repeat' with_reducible apply And.intro) <;> first | omega | assumption | rfl | (apply Or.inl; rfl) | (apply Or.inr; first | rfl | trivial | fail) | fail) | fail)) only [go_sem, if_pos, if_neg, wrapI, wrapU, decide_eq_true, decide_eq_false, beqT, beqF, bneT, bneF, hm, hm2, hm3] <;> rfl) : p := h
theorem lacall {T : Tab} {X : CallP} {n0 lo : Nat} {wt : List Tmp} {draw : Bool} {ops : Array Oper} {Q : St → Prop} {rest : List Oper} {o : Oper} {env : List D} {sto : Sto} {f : FuncId} {args : List D} (k : ∃ r, X f args sto (if draw then sto.length else lo) r sto ∧ EvOps T X n0 lo wt draw ops Q rest (St.put ⟨env, sto⟩ o.dst r)) (hg : guardD ops o env = some true := by rfl) (h : evCallee (opd env) sto o = some (f, args) := by simp (disch := (first | omega | assumption | ((repeat' with_reducible apply And.intro) <;> first | omega | assumption | rfl | (apply Or.inl; rfl) | (apply Or.inr; first | rfl | trivial | fail) | fail) | fail)) only [go_sem, if_pos, if_neg, wrapI, wrapU, decide_eq_true, decide_eq_false, beqT, beqF, bneT, bneF, hm, hm2, hm3] <;> rfl) : EvOps T X n0 lo wt draw ops Q (o :: rest) ⟨env, sto⟩ := k.elim fun _ k => ops_call hg h k.1 k.2
@[irreducible] def st2 (sto : Sto) (D : DK) (R : RK) : Sto := sto ++ newE sto.length D ++ newRE (sto.length + 4) R
theorem st2_len {sto : Sto} {D : DK} {R : RK} : (st2 sto D R).length = sto.length + 6 := by unfold st2; simp [newE, newRE]
theorem st2_lt {sto : Sto} {D : DK} {R : RK} {i : Nat} (h : i < sto.length) : (st2 sto D R)[i]? = sto[i]? := by
  unfold st2
  rw [List.append_assoc, List.getElem?_append_left h]
theorem st2_take {sto : Sto} {D : DK} {R : RK} : (st2 sto D R).take sto.length = sto := by
  unfold st2
  rw [List.append_assoc, List.take_left]
theorem st2_at {sto : Sto} {D : DK} {R : RK} (j : Nat) : (st2 sto D R)[sto.length + j]? = (newE sto.length D ++ newRE (sto.length + 4) R)[j]? := by
  unfold st2
  rw [List.append_assoc, List.getElem?_append_right (by omega), Nat.add_sub_cancel_left]
theorem st2_disk {sto : Sto} {D : DK} {R : RK} : DiskAt (st2 sto D R) sto.length D := ⟨st2_at 0, st2_at 1, st2_at 2, st2_at 3⟩
theorem st2_ref {sto : Sto} {D : DK} {R : RK} : RefAt (st2 sto D R) (sto.length + 4) (sto.length + 5) R := ⟨st2_at 5, st2_at 4⟩
theorem ext_nat {s t : Sto} {n : Nat} (h1 : s.length = t.length) (h : ∀ i, i < n → s[i]? = t[i]?) (h2 : ∀ j, s[n + j]? = t[n + j]?) : s = t := by
  apply List.ext_getElem?
  intro i
  by_cases hi : i < n
  · exact h i hi
  · have := h2 (i - n)
    rwa [show n + (i - n) = i by omega] at this
theorem st2_putD {sto : Sto} {D E : DK} {R : RK} : putD (st2 sto D R) sto.length E = st2 sto E R := by
  refine (putD_eq (by rw [st2_len, st2_len]) st2_disk fun i hi => ?_).symm
  by_cases h : i < sto.length
  · rw [st2_lt h, st2_lt h]
  · obtain ⟨j, rfl⟩ : ∃ j, i = sto.length + (j + 4) := ⟨i - sto.length - 4, by omega⟩
    rw [st2_at, st2_at]
    rfl
theorem st2_putR {sto : Sto} {D : DK} {R S : RK} : putR (st2 sto D R) (sto.length + 4) (sto.length + 5) S = st2 sto D S := by
  refine (putR_eq (by omega) (by rw [st2_len, st2_len]) st2_ref fun i h1 h2 => ?_).symm
  by_cases h : i < sto.length
  · rw [st2_lt h, st2_lt h]
  · obtain ⟨j, rfl⟩ : ∃ j, i = sto.length + j := ⟨i - sto.length, by omega⟩
    rw [st2_at, st2_at]
    match j with
    | 0 | 1 | 2 | 3 => rfl
    | 4 => exact absurd rfl h1
    | 5 => exact absurd rfl h2
    | j + 6 => rfl
/-- Contracts at a state that holds the object. -/
theorem DiskR.here {f : FuncId} {args : List _root_.Go.Proofs.Ytghdanpigohnjaa.D} {k : Nat} {K : DK} {r : _root_.Go.Proofs.Ytghdanpigohnjaa.D} (h : DiskR f args k K r) {s : Sto} (ha : DiskAt s k K) {lo : Nat} (hlo : lo ≤ s.length) : CD f args s lo r s := by
  have := h s lo ha.lt hlo
  rwa [putD_same ha] at this
theorem DiskW.here {f : FuncId} {args : List _root_.Go.Proofs.Ytghdanpigohnjaa.D} {k : Nat} {K E : DK} {r : _root_.Go.Proofs.Ytghdanpigohnjaa.D} (h : DiskW f args k K r E) {s : Sto} (ha : DiskAt s k K) {lo : Nat} (hlo : lo ≤ k) : CD f args s lo r (putD s k E) := by
  have := h s lo ha.lt hlo
  rwa [putD_same ha] at this
theorem RefR.here {f : FuncId} {args : List _root_.Go.Proofs.Ytghdanpigohnjaa.D} {q a : Nat} {K : RK} {r : _root_.Go.Proofs.Ytghdanpigohnjaa.D} (h : RefR f args q a K r) (hqa : q ≠ a) {s : Sto} (ha : RefAt s q a K) {lo : Nat} (hlo : lo ≤ s.length) : CD f args s lo r s := by
  have := h s lo ha.lt.1 ha.lt.2 hlo
  rwa [putR_same hqa ha] at this
theorem RefW.here {f : FuncId} {args : List _root_.Go.Proofs.Ytghdanpigohnjaa.D} {q a : Nat} {K E : RK} {r : _root_.Go.Proofs.Ytghdanpigohnjaa.D} (h : RefW f args q a K r E) (hqa : q ≠ a) {s : Sto} (ha : RefAt s q a K) {lo : Nat} (h1 : lo ≤ q) (h2 : lo ≤ a) : CD f args s lo r (putR s q a E) := by
  have := h s lo ha.lt.1 ha.lt.2 h1 h2
  rwa [putR_same hqa ha] at this
theorem ho_st2 {lo : Nat} {sto : Sto} {D E : DK} {R S : RK} : ∀ i ds, lo ≤ i → i < sto.length → (st2 sto E S)[i]? = some (.cells ds) → (st2 sto D R)[i]? = some (.cells ds) ∨ scopedL sto.length ds = true := by
  intro i ds _ h1 h2
  rw [st2_lt h1] at h2 ⊢
  exact .inl h2
theorem ho_new {lo : Nat} {sto l : Sto} : ∀ i ds, lo ≤ i → i < sto.length → (sto ++ l)[i]? = some (.cells ds) → sto[i]? = some (.cells ds) ∨ scopedL sto.length ds = true := by
  intro i ds _ h1 h2
  rw [List.getElem?_append_left h1] at h2
  exact .inl h2
theorem newE_len {sto : Sto} {k : Nat} {D : DK} : (sto ++ newE k D).length = sto.length + 4 := by simp [newE]
theorem ho_new2 {lo : Nat} {sto l : Sto} {D : DK} {R : RK} : ∀ i ds, lo ≤ i → i < sto.length → (st2 sto D R)[i]? = some (.cells ds) → (sto ++ l)[i]? = some (.cells ds) ∨ scopedL sto.length ds = true := by
  intro i ds _ h1 h2
  rw [st2_lt h1] at h2
  rw [List.getElem?_append_left h1]
  exact .inl h2
theorem start_bad (n : Int) (h : n < 1 ∨ n > 64) (sto : Sto) (lo : Nat) (hlo : lo ≤ sto.length) : CD 9 [.v (VI n)] sto lo (.tupD [.nilp, .nilp, .v (.bool false)]) sto := by
  have hm : True := trivial
  have hm2 := hm
  have hm3 := hm
  refine CallEv.intro ⟨_, _, [], Try.func9, rfl, by decide, ?_⟩; simp only [go_sem, Try.ntmps9]
  by_cases h1 : n < 1
  · (try refine lago ⟨?_⟩)
    refine ⟨by first | exact .inr rfl | exact .inl rfl, .inr (.inr (.inr ⟨_, (by dsimp only [Try.f9]; exact lasv), ?_, ?_⟩))⟩
    · rfl
    · rfl
  · have h2 : n > 64 := by omega
    (try refine lago ⟨?_⟩)
    refine ⟨by first | exact .inr rfl | exact .inl rfl, .inr (.inr (.inr ⟨_, (by dsimp only [Try.f9]; exact lasv), ?_, ?_⟩))⟩
    · rfl
    · rfl
theorem start_ev (n : Nat) (h0 : 0 < n) (h : n ≤ 64) (sto : Sto) (lo : Nat) (hlo : lo ≤ sto.length) : CD 9 [.v (VI n)] sto lo (.tupD [.ptr (sto.length + 3) 0, .ptr (sto.length + 4) 0, .v (.bool true)]) (st2 sto (newD n) (newRK n)) := by
  have hm : True := trivial
  have hm2 := hm
  have hm3 := hm
  have hn := new_ev n h0 (by omega) sto lo hlo
  have hr := rnew_ev n h0 (by omega) (sto ++ newE sto.length (newD n)) lo (by rw [newE_len]; omega)
  rw [newE_len, show sto ++ newE sto.length (newD n) ++ newRE (sto.length + 4) (newRK n) = st2 sto (newD n) (newRK n) by unfold st2; rfl] at hr
  refine CallEv.intro ⟨_, _, [], Try.func9, rfl, by decide, ?_⟩; simp only [go_sem, Try.ntmps9]
  (try refine lago ⟨?_⟩)
  refine ops_callW rfl (by exact lasv) hn ho_new ?_
  simp only [go_sem]
  (try refine lago ⟨?_⟩)
  refine ops_callW rfl (by exact lasv) hr ho_new2 ?_
  simp only [go_sem]
  (try refine lago ⟨?_⟩)
  refine ⟨by first | exact .inr rfl | exact .inl rfl, .inr (.inr (.inr ⟨_, (by dsimp only [Try.f9]; exact lasv), ?_, ?_⟩))⟩
  · rfl
  · rfl
theorem same_ev (D : DK) (R : RK) (h : Rel D R) (sto : Sto) (lo : Nat) (hlo : lo ≤ sto.length) : CD 12 [.ptr (sto.length + 3) 0, .ptr (sto.length + 4) 0] (st2 sto D R) lo (.v (.bool true)) (st2 sto D R) := by
  have hm : True := trivial
  have hm2 := hm
  have hm3 := hm
  have e1 := rel_img h
  have e2 := rel_pend h
  have e3 := rel_worn h
  have e4 := h.len
  have e5 := h.off
  have hq : sto.length + 4 ≠ sto.length + 5 := by omega
  have c1 := image_ev D h.dok sto.length
  have c2 := rimage_ev R h.rok _ _ hq
  have c3 := pending_ev D h.dok sto.length
  have c4 := rpending_ev R h.rok _ _ hq
  have c5 := worn_ev D h.dok sto.length
  have c6 := rworn_ev R h.rok _ _ hq
  have c7 := len_ev D sto.length
  have c8 := rlen_ev R _ _ hq
  have c9 := up_ev D sto.length
  have c10 := rup_ev R _ _ hq
  have b1 : D.bl.length ≤ 4096 := h.dok.2.2.2.2.2.1
  have b2 : (pendS D).length ≤ 4096 := pend_len h.dok
  have b3 : (wornS D).length ≤ 4096 := by rw [wornS, List.length_mergeSort]; exact wn_len h.dok
  rw [← e1] at c2
  rw [← e2] at c4
  rw [← e3] at c6
  rw [← e4] at c8
  rw [← e5] at c10
  have s1 := fun (st : Sto) (l2 : Nat) (hl : l2 ≤ st.length) => sameTexts_ev D.bl D.bl (by omega) (by omega) st l2 hl
  have s2 := fun (st : Sto) (l2 : Nat) (hl : l2 ≤ st.length) => rsameInts_ev (pendS D) (pendS D) (by omega) (by omega) st l2 hl
  have s3 := fun (st : Sto) (l2 : Nat) (hl : l2 ≤ st.length) => rsameInts_ev (wornS D) (wornS D) (by omega) (by omega) st l2 hl
  rw [decide_eq_true rfl] at s1 s2 s3
  clear e1 e2 e3 e4 e5
  have hl2 : lo ≤ (st2 sto D R).length := by rw [st2_len]; omega
  refine CallEv.intro ⟨_, _, [], Try.func12, rfl, by decide, ?_⟩; simp only [go_sem, Try.ntmps12]
  (try refine lago ⟨?_⟩)
  ((refine lacall ?_); (refine ⟨_, DiskR.here c1 st2_disk (by simp only [Bool.false_eq_true, if_false]; exact hl2), ?_⟩); (try simp only [go_sem]))
  (try refine lago ⟨?_⟩)
  ((refine lacall ?_); (refine ⟨_, RefR.here c2 (by omega) st2_ref (by simp only [Bool.false_eq_true, if_false]; exact hl2), ?_⟩); (try simp only [go_sem]))
  (try refine lago ⟨?_⟩)
  ((refine lacall ?_); (refine ⟨_, s1 _ _ hl2, ?_⟩); (try simp only [go_sem]))
  (try refine lago ⟨?_⟩)
  ((refine lacall ?_); (refine ⟨_, DiskR.here c3 st2_disk (by simp only [Bool.false_eq_true, if_false]; exact hl2), ?_⟩); (try simp only [go_sem]))
  (try refine lago ⟨?_⟩)
  ((refine lacall ?_); (refine ⟨_, RefR.here c4 (by omega) st2_ref (by simp only [Bool.false_eq_true, if_false]; exact hl2), ?_⟩); (try simp only [go_sem]))
  (try refine lago ⟨?_⟩)
  ((refine lacall ?_); (refine ⟨_, s2 _ _ hl2, ?_⟩); (try simp only [go_sem]))
  (try refine lago ⟨?_⟩)
  ((refine lacall ?_); (refine ⟨_, DiskR.here c5 st2_disk (by simp only [Bool.false_eq_true, if_false]; exact hl2), ?_⟩); (try simp only [go_sem]))
  (try refine lago ⟨?_⟩)
  ((refine lacall ?_); (refine ⟨_, RefR.here c6 (by omega) st2_ref (by simp only [Bool.false_eq_true, if_false]; exact hl2), ?_⟩); (try simp only [go_sem]))
  (try refine lago ⟨?_⟩)
  ((refine lacall ?_); (refine ⟨_, s3 _ _ hl2, ?_⟩); (try simp only [go_sem]))
  (try refine lago ⟨?_⟩)
  ((refine lacall ?_); (refine ⟨_, DiskR.here c7 st2_disk (by simp only [Bool.false_eq_true, if_false]; exact hl2), ?_⟩); (try simp only [go_sem]))
  (try refine lago ⟨?_⟩)
  ((refine lacall ?_); (refine ⟨_, RefR.here c8 (by omega) st2_ref (by simp only [Bool.false_eq_true, if_false]; exact hl2), ?_⟩); (try simp only [go_sem]))
  (try refine lago ⟨?_⟩)
  ((refine lacall ?_); (refine ⟨_, DiskR.here c9 st2_disk (by simp only [Bool.false_eq_true, if_false]; exact hl2), ?_⟩); (try simp only [go_sem]))
  (try refine lago ⟨?_⟩)
  ((refine lacall ?_); (refine ⟨_, RefR.here c10 (by omega) st2_ref (by simp only [Bool.false_eq_true, if_false]; exact hl2), ?_⟩); (try simp only [go_sem]))
  (try refine lago ⟨?_⟩)
  refine ⟨by first | exact .inr rfl | exact .inl rfl, .inl ⟨[], _, (by dsimp only [Try.f12]; exact lasv), ?_, ?_⟩⟩
  · cases D.off <;> rfl
  · exact List.take_of_length_le (Nat.le_refl _)
end Go.Proofs.Ytghdanpigohnjaa
namespace Go.Proofs.Ytghdanpigohnjaa
open Go Go.RowKit
def XA : By := fullB 97
def XB : By := [97, 97, 97] ++ List.replicate 61 0
def XC : By := 96 :: List.replicate 63 97
theorem pend1 (bl : List By) (i : Int) (b : By) (wn : List Int) (off : Bool) (lf : Int) : pendS ⟨bl, [(i, b)], wn, off, lf⟩ = [i] := by
  simp [pendS]
def X1 : DK := ⟨[Z64, Z64], [(0, XA)], [], false, -1⟩
def X2 : DK := ⟨[XB, Z64], [], [], false, -1⟩
def X3 : DK := ⟨[XB, Z64], [(1, XA)], [], false, -1⟩
def X4 : DK := ⟨[XB, XA], [], [], false, -1⟩
def X5 : DK := ⟨[XB, XC], [], [], false, -1⟩
def X6 : DK := ⟨[XB, XC], [], [0], false, -1⟩
def X7 : DK := ⟨[XB, XC], [], [0], false, 1⟩
def X8 : DK := ⟨[XB, XC], [(0, fullB 98)], [0], false, 0⟩
def X9 : DK := ⟨[XB, XC], [(0, fullB 98)], [0], true, 0⟩
theorem x1 : writeS (newD 2) 0 XA = (X1, 0) := by kernel_rfl
theorem x1r : readS X1 0 = (XA, 0) := by kernel_rfl
theorem x1p : pendS X1 = [0] := pend1 _ _ _ _ _ _
theorem x2 : mountS X1 [3] = X2 := by
  simp only [mountS, x1p]
  kernel_rfl
theorem x2r : readS X2 0 = (XB, 0) := by kernel_rfl
theorem x3 : writeS X2 1 XA = (X3, 0) := by kernel_rfl
theorem x4 : flushS X3 = (X4, 0) := by
  have e : stepS X3 = (X3, 0) := by kernel_rfl
  have c : checkS X3 0 = 0 := by kernel_rfl
  have p : pendS X3 = [1] := pend1 _ _ _ _ _ _
  rw [flushS, c, e]
  show (settleN X3 (pendS X3) (fun _ => 64) (pendS X3).length, (0 : Int)) = _
  rw [p]
  kernel_rfl
theorem x5 : rotS X4 1 0 = (X5, 0) := by kernel_rfl
theorem x5r : readS X5 1 = (XC, 0) := by kernel_rfl
theorem x6 : wearS X5 0 = (X6, 0) := by kernel_rfl
theorem x7 : { X6 with lf := 1 } = X7 := rfl
theorem x8 : writeS X7 0 (fullB 98) = (X8, 0) := by kernel_rfl
theorem x9 : flushS X8 = (X9, 18) := by
  have c : checkS X8 0 = 0 := by kernel_rfl
  have e : stepS X8 = (X9, 18) := by kernel_rfl
  simp [flushS, c, e]
theorem x9r : readS X9 0 = ([], 18) := by kernel_rfl
theorem x9w : wornS X9 = [0] := by simp [wornS, X9]
end Go.Proofs.Ytghdanpigohnjaa
namespace Go.Proofs.Ytghdanpigohnjaa
open Go Go.RowKit

attribute [local irreducible] EvOps EvC
attribute [local go_sem] List.getElem?_toArray List.flatten_cons List.flatten_nil List.contains_nil List.append_nil List.nil_append List.length_set Bool.and_self implies_true eq_self Nat.zero_mul Nat.add_zero Nat.zero_add Nat.sub_zero List.take_zero List.drop_zero List.drop_replicate Nat.sub_self List.replicate_zero List.map_nil List.map_append List.length_replicate
attribute [local go_sem] bytesV_bs strV_u8s bs_size u8s_len bs_extract bs_append bs_beq bs_nil bs_nil2
attribute [local go_sem] putD_len putD_b putD_p putD_w putD_d putD_app putD_put putD_get0 putD_get putD_set0 putD_set putD_take putD_takeN putD_setd putD_setw putD_setp getLD setLD
set_option linter.unusedSimpArgs false
set_option linter.unusedVariables false
set_option maxRecDepth 100000
set_option maxHeartbeats 4000000
attribute [local go_sem] take_u8 take_u8v drop_u8v len_u8v viewL_mv eqVs_u8s zsV_Z64 Z64_len Nat.min_self Nat.min_eq_right

theorem sclone_ev (D : DK) (hD : D.ok) (k : Nat) (sto : Sto) (lo : Nat) (hlt : k + 3 < sto.length) (hlo : lo ≤ sto.length) : CD 51 [.arr k D.bl.length] (putD sto k D) lo (.arr sto.length D.bl.length) (putD sto k D ++ [eB D]) := by
  have hfl := flatB_len hD
  have hn : D.bl.length ≤ 4096 := hD.2.2.2.2.2.1
  have hn0 : 0 < D.bl.length := hD.2.2.2.2.2.2.1
  have hn1 : ¬ D.bl.length = 0 := by omega
  clear hD
  refine CallEv.intro ⟨_, _, [5], Try.func51, rfl, by decide, ?_⟩; simp only [go_sem, Try.ntmps51]
  (try refine goL ⟨?_⟩)
  refine ⟨by first | exact .inr rfl | exact .inl rfl, .inr (.inl ⟨_, rfl, ?_, ?_⟩)⟩
  · rfl
  · rfl
theorem clone_ev (D : DK) (hD : D.ok) (k : Nat) (sto : Sto) (lo : Nat) (hlt : k + 3 < sto.length) (hlo : lo ≤ sto.length) : CD 25 [.ptr (k + 3) 0] (putD sto k D) lo (.ptr (sto.length + 3) 0) (putD sto k D ++ newE sto.length D) := by
  have hs1 := sclone_ev D hD k
  clear hD
  refine CallEv.intro ⟨_, _, [999999, 999998], Try.func25, rfl, by decide, ?_⟩; simp only [go_sem, Try.ntmps25]
  (try refine go ⟨?_⟩)
  ((with_reducible apply ops_callO); kernel_rfl; rfl; (simp (disch := (first | omega | assumption | ((repeat' with_reducible apply And.intro) <;> first | omega | assumption | rfl | (apply Or.inl; rfl) | (apply Or.inr; first | rfl | trivial | fail) | fail) | fail)) only [go_sem, if_pos, if_neg, wrapI, wrapU, decide_eq_true, decide_eq_false, beqT, beqF, bneT, bneF] <;> rfl); (exact hs1 _ _ hlt hlo); (intro i hi; (try simp only [List.append_assoc]); (try rw [List.getElem?_append_left (by rw [putD_len]; exact hi)]); (try rw [List.getElem?_append_left (by rw [putD_len]; exact hi)])); (try simp only [go_sem]))
  repeat (first | ((with_reducible apply ops_pureO); kernel_rfl; rfl; (intro s hs; (simp (disch := (first | omega | assumption | ((repeat' with_reducible apply And.intro) <;> first | omega | assumption | rfl | (apply Or.inl; rfl) | (apply Or.inr; first | rfl | trivial | fail) | fail) | fail)) only [go_sem, if_pos, if_neg, hs]) <;> rfl); simp only [go_sem]) | (refine go ⟨?_⟩))
  ((with_reducible apply ops_callO); kernel_rfl; rfl; (simp (disch := (first | omega | assumption | ((repeat' with_reducible apply And.intro) <;> first | omega | assumption | rfl | (apply Or.inl; rfl) | (apply Or.inr; first | rfl | trivial | fail) | fail) | fail)) only [go_sem, if_pos, if_neg, wrapI, wrapU, decide_eq_true, decide_eq_false, beqT, beqF, bneT, bneF] <;> rfl); (exact dB_call (.inr (.inr ⟨.inl rfl, k + 1, .i64, kvP D.pd, rfl, by simp (disch := (first | omega | assumption | ((repeat' with_reducible apply And.intro) <;> first | omega | assumption | rfl | (apply Or.inl; rfl) | (apply Or.inr; first | rfl | trivial | fail) | fail) | fail)) only [go_sem, if_pos, if_neg, wrapI, wrapU, decide_eq_true, decide_eq_false, beqT, beqF, bneT, bneF] <;> rfl, rfl, rfl⟩))); (intro i hi; (try simp only [List.append_assoc]); (try rw [List.getElem?_append_left (by rw [putD_len]; exact hi)]); (try rw [List.getElem?_append_left (by rw [putD_len]; exact hi)])); (try simp only [go_sem]))
  repeat (first | ((with_reducible apply ops_pureO); kernel_rfl; rfl; (intro s hs; (simp (disch := (first | omega | assumption | ((repeat' with_reducible apply And.intro) <;> first | omega | assumption | rfl | (apply Or.inl; rfl) | (apply Or.inr; first | rfl | trivial | fail) | fail) | fail)) only [go_sem, if_pos, if_neg, hs]) <;> rfl); simp only [go_sem]) | (refine go ⟨?_⟩))
  ((with_reducible apply ops_callO); kernel_rfl; rfl; (simp (disch := (first | omega | assumption | ((repeat' with_reducible apply And.intro) <;> first | omega | assumption | rfl | (apply Or.inl; rfl) | (apply Or.inr; first | rfl | trivial | fail) | fail) | fail)) only [go_sem, if_pos, if_neg, wrapI, wrapU, decide_eq_true, decide_eq_false, beqT, beqF, bneT, bneF] <;> rfl); (exact dB_call (.inr (.inr ⟨.inr rfl, k + 2, .i64, kvW D.wn, rfl, by simp (disch := (first | omega | assumption | ((repeat' with_reducible apply And.intro) <;> first | omega | assumption | rfl | (apply Or.inl; rfl) | (apply Or.inr; first | rfl | trivial | fail) | fail) | fail)) only [go_sem, if_pos, if_neg, wrapI, wrapU, decide_eq_true, decide_eq_false, beqT, beqF, bneT, bneF] <;> rfl, rfl, rfl⟩))); (intro i hi; (try simp only [List.append_assoc]); (try rw [List.getElem?_append_left (by rw [putD_len]; exact hi)]); (try rw [List.getElem?_append_left (by rw [putD_len]; exact hi)])); (try simp only [go_sem]))
  repeat (first | ((with_reducible apply ops_pureO); kernel_rfl; rfl; (intro s hs; (simp (disch := (first | omega | assumption | ((repeat' with_reducible apply And.intro) <;> first | omega | assumption | rfl | (apply Or.inl; rfl) | (apply Or.inr; first | rfl | trivial | fail) | fail) | fail)) only [go_sem, if_pos, if_neg, hs]) <;> rfl); simp only [go_sem]) | ((with_reducible apply ops_effO); decide; rfl; (simp (disch := (first | omega | assumption | ((repeat' with_reducible apply And.intro) <;> first | omega | assumption | rfl | (apply Or.inl; rfl) | (apply Or.inr; first | rfl | trivial | fail) | fail) | fail)) only [go_sem, if_pos, if_neg, wrapI, wrapU, decide_eq_true, decide_eq_false, beqT, beqF, bneT, bneF] <;> rfl); (intro i hi; (try simp only [List.append_assoc]); (try rw [List.getElem?_append_left (by rw [putD_len]; exact hi)]); (try rw [List.getElem?_append_left (by rw [putD_len]; exact hi)])); (try simp only [go_sem])) | (refine go ⟨?_⟩))
  refine ⟨by first | exact .inr rfl | exact .inl rfl, .inr (.inl ⟨_, rfl, ?_, ?_⟩)⟩
  · rfl
  · rfl
end Go.Proofs.Ytghdanpigohnjaa
namespace Go.Proofs.Ytghdanpigohnjaa
open Go Go.RowKit

attribute [local irreducible] EvOps EvC
attribute [local go_sem] List.getElem?_toArray List.flatten_cons List.flatten_nil List.contains_nil List.append_nil List.nil_append List.length_set Bool.and_self implies_true eq_self Nat.zero_mul Nat.add_zero Nat.zero_add Nat.sub_zero List.take_zero List.drop_zero List.drop_replicate Nat.sub_self List.replicate_zero List.map_nil List.map_append List.length_replicate
attribute [local go_sem] bytesV_bs strV_u8s bs_size u8s_len bs_extract bs_append bs_beq bs_nil bs_nil2
attribute [local go_sem] putD_len putD_b putD_p putD_w putD_d putD_app putD_put putD_get0 putD_get putD_set0 putD_set putD_take putD_takeN putD_setd putD_setw putD_setp getLD setLD
set_option linter.unusedSimpArgs false
set_option linter.unusedVariables false
set_option maxRecDepth 100000
set_option maxHeartbeats 4000000
attribute [local go_sem] take_u8 take_u8v drop_u8v len_u8v viewL_mv eqVs_u8s zsV_Z64 Z64_len Nat.min_self Nat.min_eq_right

theorem lbgo {p q : Prop} (k : Later q) (h : Later q → p := by (intro k; (first | with_reducible (first | refine c_seq ?_ | refine c_block ?_ | refine c_region ?_ | refine c_skip ?_ | refine c_exit ?_ | refine c_ret ?_ | refine then_normal ?_ | refine then_exit ?_ | refine then_ret ?_ | refine block_normal ?_ | refine block_here ?_ | refine block_ret ?_ | refine block_far (by decide) ?_ | refine ops_nil ?_ | refine c_cond_t rfl ?_ | refine c_cond_f rfl ?_) | ((with_reducible apply ops_pure); rfl; (simp (disch := (first | omega | assumption | ((repeat' with_reducible apply And.intro) <;> first | omega | assumption | rfl | (apply Or.inl; rfl) | (apply Or.inr; first | rfl | trivial | fail) | fail) | fail)) only [go_sem, if_pos, if_neg, wrapI, wrapU, decide_eq_true, decide_eq_false, beqT, beqF, bneT, bneF, hm, hm2, hm3] <;> rfl); simp only [go_sem]) | ((with_reducible apply ops_pureF); rfl; (intro _; simp (disch := (first | omega | assumption | ((repeat' with_reducible apply And.intro) <;> first | omega | assumption | rfl | (apply Or.inl; rfl) | (apply Or.inr; first | rfl | trivial | fail) | fail) | fail)) only [go_sem, if_pos, if_neg, wrapI, wrapU, decide_eq_true, decide_eq_false, beqT, beqF, bneT, bneF, hm, hm2, hm3] <;> rfl); simp only [go_sem]) | ((with_reducible apply ops_pureD); kernel_rfl; rfl; (simp (disch := (first | omega | assumption | ((repeat' with_reducible apply And.intro) <;> first | omega | assumption | rfl | (apply Or.inl; rfl) | (apply Or.inr; first | rfl | trivial | fail) | fail) | fail)) only [go_sem, if_pos, if_neg, wrapI, wrapU, decide_eq_true, decide_eq_false, beqT, beqF, bneT, bneF, hm, hm2, hm3] <;> rfl); simp only [go_sem]) | ((with_reducible apply ops_skip); rfl; simp only [go_sem]) | ((with_reducible apply c_regionD); kernel_rfl) | ((first | ((with_reducible apply ops_eff); decide) | (with_reducible apply ops_lit)); rfl; (simp (disch := (first | omega | assumption | ((repeat' with_reducible apply And.intro) <;> first | omega | assumption | rfl | (apply Or.inl; rfl) | (apply Or.inr; first | rfl | trivial | fail) | fail) | fail)) only [go_sem, if_pos, if_neg, wrapI, wrapU, decide_eq_true, decide_eq_false, beqT, beqF, bneT, bneF, hm, hm2, hm3] <;> rfl); simp only [go_sem])); (repeat (first | with_reducible (first | refine c_seq ?_ | refine c_block ?_ | refine c_region ?_ | refine c_skip ?_ | refine c_exit ?_ | refine c_ret ?_ | refine then_normal ?_ | refine then_exit ?_ | refine then_ret ?_ | refine block_normal ?_ | refine block_here ?_ | refine block_ret ?_ | refine block_far (by decide) ?_ | refine ops_nil ?_ | refine c_cond_t rfl ?_ | refine c_cond_f rfl ?_) | ((with_reducible apply ops_pure); rfl; (simp (disch := (first | omega | assumption | ((repeat' with_reducible apply And.intro) <;> first | omega | assumption | rfl | (apply Or.inl; rfl) | (apply Or.inr; first | rfl | trivial | fail) | fail) | fail)) only [go_sem, if_pos, if_neg, wrapI, wrapU, decide_eq_true, decide_eq_false, beqT, beqF, bneT, bneF, hm, hm2, hm3] <;> rfl); simp only [go_sem]) | ((with_reducible apply ops_pureF); rfl; (intro _; simp (disch := (first | omega | assumption | ((repeat' with_reducible apply And.intro) <;> first | omega | assumption | rfl | (apply Or.inl; rfl) | (apply Or.inr; first | rfl | trivial | fail) | fail) | fail)) only [go_sem, if_pos, if_neg, wrapI, wrapU, decide_eq_true, decide_eq_false, beqT, beqF, bneT, bneF, hm, hm2, hm3] <;> rfl); simp only [go_sem]) | ((with_reducible apply ops_pureD); kernel_rfl; rfl; (simp (disch := (first | omega | assumption | ((repeat' with_reducible apply And.intro) <;> first | omega | assumption | rfl | (apply Or.inl; rfl) | (apply Or.inr; first | rfl | trivial | fail) | fail) | fail)) only [go_sem, if_pos, if_neg, wrapI, wrapU, decide_eq_true, decide_eq_false, beqT, beqF, bneT, bneF, hm, hm2, hm3] <;> rfl); simp only [go_sem]) | ((with_reducible apply ops_skip); rfl; simp only [go_sem]) | ((with_reducible apply c_regionD); kernel_rfl) | ((first | ((with_reducible apply ops_eff); decide) | (with_reducible apply ops_lit)); rfl; (simp (disch := (first | omega | assumption | ((repeat' with_reducible apply And.intro) <;> first | omega | assumption | rfl | (apply Or.inl; rfl) | (apply Or.inr; first | rfl | trivial | fail) | fail) | fail)) only [go_sem, if_pos, if_neg, wrapI, wrapU, decide_eq_true, decide_eq_false, beqT, beqF, bneT, bneF, hm, hm2, hm3] <;> rfl); simp only [go_sem]))); exact k.get)) : p := h k
theorem lbgoX {p q : Prop} (k : Later q) (h : Later q → p := by (intro k; (first | with_reducible (first | refine c_seq ?_ | refine c_block ?_ | refine c_skip ?_ | refine c_exit ?_ | refine c_ret ?_ | refine then_normal ?_ | refine then_exit ?_ | refine then_ret ?_ | refine block_normal ?_ | refine block_here ?_ | refine block_ret ?_ | refine block_far (by decide) ?_ | refine ops_nil ?_ | refine c_cond_t rfl ?_ | refine c_cond_f rfl ?_) | ((with_reducible apply ops_pure); rfl; (simp (disch := (first | omega | assumption | ((repeat' with_reducible apply And.intro) <;> first | omega | assumption | rfl | (apply Or.inl; rfl) | (apply Or.inr; first | rfl | trivial | fail) | fail) | fail)) only [go_sem, if_pos, if_neg, wrapI, wrapU, decide_eq_true, decide_eq_false, beqT, beqF, bneT, bneF, hm, hm2, hm3] <;> rfl); simp only [go_sem]) | ((with_reducible apply ops_pureF); rfl; (intro _; simp (disch := (first | omega | assumption | ((repeat' with_reducible apply And.intro) <;> first | omega | assumption | rfl | (apply Or.inl; rfl) | (apply Or.inr; first | rfl | trivial | fail) | fail) | fail)) only [go_sem, if_pos, if_neg, wrapI, wrapU, decide_eq_true, decide_eq_false, beqT, beqF, bneT, bneF, hm, hm2, hm3] <;> rfl); simp only [go_sem]) | ((with_reducible apply ops_pureD); kernel_rfl; rfl; (simp (disch := (first | omega | assumption | ((repeat' with_reducible apply And.intro) <;> first | omega | assumption | rfl | (apply Or.inl; rfl) | (apply Or.inr; first | rfl | trivial | fail) | fail) | fail)) only [go_sem, if_pos, if_neg, wrapI, wrapU, decide_eq_true, decide_eq_false, beqT, beqF, bneT, bneF, hm, hm2, hm3] <;> rfl); simp only [go_sem]) | ((with_reducible apply ops_skip); rfl; simp only [go_sem]) | ((with_reducible apply c_regionD); kernel_rfl) | ((first | ((with_reducible apply ops_eff); decide) | (with_reducible apply ops_lit)); rfl; (simp (disch := (first | omega | assumption | ((repeat' with_reducible apply And.intro) <;> first | omega | assumption | rfl | (apply Or.inl; rfl) | (apply Or.inr; first | rfl | trivial | fail) | fail) | fail)) only [go_sem, if_pos, if_neg, wrapI, wrapU, decide_eq_true, decide_eq_false, beqT, beqF, bneT, bneF, hm, hm2, hm3] <;> rfl); simp only [go_sem])); (repeat (first | with_reducible (first | refine c_seq ?_ | refine c_block ?_ | refine c_skip ?_ | refine c_exit ?_ | refine c_ret ?_ | refine then_normal ?_ | refine then_exit ?_ | refine then_ret ?_ | refine block_normal ?_ | refine block_here ?_ | refine block_ret ?_ | refine block_far (by decide) ?_ | refine ops_nil ?_ | refine c_cond_t rfl ?_ | refine c_cond_f rfl ?_) | ((with_reducible apply ops_pure); rfl; (simp (disch := (first | omega | assumption | ((repeat' with_reducible apply And.intro) <;> first | omega | assumption | rfl | (apply Or.inl; rfl) | (apply Or.inr; first | rfl | trivial | fail) | fail) | fail)) only [go_sem, if_pos, if_neg, wrapI, wrapU, decide_eq_true, decide_eq_false, beqT, beqF, bneT, bneF, hm, hm2, hm3] <;> rfl); simp only [go_sem]) | ((with_reducible apply ops_pureF); rfl; (intro _; simp (disch := (first | omega | assumption | ((repeat' with_reducible apply And.intro) <;> first | omega | assumption | rfl | (apply Or.inl; rfl) | (apply Or.inr; first | rfl | trivial | fail) | fail) | fail)) only [go_sem, if_pos, if_neg, wrapI, wrapU, decide_eq_true, decide_eq_false, beqT, beqF, bneT, bneF, hm, hm2, hm3] <;> rfl); simp only [go_sem]) | ((with_reducible apply ops_pureD); kernel_rfl; rfl; (simp (disch := (first | omega | assumption | ((repeat' with_reducible apply And.intro) <;> first | omega | assumption | rfl | (apply Or.inl; rfl) | (apply Or.inr; first | rfl | trivial | fail) | fail) | fail)) only [go_sem, if_pos, if_neg, wrapI, wrapU, decide_eq_true, decide_eq_false, beqT, beqF, bneT, bneF, hm, hm2, hm3] <;> rfl); simp only [go_sem]) | ((with_reducible apply ops_skip); rfl; simp only [go_sem]) | ((with_reducible apply c_regionD); kernel_rfl) | ((first | ((with_reducible apply ops_eff); decide) | (with_reducible apply ops_lit)); rfl; (simp (disch := (first | omega | assumption | ((repeat' with_reducible apply And.intro) <;> first | omega | assumption | rfl | (apply Or.inl; rfl) | (apply Or.inr; first | rfl | trivial | fail) | fail) | fail)) only [go_sem, if_pos, if_neg, wrapI, wrapU, decide_eq_true, decide_eq_false, beqT, beqF, bneT, bneF, hm, hm2, hm3] <;> rfl); simp only [go_sem]))); exact k.get)) : p := h k
theorem lbsv {p : Prop} (h : p := by simp (disch := (first | omega | assumption | ((repeat' with_reducible apply And.intro) <;> first | omega | assumption | rfl | (apply Or.inl; rfl) | (apply Or.inr; first | rfl | trivial | fail) | fail) | fail)) only [go_sem, if_pos, if_neg, wrapI, wrapU, decide_eq_true, decide_eq_false, beqT, beqF, bneT, bneF, hm, hm2, hm3] <;> rfl) : p := h
theorem lbcall {T : Tab} {X : CallP} {n0 lo : Nat} {wt : List Tmp} {draw : Bool} {ops : Array Oper} {Q : St → Prop} {rest : List Oper} {o : Oper} {env : List D} {sto : Sto} {f : FuncId} {args : List D} (k : ∃ r, X f args sto (if draw then sto.length else lo) r sto ∧ EvOps T X n0 lo wt draw ops Q rest (St.put ⟨env, sto⟩ o.dst r)) (hg : guardD ops o env = some true := by rfl) (h : evCallee (opd env) sto o = some (f, args) := by simp (disch := (first | omega | assumption | ((repeat' with_reducible apply And.intro) <;> first | omega | assumption | rfl | (apply Or.inl; rfl) | (apply Or.inr; first | rfl | trivial | fail) | fail) | fail)) only [go_sem, if_pos, if_neg, wrapI, wrapU, decide_eq_true, decide_eq_false, beqT, beqF, bneT, bneF, hm, hm2, hm3] <;> rfl) : EvOps T X n0 lo wt draw ops Q (o :: rest) ⟨env, sto⟩ := k.elim fun _ k => ops_call hg h k.1 k.2
@[irreducible] def sd (sto : Sto) (D : DK) (l : Sto) : Sto := sto ++ newE sto.length D ++ l
theorem sd_len {sto l : Sto} {D : DK} : (sd sto D l).length = sto.length + 4 + l.length := by unfold sd; simp [newE]; omega
theorem sd_lt {sto l : Sto} {D : DK} {i : Nat} (h : i < sto.length) : (sd sto D l)[i]? = sto[i]? := by
  unfold sd
  rw [List.append_assoc, List.getElem?_append_left h]
theorem sd_take {sto l : Sto} {D : DK} : (sd sto D l).take sto.length = sto := by
  unfold sd
  rw [List.append_assoc, List.take_left]
theorem sd_at {sto l : Sto} {D : DK} (j : Nat) : (sd sto D l)[sto.length + j]? = (newE sto.length D ++ l)[j]? := by
  unfold sd
  rw [List.append_assoc, List.getElem?_append_right (by omega), Nat.add_sub_cancel_left]
theorem sd_disk {sto l : Sto} {D : DK} : DiskAt (sd sto D l) sto.length D := ⟨sd_at 0, sd_at 1, sd_at 2, sd_at 3⟩
theorem sd_clone {sto : Sto} {D C : DK} : DiskAt (sd sto D (newE (sto.length + 4) C)) (sto.length + 4) C := ⟨sd_at 4, sd_at 5, sd_at 6, sd_at 7⟩
theorem sd_putD {sto l : Sto} {D E : DK} : putD (sd sto D l) sto.length E = sd sto E l := by
  refine (putD_eq (by rw [sd_len, sd_len]) sd_disk fun i hi => ?_).symm
  by_cases h : i < sto.length
  · rw [sd_lt h, sd_lt h]
  · obtain ⟨j, rfl⟩ : ∃ j, i = sto.length + (j + 4) := ⟨i - sto.length - 4, by omega⟩
    rw [sd_at, sd_at]
    rfl
theorem DiskR.sd {f : FuncId} {args : List _root_.Go.Proofs.Ytghdanpigohnjaa.D} {sto l : Sto} {K : DK} {r : _root_.Go.Proofs.Ytghdanpigohnjaa.D} (h : DiskR f args sto.length K r) {lo : Nat} (hlo : lo ≤ sto.length) : CD f args (sd sto K l) lo r (sd sto K l) := h.here sd_disk (by rw [sd_len]; omega)
theorem DiskW.sd {f : FuncId} {args : List _root_.Go.Proofs.Ytghdanpigohnjaa.D} {sto l : Sto} {K E : DK} {r : _root_.Go.Proofs.Ytghdanpigohnjaa.D} (h : DiskW f args sto.length K r E) {lo : Nat} (hlo : lo ≤ sto.length) : CD f args (sd sto K l) lo r (sd sto E l) := by
  have := h.here (s := _root_.Go.Proofs.Ytghdanpigohnjaa.sd sto K l) sd_disk hlo
  rwa [sd_putD] at this
theorem DiskR.sdc {f : FuncId} {args : List _root_.Go.Proofs.Ytghdanpigohnjaa.D} {sto : Sto} {K C : DK} {r : _root_.Go.Proofs.Ytghdanpigohnjaa.D} (h : DiskR f args (sto.length + 4) C r) {lo : Nat} (hlo : lo ≤ sto.length) : CD f args (_root_.Go.Proofs.Ytghdanpigohnjaa.sd sto K (newE (sto.length + 4) C)) lo r (_root_.Go.Proofs.Ytghdanpigohnjaa.sd sto K (newE (sto.length + 4) C)) := h.here sd_clone (by rw [sd_len]; omega)
theorem ho_sd {lo : Nat} {sto l m : Sto} {D E : DK} : ∀ i ds, lo ≤ i → i < sto.length → (sd sto E m)[i]? = some (.cells ds) → (sd sto D l)[i]? = some (.cells ds) ∨ scopedL sto.length ds = true := by
  intro i ds _ h1 h2
  rw [sd_lt h1] at h2 ⊢
  exact .inl h2
theorem ho_sd0 {lo : Nat} {sto m : Sto} {E : DK} : ∀ i ds, lo ≤ i → i < sto.length → (sd sto E m)[i]? = some (.cells ds) → sto[i]? = some (.cells ds) ∨ scopedL sto.length ds = true := by
  intro i ds _ h1 h2
  rw [sd_lt h1] at h2
  exact .inl h2
theorem sd_new {sto : Sto} {D : DK} : sto ++ newE sto.length D = sd sto D [] := by unfold sd; rw [List.append_nil]
theorem clone_sd (D : DK) (hD : D.ok) (sto : Sto) (lo : Nat) (hlo : lo ≤ sto.length) : CD 25 [.ptr (sto.length + 3) 0] (sd sto D []) lo (.ptr (sto.length + 7) 0) (sd sto D (newE (sto.length + 4) D)) := by
  have := clone_ev D hD sto.length (sd sto D []) lo (by rw [sd_len]; simp) (by rw [sd_len]; omega)
  rw [sd_putD] at this
  have e : sd sto D [] ++ newE (sd sto D []).length D = sd sto D (newE (sto.length + 4) D) := by
    rw [sd_len]; unfold sd; simp [newE]
  rw [e, sd_len] at this
  exact this
theorem new_bad' (n : Int) (h : n < 1 ∨ n > 4096) (sto : Sto) (lo : Nat) (hlo : lo ≤ sto.length) : CD 13 [.v (VI n)] sto lo (.tupD [.nilp, .v (VI 1)]) sto := new_bad n h sto lo hlo
theorem x1_ok : X1.ok := by have := write_ok (new_ok (n := 2) (by omega) (by omega)) 0 XA; rwa [x1] at this
theorem x2_ok : X2.ok := by have := mount_ok x1_ok [3]; rwa [x2] at this
theorem x3_ok : X3.ok := by have := write_ok x2_ok 1 XA; rwa [x3] at this
theorem x4_ok : X4.ok := by have := flush_ok x3_ok; rwa [x4] at this
theorem x5_ok : X5.ok := by have := rot_ok x4_ok 1 0; rwa [x5] at this
theorem x6_ok : X6.ok := by have := wear_ok x5_ok 0; rwa [x6] at this
theorem x7_ok : X7.ok := by
  obtain ⟨d1, d2, d3, d4, d5, d6, d7, d8⟩ := x6_ok
  exact ⟨d1, d2, d3, d4, d5, d6, d7, by simp [X7, Big]⟩
theorem x8_ok : X8.ok := by have := write_ok x7_ok 0 (fullB 98); rwa [x8] at this
theorem x9_ok : X9.ok := by have := flush_ok x8_ok; rwa [x9] at this
theorem xa_len : XA.length = 64 := by simp [XA, fullB]
theorem xc_len : XC.length = 64 := by simp [XC]
theorem bs_aaa : ByteArray.mk #[97, 97, 97] = bs [97, 97, 97] := rfl
theorem xb_eq : ([97, 97, 97] : By) ++ List.drop 3 Z64 = XB := by kernel_rfl
attribute [local go_sem] bs_aaa xb_eq strF bs_get
theorem sanity_ev (sto : Sto) (lo : Nat) (hlo : lo ≤ sto.length) : CD 8 [] sto lo (.v (.bool true)) sto := by
  have c0 := new_ev 2 (by omega) (by omega) sto lo hlo
  have f97 := fun (s : Sto) (l : Nat) (h : l ≤ s.length) => full_ev 97 s l h
  have f98 := fun (s : Sto) (l : Nat) (h : l ≤ s.length) => full_ev 98 s l h
  have f0 := fun (s : Sto) (l : Nat) (h : l ≤ s.length) => full_ev 0 s l h
  rw [show u8V 97 = .int .u8 97 from rfl, show fullB 97 = XA from rfl] at f97
  rw [show u8V 98 = .int .u8 98 from rfl] at f98
  rw [show u8V 0 = .int .u8 0 from rfl, show fullB 0 = Z64 from rfl] at f0
  have c1 := write_ev (newD 2) (new_ok (n := 2) (by omega) (by omega)) 0 XA (by rw [xa_len]; omega) sto.length
  have r1 := read_ev X1 x1_ok 0 sto.length
  have i1 := image_ev X1 x1_ok sto.length
  have p1 := pending_ev X1 x1_ok sto.length
  have cl := clone_sd X1 x1_ok sto lo hlo
  have c2 := mount_ev X1 x1_ok [3] (by simp [Big]) (by simp) sto.length
  have r2 := read_ev X2 x2_ok 0 sto.length
  have c3 := write_ev X2 x2_ok 1 XA (by rw [xa_len]; omega) sto.length
  have c4 := flush_ev X3 x3_ok sto.length
  have c5 := rot_ev X4 x4_ok 1 0 (by simp [Big]) sto.length
  have r5 := read_ev X5 x5_ok 1 sto.length
  have c6 := wear_ev X5 x5_ok 0 sto.length
  have c7 := trip_ev X6 1 sto.length
  have c8 := write_ev X7 x7_ok 0 (fullB 98) (by simp [fullB]) sto.length
  have c9 := flush_ev X8 x8_ok sto.length
  have r9 := read_ev X9 x9_ok 0 sto.length
  have nb := new_bad' 0 (by omega)
  have rc := read_ev X1 x1_ok 0 (sto.length + 4)
  have w9 := worn_ev X9 x9_ok sto.length
  have u9 := up_ev X9 sto.length
  have uc := up_ev X1 (sto.length + 4)
  have l9 := len_ev X9 sto.length
  rw [x1] at c1
  rw [x1r] at r1 rc
  rw [show X1.bl = [Z64, Z64] from rfl] at i1
  rw [x1p] at p1
  rw [x2] at c2
  rw [x2r] at r2
  rw [x3] at c3
  rw [x4] at c4
  rw [x5] at c5
  rw [x5r] at r5
  rw [x6] at c6
  rw [x7] at c7
  rw [x8] at c8
  rw [x9] at c9
  rw [x9r] at r9
  rw [x9w] at w9
  rw [show X9.off = true from rfl] at u9
  rw [show X1.off = false from rfl] at uc
  rw [show X9.bl.length = 2 from rfl] at l9
  dsimp only at c1 r1 c2 r2 c3 c4 c5 r5 c6 c8 c9 r9 rc u9 uc l9
  rw [sd_new] at c0
  have hm : True := trivial
  have hm2 := hm
  have hm3 := hm
  have hxc := xc_len
  refine CallEv.intro ⟨_, _, [], Try.func8, rfl, by decide, ?_⟩; simp only [go_sem, Try.ntmps8]
  (try refine lbgo ⟨?_⟩)
  refine ops_callW rfl (by exact lbsv) c0 ho_sd0 ?_
  simp only [go_sem]
  (try refine lbgo ⟨?_⟩)
  refine ops_call rfl (by exact lbsv) (f97 _ _ (by rw [if_neg (by simp), sd_len]; omega)) ?_; simp only [go_sem]
  (try refine lbgo ⟨?_⟩)
  refine ops_callW rfl (by exact lbsv) (DiskW.sd c1 hlo) ho_sd ?_; simp only [go_sem]
  (try refine lbgo ⟨?_⟩)
  refine ops_call rfl (by exact lbsv) (DiskR.sd r1 hlo) ?_; simp only [go_sem]
  (try refine lbgo ⟨?_⟩)
  refine ops_call rfl (by exact lbsv) (DiskR.sd i1 hlo) ?_; simp only [go_sem]
  (try refine lbgo ⟨?_⟩)
  refine ops_call rfl (by exact lbsv) (DiskR.sd p1 hlo) ?_; simp only [go_sem]
  (try refine lbgo ⟨?_⟩)
  refine ops_callW rfl (by exact lbsv) cl ho_sd ?_
  simp only [go_sem]
  (try refine lbgo ⟨?_⟩)
  refine ops_callW rfl (by exact lbsv) (DiskW.sd c2 hlo) ho_sd ?_; simp only [go_sem]
  (try refine lbgo ⟨?_⟩)
  refine ops_call rfl (by exact lbsv) (DiskR.sd r2 hlo) ?_; simp only [go_sem]
  (try refine lbgo ⟨?_⟩)
  refine ops_call rfl (by exact lbsv) (f97 _ _ (by rw [if_neg (by simp), sd_len]; omega)) ?_; simp only [go_sem]
  (try refine lbgo ⟨?_⟩)
  refine ops_callW rfl (by exact lbsv) (DiskW.sd c3 hlo) ho_sd ?_; simp only [go_sem]
  (try refine lbgo ⟨?_⟩)
  refine ops_callW rfl (by exact lbsv) (DiskW.sd c4 hlo) ho_sd ?_; simp only [go_sem]
  (try refine lbgo ⟨?_⟩)
  refine ops_callW rfl (by exact lbsv) (DiskW.sd c5 hlo) ho_sd ?_; simp only [go_sem]
  (try refine lbgo ⟨?_⟩)
  refine ops_call rfl (by exact lbsv) (DiskR.sd r5 hlo) ?_; simp only [go_sem]
  (try refine lbgo ⟨?_⟩)
  refine ops_callW rfl (by exact lbsv) (DiskW.sd c6 hlo) ho_sd ?_; simp only [go_sem]
  (try refine lbgo ⟨?_⟩)
  refine ops_callW rfl (by exact lbsv) (DiskW.sd c7 hlo) ho_sd ?_; simp only [go_sem]
  (try refine lbgo ⟨?_⟩)
  refine ops_call rfl (by exact lbsv) (f98 _ _ (by rw [if_neg (by simp), sd_len]; omega)) ?_; simp only [go_sem]
  (try refine lbgo ⟨?_⟩)
  refine ops_callW rfl (by exact lbsv) (DiskW.sd c8 hlo) ho_sd ?_; simp only [go_sem]
  (try refine lbgo ⟨?_⟩)
  refine ops_callW rfl (by exact lbsv) (DiskW.sd c9 hlo) ho_sd ?_; simp only [go_sem]
  (try refine lbgo ⟨?_⟩)
  refine ops_call rfl (by exact lbsv) (DiskR.sd r9 hlo) ?_; simp only [go_sem]
  (try refine lbgo ⟨?_⟩)
  refine ops_call rfl (by exact lbsv) (nb _ _ (by rw [if_neg (by simp), sd_len]; omega)) ?_; simp only [go_sem]
  (try refine lbgo ⟨?_⟩)
  refine ops_call rfl (by exact lbsv) (DiskR.sdc rc hlo) ?_
  simp only [go_sem]
  (try refine lbgo ⟨?_⟩)
  refine ops_call rfl (by exact lbsv) (DiskR.sd w9 hlo) ?_; simp only [go_sem]
  (try refine lbgo ⟨?_⟩)
  clear c0 c1 c2 c3 c4 c5 c6 c7 c8 c9 r1 r2 r5 r9 i1 p1 cl f98 nb
  dsimp only [List.append]
  (try refine lbgo ⟨?_⟩)
  refine ops_call rfl (by exact lbsv) (f97 _ _ (by simp only [if_true, Nat.le_refl])) ?_; simp only [go_sem]
  (try refine lbgo ⟨?_⟩)
  refine ops_call rfl (by exact lbsv) (f0 _ _ (by simp only [if_true, Nat.le_refl])) ?_; simp only [go_sem]
  (try refine lbgo ⟨?_⟩)
  refine ops_call rfl (by exact lbsv) (f0 _ _ (by simp only [if_true, Nat.le_refl])) ?_; simp only [go_sem]
  (try refine lbgo ⟨?_⟩)
  refine ops_call rfl (by exact lbsv) (DiskR.here u9 sd_disk (by simp only [if_true, Nat.le_refl])) ?_; simp only [go_sem]
  (try refine lbgo ⟨?_⟩)
  refine ops_call rfl (by exact lbsv) (DiskR.here uc sd_clone (by simp only [if_true, Nat.le_refl])) ?_; simp only [go_sem]
  (try refine lbgo ⟨?_⟩)
  refine ops_call rfl (by exact lbsv) (f97 _ _ (by simp only [if_true, Nat.le_refl])) ?_; simp only [go_sem]
  (try refine lbgo ⟨?_⟩)
  refine ops_call rfl (by exact lbsv) (DiskR.here l9 sd_disk (by simp only [if_true, Nat.le_refl])) ?_; simp only [go_sem]
  (try refine lbgo ⟨?_⟩)
  refine ⟨by first | exact .inr rfl | exact .inl rfl, .inl ⟨[], _, (by dsimp only [Try.f8]; exact lbsv), ?_, ?_⟩⟩
  · rfl
  · exact sd_take
end Go.Proofs.Ytghdanpigohnjaa
namespace Go.Proofs.Ytghdanpigohnjaa
open Go Go.RowKit

/-- What the program's tables say of a slice type T of one-cell elements E: its zero value and its bytes. -/
structure ElemT (P : Program) (T E : TypeId) (z : Value) (bytes : Nat) : Prop where
  under : P.underlying T = some (.slice E)
  info : (P.info? E).map (fun i => (i.zero, i.size, i.bytes)) = some (some z, 1, bytes)
  zone : z.cells = #[z]

/-- A slice of the call's own (its block is at or above 'base') that reads as the list. -/
def OwnS (w : World) (base : Nat) (e : TypeId) (v : Value) (xs : List Value) : Prop := w.ownsRow base e 1 v xs.length xs

theorem OwnS.nil (w : World) (base : Nat) (e : TypeId) : OwnS w base e (.slice none 0 0) [] := World.ownsRow_nil w base e 1
theorem OwnS.lit (w : World) (base : Nat) (e : TypeId) (xs : List Value) (hb : base ≤ w.heap.size) (hm : xs.length ≤ maxLen) :
    OwnS (w.alloc (.cells xs.toArray e)) base e (.slice (some ⟨w.heap.size, 0, none⟩) xs.length xs.length) xs := by
  have h := World.ownsRow_lit (base := base) (e := e) (size := 1) w xs.toArray xs.length hb hm (by simp)
  simpa [OwnS] using h
theorem OwnS.shape {w : World} {base : Nat} {e : TypeId} {v : Value} {xs : List Value} (h : OwnS w base e v xs) :
    (v = .slice none 0 0 ∧ xs = []) ∨ ∃ g cap, v = .slice (some ⟨g, 0, none⟩) xs.length cap ∧ base ≤ g ∧ g < w.heap.size ∧ xs.length ≤ cap ∧ cap ≤ maxLen ∧ (∀ j, j < xs.length → w.cell? ⟨g, j, none⟩ = xs[j]?) ∧ ∀ j, w.frozen? ⟨g, j, none⟩ = false := by
  have h0 := h
  obtain ⟨hl, hc⟩ := h
  rcases hc with ⟨rfl, hn⟩ | ⟨g, cap, cur, rfl, hb, hg, hcap, hmax, hsz, ht⟩
  · exact .inl ⟨rfl, List.length_eq_zero_iff.1 hn⟩
  · refine .inr ⟨g, cap, rfl, hb, ?_, hcap, hmax, fun j hj => World.ownsRow.cellAt h0 j (by omega), fun j => World.ownsRow.frozenAt h0 j⟩
    rcases Nat.lt_or_ge g w.heap.size with hlt | hge
    · exact hlt
    · simp [Array.getElem?_eq_none hge] at hg
theorem OwnS.below {w w' : World} {base : Nat} {e : TypeId} {v : Value} {xs : List Value} (h : OwnS w base e v xs) (hb : Below w.heap.size w w') : OwnS w' base e v xs := by
  obtain ⟨hl, hc⟩ := h
  refine ⟨hl, ?_⟩
  rcases hc with hc | ⟨g, cap, cur, rfl, hbg, hg, rest⟩
  · exact .inl hc
  · refine .inr ⟨g, cap, cur, rfl, hbg, ?_, rest⟩
    have hlt : g < w.heap.size := by
      rcases Nat.lt_or_ge g w.heap.size with hlt | hge
      · exact hlt
      · simp [Array.getElem?_eq_none hge] at hg
    rw [hb.block g hlt]; exact hg
theorem OwnS.alloc {w : World} {base : Nat} {e : TypeId} {v : Value} {xs : List Value} (h : OwnS w base e v xs) (o : Obj) : OwnS (w.alloc o) base e v xs := World.ownsRow.alloc h o
/-- Writes to another row leave it. -/
theorem OwnS.kept {w w' : World} {base : Nat} {e : TypeId} {v : Value} {xs : List Value} {row : Option Nat} (h : OwnS w base e v xs) (hg : w.grownBy w' row) (hne : v.ownBlock = none ∨ v.ownBlock ≠ row) : OwnS w' base e v xs :=
  World.ownsRow.kept h hg hne
theorem OwnS.own_ge {w : World} {base : Nat} {e : TypeId} {v : Value} {xs : List Value} (h : OwnS w base e v xs) : ∀ k, v.ownBlock = some k → base ≤ k := fun k hk => (World.ownsRow.lt h k hk).1

/-- A store into a slice of the call's own. -/
theorem OwnS.stored {w : World} {base g n cap : Nat} {e : TypeId} {xs : List Value} (h : OwnS w base e (.slice (some ⟨g, 0, none⟩) n cap) xs) (j : Nat) (u : Value) :
    OwnS (w.setCell ⟨g, j, none⟩ u) base e (.slice (some ⟨g, 0, none⟩) n cap) (xs.set j u) ∧ Below base w (w.setCell ⟨g, j, none⟩ u) := by
  have hn : n = xs.length := by
    rcases OwnS.shape h with ⟨h', _⟩ | ⟨g', cap', h', _⟩
    · simp at h'
    · simp only [Value.slice.injEq] at h'; exact h'.2.1
  have hb : base ≤ g := h.own_ge g rfl
  unfold OwnS at h ⊢
  rw [List.length_set]
  subst hn
  exact ⟨(World.ownsRow.stored h j u).1, (Below.refl base w).setCell (p := ⟨g, j, none⟩) hb _⟩
theorem OwnS.cell {w : World} {base g n cap : Nat} {e : TypeId} {xs : List Value} (h : OwnS w base e (.slice (some ⟨g, 0, none⟩) n cap) xs) (j : Nat) (hj : j < xs.length) : w.cell? ⟨g, j, none⟩ = some xs[j] := by
  rcases OwnS.shape h with ⟨h', _⟩ | ⟨g', cap', h', _, _, _, _, hc, _⟩
  · simp at h'
  · simp only [Value.slice.injEq, Option.some.injEq, Addr.mk.injEq, and_true] at h'
    obtain ⟨rfl, _⟩ := h'
    rw [hc j hj, List.getElem?_eq_getElem]
theorem OwnS.free {w : World} {base g n cap : Nat} {e : TypeId} {xs : List Value} (h : OwnS w base e (.slice (some ⟨g, 0, none⟩) n cap) xs) (j : Nat) : w.frozen? ⟨g, j, none⟩ = false := by
  rcases OwnS.shape h with ⟨h', _⟩ | ⟨g', cap', h', _, _, _, _, _, hf⟩
  · simp at h'
  · simp only [Value.slice.injEq, Option.some.injEq, Addr.mk.injEq, and_true] at h'
    obtain ⟨rfl, _⟩ := h'
    exact hf j

section
variable {P : Program} {T E : TypeId} {z : Value} {bytes : Nat} {ops : Array Oper} {rest : List Oper} {o : Oper} {a : Act} {Q : Exit → Act → World → Prop}

/-- 'out = append(out, x)', out of the call's own: x lies in the block that was laid for it. -/
theorem wpList_push (K : ElemT P T E z bytes) {w1 : World} (hgd : o.guard = none) (s x : Operand) (ho : o.op = .call { callee := .builtin .append, args := #[s, x], argTypes := #[T, T] })
    (base : Nat) (v : Value) (xs : List Value) (u : Value) (hs : a.eval s = v) (hx : a.eval x = .slice (some ⟨w1.heap.size, 0, none⟩) 1 1) (hown : OwnS w1 base E v xs) (hu : u.oneCell' = true)
    (hlen : (xs.length + 1) * bytes ≤ 140737488355328) (hmax : xs.length + 1 ≤ maxLen) (hbase : base ≤ w1.heap.size)
    (h : ∀ v' w', OwnS w' base E v' (xs ++ [u]) → (w1.alloc (.cells #[u] E)).grownBy w' v.ownBlock → Below base w1 w' → wpList P ops Q rest (a.put o.dst v') w') :
    wpList P ops Q (o :: rest) a (w1.alloc (.cells #[u] E)) := by
  obtain ⟨i, hi, hz0, hz1, hz2⟩ := info_parts K.info
  refine wpList_append_own _ hgd s x T ho base E i z 1 bytes K.under hi hz0 hz1 hz2 (by rw [K.zone]; rfl) (by decide) v xs.length xs hs (OwnS.alloc hown _) ⟨w1.heap.size, 0, none⟩ 1 1 [u] hx rfl ?_ ?_ hmax hlen ?_ ?_
  · intro j y hj
    match j, hj with
    | 0, hj =>
      simp at hj; subst hj
      simp [Addr.add, World.cell?_alloc_new]
  · intro y hy; simp at hy; subst hy; exact hu
  · simp; omega
  · intro v' w' hown' hg _
    refine h v' w' (by simpa [OwnS] using hown') hg ?_
    exact ((Below.refl base w1).alloc hbase _).grown hg (by simp; omega) (OwnS.own_ge hown)
/-- 'make([]T, n)', n a variable: n zero elements of the call's own. -/
theorem wpList_makeN (K : ElemT P T E z bytes) {w : World} (hgd : o.guard = none) (l c : Operand) (hop : o.op = Op.makeSlice T l c)
    (base : Nat) (kl kc : IntKind) (L C : Int) (n : Nat) (hl : a.eval l = .int kl L) (hc : a.eval c = .int kc C) (hL : L = (n : Int)) (hC : C = (n : Int))
    (hb : bytes * n ≤ 281474976710656) (hm : n ≤ maxLen) (hbase : base ≤ w.heap.size)
    (h : ∀ w', OwnS w' base E (.slice (some ⟨w.heap.size, 0, none⟩) n n) (List.replicate n z) → Below w.heap.size w w' → wpList P ops Q rest (a.put o.dst (.slice (some ⟨w.heap.size, 0, none⟩) n n)) w') :
    wpList P ops Q (o :: rest) a w := by
  obtain ⟨i, hi, hz0, hz1, hz2⟩ := info_parts K.info
  refine wpList_make_full w hgd l c T hop base E i z 1 K.under hi hz0 hz1 kl kc L C n hl hc hL hC (by rw [hz2]; exact hb) hm hbase fun w' hown hg => ?_
  refine h w' ?_ ((Below.refl _ _).grown hg (Nat.le_refl _) (fun k hk => by cases hk))
  rw [K.zone, Nat.mul_one, toList_madeCells_one] at hown
  simpa [OwnS] using hown
end
end Go.Proofs.Ytghdanpigohnjaa
namespace Go.Proofs.Ytghdanpigohnjaa
open Go Go.RowKit

/-- A slice value that reads as a list. -/
def RdL {α : Type} (R : World → Value → α → Prop) (w : World) (v : Value) (as1 : List α) : Prop :=
  ∃ a cap, v = .slice a as1.length cap ∧ (as1.length ≤ cap ∧ (a = none → cap = 0)) ∧ cap ≤ maxLen ∧
    ∀ j (h : j < as1.length), ∃ b off u, a = some ⟨b, off, none⟩ ∧ b < w.heap.size ∧ w.cell? ⟨b, off + j, none⟩ = some u ∧ R w u as1[j]
/-- An integer as a value. -/
def IntV (k : IntKind) (_ : World) (v : Value) (n : Int) : Prop := v = .int k n
/-- What stays as it is where nothing below the blocks that are there changes. -/
def Mono {α : Type} (R : World → Value → α → Prop) : Prop := ∀ w w' v x, Below w.heap.size w w' → R w v x → R w' v x

theorem mono_int (k : IntKind) : Mono (IntV k) := fun _ _ _ _ _ h => h
theorem mono_rdl {α : Type} {R : World → Value → α → Prop} (hR : Mono R) : Mono (RdL R) := by
  intro w w' v as1 hb ⟨a, cap, hv, h1, h2, hc⟩
  refine ⟨a, cap, hv, h1, h2, fun j h => ?_⟩
  obtain ⟨b, off, u, ha, hlt, hcell, hu⟩ := hc j h
  exact ⟨b, off, u, ha, Nat.lt_of_lt_of_le hlt hb.size, (hb.cell (p := ⟨b, off + j, none⟩) hlt).trans hcell, hR w w' u _ hb hu⟩
theorem RdL.below {α : Type} {R : World → Value → α → Prop} (hR : Mono R) {w w' : World} {v : Value} {as1 : List α} (h : RdL R w v as1) (hb : Below w.heap.size w w') : RdL R w' v as1 := mono_rdl hR w w' v as1 hb h

theorem RdL.nil {α : Type} {R : World → Value → α → Prop} (w : World) : RdL R w (.slice none 0 0) ([] : List α) :=
  ⟨none, 0, rfl, ⟨Nat.le_refl _, fun _ => rfl⟩, Nat.zero_le _, fun j h => by simp at h⟩
/-- A slice of the call's own reads as what its cells read as. -/
theorem OwnS.rd {α : Type} {R : World → Value → α → Prop} {w : World} {base : Nat} {e : TypeId} {v : Value} {xs : List Value} {as1 : List α} (h : OwnS w base e v xs) (hl : xs.length = as1.length)
    (hR : ∀ j (h1 : j < xs.length) (h2 : j < as1.length), R w xs[j] as1[j]) : RdL R w v as1 := by
  rcases h.shape with ⟨rfl, rfl⟩ | ⟨g, cap, rfl, _, hlt, hcap, hmax, hcell, _⟩
  · have : as1 = [] := List.length_eq_zero_iff.1 (by simpa using hl.symm)
    subst this; exact RdL.nil w
  · refine ⟨some ⟨g, 0, none⟩, cap, by rw [hl], ⟨by omega, fun h => by cases h⟩, hmax, fun j hj => ?_⟩
    refine ⟨g, 0, xs[j]'(by omega), rfl, hlt, ?_, hR j (by omega) hj⟩
    rw [Nat.zero_add, hcell j (by omega), List.getElem?_eq_getElem]
theorem OwnS.rdInts {w : World} {base : Nat} {e : TypeId} {v : Value} {k : IntKind} {zs : List Int} (h : OwnS w base e v (zs.map (Value.int k))) : RdL (IntV k) w v zs :=
  h.rd (by simp) (fun j h1 h2 => by simp [IntV])

/-- What holds below a bound that is not above the heap's size. -/
theorem RdL.of_start {α : Type} {R : World → Value → α → Prop} (hR : Mono R) {w w' : World} {v : Value} {as1 : List α} (h : RdL R w v as1) (hb : Below w.heap.size w w') : RdL R w' v as1 := h.below hR hb
/-- The cells of a slice, as they are. -/
def RdV (w : World) (v : Value) (vs : List Value) : Prop :=
  ∃ a cap, v = .slice a vs.length cap ∧ (vs.length ≤ cap ∧ (a = none → cap = 0)) ∧ cap ≤ maxLen ∧ ∀ j (h : j < vs.length), ∃ b off, a = some ⟨b, off, none⟩ ∧ b < w.heap.size ∧ w.cell? ⟨b, off + j, none⟩ = some vs[j]
/-- Each value reads as its counterpart. -/
def Reads {α : Type} (R : World → Value → α → Prop) (w : World) (vs : List Value) (xs : List α) : Prop :=
  vs.length = xs.length ∧ ∀ j (h : j < vs.length) (h' : j < xs.length), R w vs[j] xs[j]
theorem Reads.nil {α : Type} {R : World → Value → α → Prop} (w : World) : Reads R w [] ([] : List α) := ⟨rfl, fun j h => by simp at h⟩
theorem Reads.append {α : Type} {R : World → Value → α → Prop} {w : World} {vs us : List Value} {xs ys : List α} (h : Reads R w vs xs) (k : Reads R w us ys) : Reads R w (vs ++ us) (xs ++ ys) := by
  obtain ⟨h1, h2⟩ := h
  obtain ⟨k1, k2⟩ := k
  refine ⟨by simp [h1, k1], fun j hj hj' => ?_⟩
  by_cases hl : j < vs.length
  · rw [List.getElem_append_left hl, List.getElem_append_left (by omega)]
    exact h2 j hl (by omega)
  · rw [List.getElem_append_right (by omega), List.getElem_append_right (by omega)]
    simp only [h1]
    simp at hj hj'
    exact k2 (j - xs.length) (by omega) (by omega)
theorem Reads.single {α : Type} {R : World → Value → α → Prop} {w : World} {u : Value} {x : α} (h : R w u x) : Reads R w [u] [x] :=
  ⟨rfl, fun j hj hj' => by
    simp at hj
    subst hj; exact h⟩
theorem Reads.snoc {α : Type} {R : World → Value → α → Prop} {w : World} {vs : List Value} {xs : List α} {u : Value} {x : α} (h : Reads R w vs xs) (hu : R w u x) : Reads R w (vs ++ [u]) (xs ++ [x]) :=
  h.append (Reads.single hu)
theorem Reads.mono {α : Type} {R : World → Value → α → Prop} (hR : Mono R) {w w' : World} {vs : List Value} {xs : List α} (h : Reads R w vs xs) (hb : Below w.heap.size w w') : Reads R w' vs xs :=
  ⟨h.1, fun j h1 h2 => hR w w' _ _ hb (h.2 j h1 h2)⟩
theorem RdL.vals {α : Type} {R : World → Value → α → Prop} {w : World} {v : Value} {xs : List α} (h : RdL R w v xs) : ∃ vs, RdV w v vs ∧ Reads R w vs xs := by
  obtain ⟨a, cap, rfl, h1, h2, h3⟩ := h
  by_cases hx : xs.length = 0
  · refine ⟨[], ⟨a, cap, by rw [hx]; rfl, ⟨Nat.zero_le _, h1.2⟩, h2, fun j hj => by simp at hj⟩, ⟨by simp [hx], fun j hj => by simp at hj⟩⟩
  · obtain ⟨b, off, u0, rfl, _⟩ := h3 0 (by omega)
    have hl : ((List.range xs.length).map fun j => (w.cell? ⟨b, off + j, none⟩).getD undef).length = xs.length := by simp
    refine ⟨(List.range xs.length).map fun j => (w.cell? ⟨b, off + j, none⟩).getD undef, ⟨some ⟨b, off, none⟩, cap, by rw [hl], ⟨by rw [hl]; exact h1.1, h1.2⟩, h2, fun j hj => ?_⟩, ⟨hl, fun j hj hj' => ?_⟩⟩
    · obtain ⟨b', off', u, he, hlt, hc, hu⟩ := h3 j (by rw [hl] at hj; exact hj)
      simp only [Option.some.injEq, Addr.mk.injEq, and_true] at he
      obtain ⟨rfl, rfl⟩ := he
      exact ⟨b, off, rfl, hlt, by simp [hc]⟩
    · obtain ⟨b', off', u, he, hlt, hc, hu⟩ := h3 j hj'
      simp only [Option.some.injEq, Addr.mk.injEq, and_true] at he
      obtain ⟨rfl, rfl⟩ := he
      simpa [hc] using hu
theorem RdV.rd {α : Type} {R : World → Value → α → Prop} {w : World} {v : Value} {vs : List Value} {xs : List α} (h : RdV w v vs) (hr : Reads R w vs xs) : RdL R w v xs := by
  obtain ⟨a, cap, rfl, h1, h2, h3⟩ := h
  have hl := hr.1
  refine ⟨a, cap, by rw [hl], ⟨by omega, h1.2⟩, h2, fun j hj => ?_⟩
  obtain ⟨b, off, ha, hlt, hc⟩ := h3 j (by omega)
  exact ⟨b, off, _, ha, hlt, hc, hr.2 j (by omega) hj⟩
theorem RdV.below {w w' : World} {v : Value} {vs : List Value} (h : RdV w v vs) (hb : Below w.heap.size w w') : RdV w' v vs := by
  obtain ⟨a, cap, rfl, h1, h2, h3⟩ := h
  refine ⟨a, cap, rfl, h1, h2, fun j hj => ?_⟩
  obtain ⟨b, off, ha, hlt, hc⟩ := h3 j hj
  exact ⟨b, off, ha, Nat.lt_of_lt_of_le hlt hb.size, (hb.cell (p := ⟨b, off + j, none⟩) hlt).trans hc⟩
theorem OwnS.rdv {w : World} {base : Nat} {e : TypeId} {v : Value} {xs : List Value} (h : OwnS w base e v xs) : RdV w v xs := by
  rcases h.shape with ⟨rfl, rfl⟩ | ⟨g, cap, rfl, _, hlt, hcap, hmax, hcell, _⟩
  · exact ⟨none, 0, rfl, ⟨Nat.le_refl _, fun _ => rfl⟩, Nat.zero_le _, fun j h => by simp at h⟩
  · exact ⟨some ⟨g, 0, none⟩, cap, rfl, ⟨hcap, fun h => by cases h⟩, hmax, fun j hj => ⟨g, 0, rfl, hlt, by rw [Nat.zero_add, hcell j hj, List.getElem?_eq_getElem]⟩⟩

section
variable {P : Program} {T E : TypeId} {z : Value} {bytes : Nat} {ops : Array Oper} {rest : List Oper} {o : Oper} {a : Act} {Q : Exit → Act → World → Prop}
/-- 'append(out, src...)', out of the call's own, src whatever reads. -/
theorem wpList_extend (K : ElemT P T E z bytes) {w : World} (hgd : o.guard = none) (s x : Operand) (ho : o.op = .call { callee := .builtin .append, args := #[s, x], argTypes := #[T, T] })
    (base : Nat) (v : Value) (xs : List Value) (src : Value) (ys : List Value) (hs : a.eval s = v) (hx : a.eval x = src) (hown : OwnS w base E v xs) (hsrc : RdV w src ys) (hone : ∀ u ∈ ys, u.oneCell' = true)
    (hlen : (xs.length + ys.length) * bytes ≤ 140737488355328) (hmax : xs.length + ys.length ≤ maxLen) (hbase : base ≤ w.heap.size)
    (h : ∀ v' w', OwnS w' base E v' (xs ++ ys) → w.grownBy w' v.ownBlock → Below base w w' → wpList P ops Q rest (a.put o.dst v') w') :
    wpList P ops Q (o :: rest) a w := by
  obtain ⟨i, hi, hz0, hz1, hz2⟩ := info_parts K.info
  obtain ⟨ad, cap, rfl, h1, h2, h3⟩ := hsrc
  have done : ∀ v' w', w'.ownsRow base E 1 v' (xs.length + ys.length) (xs ++ ys) → w.grownBy w' v.ownBlock → wpList P ops Q rest (a.put o.dst v') w' := fun v' w' hown' hg =>
    h v' w' (by simpa [OwnS] using hown') hg ((Below.refl base w).grown hg hbase (OwnS.own_ge hown))
  cases ad with
  | none =>
    have : ys = [] := by
      cases ys with
      | nil => rfl
      | cons y ys => obtain ⟨b, off, ha, _⟩ := h3 0 (by simp); cases ha
    subst this
    have hc0 := h1.2 rfl
    subst hc0
    exact wpList_append_own_none hgd s x T ho base E i 1 K.under hi v xs.length xs hs hown hx (done v w (by simpa [OwnS] using hown) (World.grownBy.refl w _))
  | some ad =>
    refine wpList_append_own w hgd s x T ho base E i z 1 bytes K.under hi hz0 hz1 hz2 (by rw [K.zone]; rfl) (by decide) v xs.length xs hs hown ad ys.length cap ys hx (by simp) ?_ hone hmax hlen hbase (fun v' w' hown' hg _ => done v' w' hown' hg)
    intro j u hj
    obtain ⟨hjl, rfl⟩ := List.getElem?_eq_some_iff.1 hj
    obtain ⟨b, off, ha, _, hc⟩ := h3 j hjl
    simp only [Option.some.injEq] at ha
    subst ha
    rw [Addr.add_lit]; exact hc
end
theorem ret_bool {a b : Bool} (h : a = b) : Ending.returned (.bool a) = .returned (.bool b) := by rw [h]
theorem ret_int {k : IntKind} {a b : Int} (h : a = b) : Ending.returned (.int k a) = .returned (.int k b) := by rw [h]
end Go.Proofs.Ytghdanpigohnjaa
namespace Go.Proofs.Ytghdanpigohnjaa
open Go Go.ChangeShapes Go.WideShapes Go.ChangeAt Go.RowKit Go.Deep

/-- Numbers that Go's int holds. -/
def I64 (x : Int) : Prop := -9223372036854775808 ≤ x ∧ x ≤ 9223372036854775807
/-- A one-cell value of type t reads by R. -/
def Opens {α : Type} (P : Program) (w : World) (t : TypeId) (R : World → Value → α → Prop) : Prop :=
  ∀ (H : Type) (enc : TypeId × Value → H) (n : Nat) (v : Value) (d : DataW H × List MemPlace), DataW.trod enc P w 0 (fun _ => true) true n t [v] = some d → ∃ x, R w v x
def IntB (k : IntKind) (w : World) (v : Value) (x : Int) : Prop := IntV k w v x ∧ (Lit.int k x).wf = true
theorem opens_int {P : Program} {w : World} {t : TypeId} {k : IntKind} (ht : P.underlying t = some (.int k)) : Opens P w t (IntB k) := by
  intro H enc n v d h
  obtain ⟨x, hv, _, hw⟩ := DataW.trod_int ht h
  exact ⟨x, by simpa [IntV] using hv, hw⟩
def BoolV (_ : World) (v : Value) (b : Bool) : Prop := v = .bool b
theorem mono_bool : Mono BoolV := fun _ _ _ _ _ h => h
theorem opens_bool {P : Program} {w : World} {t : TypeId} (ht : P.underlying t = some .bool) : Opens P w t BoolV := by
  intro H enc n v d h
  obtain ⟨x, hv, _⟩ := DataW.trod_bool ht h
  exact ⟨x, by simpa [BoolV] using hv⟩
def StrV (_ : World) (v : Value) (s : List UInt8) : Prop := v = .string ⟨s.toArray⟩ ∧ s.length ≤ maxLen
theorem mono_str : Mono StrV := fun _ _ _ _ _ h => h
theorem opens_str {P : Program} {w : World} {t : TypeId} (ht : P.underlying t = some .string) : Opens P w t StrV := by
  intro H enc n v d h
  obtain ⟨s, hv, _, hl⟩ := DataW.trod_string ht h
  exact ⟨s.data.toList, by simpa using hv, by simpa using hl⟩
theorem opens_slice {α : Type} {P : Program} {w : World} {t e : TypeId} {R : World → Value → α → Prop} [Inhabited α] (ht : P.underlying t = some (.slice e)) (ce : P.cellsOf e = 1) (hR : Opens P w e R) : Opens P w t (RdL R) := by
  intro H enc n v d h
  rcases open_slice1 ht ce h with ⟨h0, _⟩ | ⟨a, len, cap, m, n', V, D, Pl, hv, hb, hl, hm, hmm, rfl, hx⟩
  · simp only [List.cons.injEq, and_true] at h0
    subst h0
    exact ⟨[], RdL.nil w⟩
  · simp only [List.cons.injEq, and_true] at hv
    subst hv
    simp only [if_true] at hmm
    subst hmm
    have key : ∀ i, i < len → ∃ x, R w (V i) x := fun i hi => hR H enc n' (V i) _ (hx i (by omega)).2
    obtain ⟨X, hX⟩ := choose_lt key
    refine ⟨(List.range len).map X, some a, m, by simp, ⟨by simpa using hl, fun h => by cases h⟩, hm, fun j hj => ?_⟩
    have hjl : j < len := by simpa using hj
    have hc := (hx j (by omega)).1
    obtain ⟨b, off, spot⟩ := a
    have hspot : spot = none := by simpa [Addr.add] using World.cell?_spot (hx 0 (by omega)).1
    subst hspot
    rw [Go.WideShapes.add_plain] at hc
    refine ⟨b, off, V j, rfl, ?_, hc, by simpa using hX j hjl⟩
    rcases Nat.lt_or_ge b w.heap.size with h | h
    · exact h
    · simp [World.cell?, Array.getElem?_eq_none h] at hc
/-- An argument that is a slice. -/
theorem Opens.arg {α H : Type} {enc : TypeId × Value → H} {P : Program} {w : World} {t e : TypeId} {R : World → Value → α → Prop} {r : Reach} {b0 : Nat} {v : Value} {d : DataW H} {ps : List MemPlace} (hR : Opens P w t R)
    (ht : P.underlying t = some (.slice e)) (hval : Value.okWide P w r b0 t v) (hd : DataW.Trod enc P w 0 (fun _ => true) true t v d ps) : ∃ x, R w v x := by
  obtain ⟨a, len, cap, rfl⟩ := okWide_slice ht hval
  obtain ⟨fuel, hf⟩ := hd
  exact hR H enc fuel _ _ (by simpa [Value.cells] using hf)

theorem RdL.split {α : Type} {R : World → Value → α → Prop} {Q : α → Prop} {w : World} {v : Value} {xs : List α} (h : RdL (fun w v x => R w v x ∧ Q x) w v xs) : RdL R w v xs ∧ ∀ x ∈ xs, Q x := by
  obtain ⟨a, cap, hv, h1, h2, h3⟩ := h
  refine ⟨⟨a, cap, hv, h1, h2, fun j hj => ?_⟩, fun x hx => ?_⟩
  · obtain ⟨b, off, u, ha, hlt, hc, hu, _⟩ := h3 j hj
    exact ⟨b, off, u, ha, hlt, hc, hu⟩
  · obtain ⟨j, hj, rfl⟩ := List.mem_iff_getElem.1 hx
    obtain ⟨b, off, u, ha, hlt, hc, _, hq⟩ := h3 j hj
    exact hq
theorem RdL.imp {α : Type} {R S : World → Value → α → Prop} {w : World} {v : Value} {xs : List α} (h : RdL R w v xs) (hi : ∀ u x, R w u x → S w u x) : RdL S w v xs := by
  obtain ⟨a, cap, hv, h1, h2, h3⟩ := h
  refine ⟨a, cap, hv, h1, h2, fun j hj => ?_⟩
  obtain ⟨b, off, u, ha, hlt, hc, hu⟩ := h3 j hj
  exact ⟨b, off, u, ha, hlt, hc, hi u _ hu⟩
theorem i64_wf {x : Int} (h : (Lit.int .i64 x).wf = true) : I64 x := bounds_i64 h
theorem RdL.ints {w : World} {v : Value} {xs : List Int} (h : RdL (IntB .i64) w v xs) : RdL (IntV .i64) w v xs ∧ ∀ x ∈ xs, I64 x :=
  ⟨(RdL.split h).1, fun x hx => i64_wf ((RdL.split h).2 x hx)⟩
theorem RdL.rows {w : World} {v : Value} {xs : List (List Int)} (h : RdL (RdL (IntB .i64)) w v xs) : RdL (RdL (IntV .i64)) w v xs ∧ ∀ l ∈ xs, ∀ x ∈ l, I64 x := by
  have h2 : RdL (fun w v x => RdL (IntV .i64) w v x ∧ ∀ y ∈ x, I64 y) w v xs := h.imp fun u x hu => hu.ints
  exact h2.split
end Go.Proofs.Ytghdanpigohnjaa
namespace Go.Proofs.Ytghdanpigohnjaa
open Go Go.ChangeShapes Go.WideShapes Go.ChangeAt Go.RowKit Go.Deep
theorem rep_int {w : World} (x : Int) : RepV (fun b _ => b < w.heap.size) w (.int .i64 x) (VI x) := .int _ _
theorem rep_str {w : World} (s : ByteArray) : RepV (fun b _ => b < w.heap.size) w (.string s) (STR s.data.toList) := by
  rw [show STR s.data.toList = .str s by rw [STR, ← bs_of]]
  exact .str _
theorem rep_ints {w : World} {v : Value} {xs : List Int} (h : RdL (IntV .i64) w v xs) : RepV (fun b _ => b < w.heap.size) w v (LI xs) := by
  obtain ⟨a, cap, rfl, ⟨h1, h1'⟩, h2, h3⟩ := h
  rcases Nat.eq_zero_or_pos xs.length with h0 | h0
  · obtain rfl := List.eq_nil_of_length_eq_zero h0
    exact .sl0 _ _ _ h1 h2 h1'
  · obtain ⟨b, off, u, rfl, hb, _⟩ := h3 0 h0
    refine .sl b off xs.length cap (fun j => .int .i64 (xs.getD j 0)) (xs.map VI) h1 h2 (fun j hj => ?_) fun j c hc => ?_
    · have hj' : j < xs.length := by simpa using hj
      obtain ⟨b', off', u', he, hb', hc', hu'⟩ := h3 j hj'
      simp only [Option.some.injEq, Addr.mk.injEq, and_true] at he
      obtain ⟨rfl, rfl⟩ := he
      refine ⟨hb', rfl, ?_⟩
      rw [hc', show u' = .int .i64 xs[j] from hu']
      simp [List.getD, hj']
    · have hj' : j < xs.length := by simpa using (List.getElem?_eq_some_iff.1 hc).1
      have : c = VI (xs.getD j 0) := by
        simp [hj'] at hc
        rw [← hc]; simp [List.getD, hj']
      rw [this]
      exact .int _ _
theorem rd_len {α : Type} {R : World → Value → α → Prop} {w : World} {v : Value} {xs : List α} (h : RdL R w v xs) : xs.length < 9223372036854775808 := by
  obtain ⟨a, cap, rfl, ⟨h1, h1'⟩, h2, h3⟩ := h
  have h4 : xs.length ≤ maxLen := Nat.le_trans h1 h2
  unfold maxLen at h4
  omega
theorem big_of {x : Int} (h : I64 x) : Big x := ⟨h.1, by have := h.2; omega⟩
/-- From a law's contract to what the row asks. -/
theorem law_calls {B : CallP} (hB : ∀ f args sto lo r sto', B f args sto lo r sto' → CallOK Try.prog f args sto lo r sto') {f : FuncId} {xs : List V} {vals : List Value} {w : World} (h : CallEv Try.prog tab B f (xs.map .v) [] 0 (.v (.bool true)) []) (hv : Pw (RepV (fun b _ => b < w.heap.size) w) vals xs) :
    Calls Try.prog f vals.toArray w fun e w' => e = .returned (.bool true) ∧ Below w.heap.size w w' := by
  refine (call_plain tab_ok (by kernel_rfl) hB h (fun g cs hm => by cases hm) hv).mono fun e w' ⟨v, S', h1, h2, h3⟩ => ?_
  cases h2
  exact ⟨h1, h3⟩
/-! ### A list of operations -/
def OPL (l : List OpS) : V := .sl l.length (l.map OpS.cells).flatten
theorem opl_len (l : List OpS) : ∀ x ∈ l.map OpS.cells, x.length = 5 := by
  intro x hx
  obtain ⟨o, _, rfl⟩ := List.mem_map.1 hx
  rfl
set_option maxRecDepth 100000 in
theorem op_open {H : Type} {enc : TypeId × Value → H} {w : World} {n : Nat} {cs : List Value} {x : DataW H × List MemPlace} (h : DataW.trod enc Try.prog w 0 (fun _ => true) true n 33 cs = some x) :
    ∃ o : OpS, o.ok ∧ cs.length = 5 ∧ ∀ (j : Nat) (u : Value) (c : V), cs[j]? = some u → o.cells[j]? = some c → u.oneCell' = true ∧ RepV (fun b _ => b < w.heap.size) w u c := by
  obtain ⟨xs, k, hk, hx, hl, hxl, hf⟩ := DataW.trod_struct Try.underlying33 h
  have hl5 : cs.length = 5 := by rw [hl]; kernel_rfl
  have hx5 : xs.length = 5 := hxl
  match cs, hl5 with
  | [v0, v1, v2, v3, v4], _ =>
  match xs, hx5 with
  | [y0, y1, y2, y3, y4], _ =>
  have ci : Try.prog.cellsOf 3 = 1 := by kernel_rfl
  have ct : Try.prog.cellsOf 9 = 1 := by kernel_rfl
  have cl : Try.prog.cellsOf 31 = 1 := by kernel_rfl
  have g0 : DataW.trod enc Try.prog w 0 (fun _ => true) true k 3 (([v0, v1, v2, v3, v4].drop 0).take (Try.prog.cellsOf 3)) = some y0 := hf 0 _ rfl
  have g1 : DataW.trod enc Try.prog w 0 (fun _ => true) true k 3 (([v0, v1, v2, v3, v4].drop 1).take (Try.prog.cellsOf 3)) = some y1 := hf 1 _ rfl
  have g2 : DataW.trod enc Try.prog w 0 (fun _ => true) true k 3 (([v0, v1, v2, v3, v4].drop 2).take (Try.prog.cellsOf 3)) = some y2 := hf 2 _ rfl
  have g3 : DataW.trod enc Try.prog w 0 (fun _ => true) true k 9 (([v0, v1, v2, v3, v4].drop 3).take (Try.prog.cellsOf 9)) = some y3 := hf 3 _ rfl
  have g4 : DataW.trod enc Try.prog w 0 (fun _ => true) true k 31 (([v0, v1, v2, v3, v4].drop 4).take (Try.prog.cellsOf 31)) = some y4 := hf 4 _ rfl
  rw [ci] at g0 g1 g2
  rw [ct] at g3
  rw [cl] at g4
  simp only [List.drop_zero, List.drop_succ_cons, List.take_succ_cons, List.take_zero] at g0 g1 g2 g3 g4
  obtain ⟨a0, e0, _, w0⟩ := DataW.trod_int Try.underlying3 g0
  obtain ⟨a1, e1, _, w1⟩ := DataW.trod_int Try.underlying3 g1
  obtain ⟨a2, e2, _, w2⟩ := DataW.trod_int Try.underlying3 g2
  obtain ⟨s3, e3, _, l3⟩ := DataW.trod_string Try.underlying9 g3
  obtain ⟨l4, k4⟩ := opens_slice (R := IntB .i64) Try.underlying31 (by kernel_rfl) (opens_int (k := .i64) Try.underlying3) H enc k v4 y4 g4
  obtain ⟨h4, q4⟩ := k4.ints
  simp only [List.cons.injEq, and_true] at e0 e1 e2 e3
  subst e0 e1 e2 e3
  have hs4 : v4.oneCell' = true := by
    obtain ⟨a, cap, rfl, _⟩ := h4
    rfl
  have hlen : s3.data.toList.length ≤ maxLen := by simpa using l3
  refine ⟨⟨a0, a1, a2, s3.data.toList, l4⟩, ⟨big_of (i64_wf w0), big_of (i64_wf w1), big_of (i64_wf w2), ?_, rd_len h4, fun p hp => big_of (q4 p hp)⟩, rfl, ?_⟩
  · show s3.data.toList.length < _
    unfold maxLen at hlen; omega
  · intro j u c hu hc
    match j with
    | 0 => cases hu; cases hc; exact ⟨rfl, rep_int _⟩
    | 1 => cases hu; cases hc; exact ⟨rfl, rep_int _⟩
    | 2 => cases hu; cases hc; exact ⟨rfl, rep_int _⟩
    | 3 => cases hu; cases hc; exact ⟨rfl, rep_str _⟩
    | 4 => cases hu; cases hc; exact ⟨hs4, rep_ints h4⟩
    | j + 5 => simp at hu
instance : Inhabited (OpS × List Value) := ⟨⟨⟨0, 0, 0, [], []⟩, []⟩⟩
def OpsV (w : World) (v : Value) (l : List OpS) : Prop := (∀ o ∈ l, o.ok) ∧ l.length < 9223372036854775808 ∧ RepV (fun b _ => b < w.heap.size) w v (OPL l)
theorem opens_ops {w : World} : Opens Try.prog w 22 OpsV := by
  intro H enc n v d h
  rcases open_slice Try.underlying22 h with ⟨h0, _⟩ | ⟨a, len, cap, m, n', Dd, Pl, hv, hb, hl, hm, hmm, rfl, hx⟩
  · simp only [List.cons.injEq, and_true] at h0
    subst h0
    exact ⟨[], fun o ho => by simp at ho, by simp, .sl0 _ _ _ (Nat.le_refl _) (Nat.zero_le _) (fun _ => rfl)⟩
  · simp only [List.cons.injEq, and_true] at hv
    subst hv
    simp only [if_true] at hmm
    subst hmm
    have ce : Try.prog.cellsOf 33 = 5 := by kernel_rfl
    rw [ce] at hx
    have key : ∀ i, i < len → ∃ q : OpS × List Value, q.1.ok ∧ q.2.length = 5 ∧ (∀ j, j < 5 → w.cell? ((a.add (i * 5)).add j) = q.2[j]?) ∧ ∀ (j : Nat) (u : Value) (c : V), q.2[j]? = some u → q.1.cells[j]? = some c → u.oneCell' = true ∧ RepV (fun b _ => b < w.heap.size) w u c := by
      intro i hi
      obtain ⟨cs', h1, h2⟩ := hx i (by omega)
      obtain ⟨_, h3, h4⟩ := World.cells?_some h1
      obtain ⟨o, ho, hl5, hr⟩ := op_open h2
      exact ⟨(o, cs'), ho, hl5, h4, hr⟩
    obtain ⟨F, hF⟩ := choose_lt key
    have hlm : len < 9223372036854775808 := by unfold maxLen at hm; omega
    refine ⟨(List.range len).map fun i => (F i).1, fun o ho => ?_, by simpa using hlm, ?_⟩
    · obtain ⟨i, hi, rfl⟩ := List.mem_map.1 ho
      exact (hF i (List.mem_range.1 hi)).1
    · have hcl : (((List.range len).map fun i => (F i).1).map OpS.cells).flatten.length = len * 5 := by
        rw [flat_len (opl_len _)]; simp
      rcases Nat.eq_zero_or_pos len with h0 | h0
      · subst h0
        exact .sl0 _ _ _ (by simp) hm (fun h => by cases h)
      · obtain ⟨b, off, spot⟩ := a
        have hspot : spot = none := by
          have h5 := (hF 0 h0).2.2.1 0 (by omega)
          have h6 := (hF 0 h0).2.1
          rw [List.getElem?_eq_getElem (by omega)] at h5
          simpa [Addr.add] using World.cell?_spot h5
        subst hspot
        have hcell : ∀ i j, i < len → j < 5 → w.cell? ⟨b, off + (i * 5 + j), none⟩ = (F i).2[j]? := by
          intro i j hi hj
          have := (hF i hi).2.2.1 j hj
          rw [Go.WideShapes.add_plain, Go.WideShapes.add_plain, Nat.add_assoc] at this
          exact this
        rw [OPL, show (((List.range len).map fun i => (F i).1)).length = len by simp]
        refine .sl b off len m (fun j => ((F (j / 5)).2[j % 5]?).getD (.bool false)) _ hl hm (fun j hj => ?_) fun j c hc => ?_
        · rw [hcl] at hj
          have hi : j / 5 < len := by omega
          have hj5 : j % 5 < 5 := Nat.mod_lt _ (by omega)
          obtain ⟨q1, q2, q3, q4⟩ := hF (j / 5) hi
          have hg : (F (j / 5)).2[j % 5]? = some ((F (j / 5)).2[j % 5]'(by omega)) := List.getElem?_eq_getElem _
          have hc5 := hcell (j / 5) (j % 5) hi hj5
          rw [show j / 5 * 5 + j % 5 = j by omega, hg] at hc5
          have hoc : (F (j / 5)).1.cells[j % 5]? = some ((F (j / 5)).1.cells[j % 5]'(by simpa [OpS.cells] using hj5)) := List.getElem?_eq_getElem _
          rw [hg]
          refine ⟨?_, (q4 _ _ _ hg hoc).1, by simpa using hc5⟩
          rcases Nat.lt_or_ge b w.heap.size with h | h
          · exact h
          · simp [World.cell?, Array.getElem?_eq_none h] at hc5
        · have hj : j < len * 5 := by rw [← hcl]; exact (List.getElem?_eq_some_iff.1 hc).1
          have hi : j / 5 < len := by omega
          have hj5 : j % 5 < 5 := Nat.mod_lt _ (by omega)
          obtain ⟨q1, q2, q3, q4⟩ := hF (j / 5) hi
          have hg : (F (j / 5)).2[j % 5]? = some ((F (j / 5)).2[j % 5]'(by omega)) := List.getElem?_eq_getElem _
          have hfl := flat_get1 (opl_len ((List.range len).map fun i => (F i).1)) (i := j / 5) (j := j % 5) (by simpa using hi) hj5
          rw [show j / 5 * 5 + j % 5 = j by omega, hc] at hfl
          simp only [List.getElem_map, List.getElem_range] at hfl
          rw [hg]
          exact (q4 _ _ _ hg hfl.symm).2
end Go.Proofs.Ytghdanpigohnjaa
namespace Go.Proofs.Ytghdanpigohnjaa
open Go Go.RowKit
theorem DiskW.s2 {f : FuncId} {args : List _root_.Go.Proofs.Ytghdanpigohnjaa.D} {sto : Sto} {K E : DK} {R : RK} {r : _root_.Go.Proofs.Ytghdanpigohnjaa.D} (h : DiskW f args sto.length K r E) {lo : Nat} (hlo : lo ≤ sto.length) : CD f args (st2 sto K R) lo r (st2 sto E R) := by
  have := h.here (s := st2 sto K R) st2_disk hlo
  rwa [st2_putD] at this
theorem DiskR.s2 {f : FuncId} {args : List _root_.Go.Proofs.Ytghdanpigohnjaa.D} {sto : Sto} {K : DK} {R : RK} {r : _root_.Go.Proofs.Ytghdanpigohnjaa.D} (h : DiskR f args sto.length K r) {lo : Nat} (hlo : lo ≤ sto.length) : CD f args (st2 sto K R) lo r (st2 sto K R) := h.here st2_disk (by rw [st2_len]; omega)
theorem RefW.s2 {f : FuncId} {args : List _root_.Go.Proofs.Ytghdanpigohnjaa.D} {sto : Sto} {K : DK} {R S : RK} {r : _root_.Go.Proofs.Ytghdanpigohnjaa.D} (h : RefW f args (sto.length + 4) (sto.length + 5) R r S) {lo : Nat} (hlo : lo ≤ sto.length) : CD f args (st2 sto K R) lo r (st2 sto K S) := by
  have := h.here (by omega) (s := st2 sto K R) st2_ref (lo := lo) (by omega) (by omega)
  rwa [st2_putR] at this
theorem ho_st0 {lo : Nat} {sto : Sto} {E : DK} {S : RK} : ∀ i ds, lo ≤ i → i < sto.length → (st2 sto E S)[i]? = some (.cells ds) → sto[i]? = some (.cells ds) ∨ scopedL sto.length ds = true := by
  intro i ds _ h1 h2
  rw [st2_lt h1] at h2
  exact .inl h2
theorem cellsO (l : List OpS) {i : Nat} (hi : i < l.length) : (((l.map OpS.cells).flatten.drop (i * 5)).take 5) = l[i].cells := by
  rw [flat_get (opl_len l) (by simpa using hi), List.getElem_map]
theorem lenO (l : List OpS) : (l.map OpS.cells).flatten.length = l.length * 5 := by rw [flat_len (opl_len l), List.length_map]
end Go.Proofs.Ytghdanpigohnjaa
