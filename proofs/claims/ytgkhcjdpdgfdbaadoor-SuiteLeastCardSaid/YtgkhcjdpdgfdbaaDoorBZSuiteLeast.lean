/-
  SuiteLeast: its walk. No condition of its own. SuiteLeast of layer 37: whatever the input, it returns true. The card ties math/bits' tables to the program's text.
-/
import Derived.Test.YtgkhcjdpdgfdbaaDoorB4
import Derived.Test.YtgkhcjdpdgfdbaaDoorB5
import Derived.Test.YtgkhcjdpdgfdbaaDoorCards
import Derived.Test.YtgkhcjdpdgfdbaaDoorTie
import Derived.Test.YtgkhcjdpdgfdbaaDoorB3
import Derived.SevenTiedAt
namespace Go.Proofs.YtgkhcjdpdgfdbaaDoor
open Go Go.RowKit

attribute [local irreducible] EvOps EvC
attribute [local go_sem] List.getElem?_toArray getS List.flatten_cons List.flatten_nil List.contains_nil
set_option linter.unusedSimpArgs false
set_option linter.unusedVariables false
set_option maxRecDepth 100000
set_option maxHeartbeats 40000000
theorem leastL_ok {rows : List (List Int)} {cost : List Int} (hp : possS rows cost = true) : leastL rows cost (ints (bitsN (leastN (rows.map maskS) cost))) = true := by
  rw [leastL, ← check_eq, cert_ok hp]; simp
theorem suiteLeast_ev (l m : List Int) (how : Int) (hl : l.length < 9223372036854775808) (hlx : ∀ x ∈ l, Big x) (hm : m.length < 9223372036854775808) (hmx : ∀ x ∈ m, Big x) (hh : Big how) (sto : Sto) (lo : Nat) (hlo : lo ≤ sto.length) : CallEv Tryd.prog tab collB 3 [.v (LI l), .v (LI m), .v (VI how)] sto lo (.v (.bool true)) sto := by
  have hd := drawn l m
  have hcs := fun sto lo hlo => (refCosts_ev m hm hmx sto lo hlo).up0 (B := collB)
  have hrs := fun sto lo hlo => (refRows_ev l (costsS m).length hl hlx (by omega) (by have := hd.many; omega) sto lo hlo).up0 (B := collB)
  generalize costsS m = cost at *
  generalize rowsS l cost.length = rows at *
  obtain ⟨d1, d2, d3, d4, d5⟩ := id hd
  have hp := hd.poss
  have hrl : ∀ r ∈ rows, r.length < 1000000 := fun r hr => by have := d2 r hr; omega
  have hbl : (ints (bitsN (leastN (rows.map maskS) cost))).length ≤ 64 := by simpa using subsetS_length _ 64
  have hrf := fun sto lo hlo => (refLeast_ev rows cost (by omega) hrl d3 sto lo hlo).up0 (B := collB)
  rw [least_eq hp] at hrf
  have hll := fun sto lo hlo => lawLeast_ev rows cost (ints (bitsN (leastN (rows.map maskS) cost))) (by omega) hrl hp d4 (by omega) sto lo hlo
  rw [leastL_ok hp] at hll
  have hbd := fun sto lo hlo => (bad_ev rows cost how (by omega) (by omega) hh sto lo hlo).up0 (B := collB)
  obtain ⟨b1, b2, b3⟩ := badS_size rows cost how
  have hrl2 : ∀ r ∈ (badS rows cost how).1, r.length < 1000000 := fun r hr => by
    rcases b3 r hr with h | h
    · have := d2 r h; omega
    · omega
  have hofb := fun sto lo hlo => (lawOf_ev (badS rows cost how).1 (by omega) sto lo hlo).up0 (B := collB)
  have hlb := fun sto lo hlo => leastBad_ev (badS rows cost how).1 (badS rows cost how).2 (by omega) hrl2 (by omega) (badS_poss _ _ _) sto lo hlo
  generalize (badS rows cost how).1 = rb at *
  generalize (badS rows cost how).2 = cb at *
  generalize ints (bitsN (leastN (rows.map maskS) cost)) = best at *
  clear b3 hrl2 d2 d5 hrl hp hd hlx hmx
  refine CallEv.intro ⟨_, _, [], Tryd.func3, rfl, by decide, ?_⟩; simp only [go_sem, Tryd.ntmps3]
  repeat' (first | (refine go ⟨?_⟩) | (first | ((refine call ?_); (refine ⟨_, hcs _ _ (by first | omega | (simp; done) | (simp; omega)), ?_⟩); (try simp only [go_sem])) | ((refine call ?_); (refine ⟨_, hrs _ _ (by first | omega | (simp; done) | (simp; omega)), ?_⟩); (try simp only [go_sem])) | ((refine call ?_); (refine ⟨_, hbd _ _ (by first | omega | (simp; done) | (simp; omega)), ?_⟩); (try simp only [go_sem])) | ((refine call ?_); (refine ⟨_, hofb _ _ (by first | omega | (simp; done) | (simp; omega)), ?_⟩); (try simp only [go_sem])) | ((refine call ?_); (refine ⟨_, hlb _ _ (by first | omega | (simp; done) | (simp; omega)), ?_⟩); (try simp only [go_sem])) | ((refine call ?_); (refine ⟨_, hrf _ _ (by first | omega | (simp; done) | (simp; omega)), ?_⟩); (try simp only [go_sem])) | ((refine call ?_); (refine ⟨_, hll _ _ (by first | omega | (simp; done) | (simp; omega)), ?_⟩); (try simp only [go_sem])) | ((refine call ?_); (refine ⟨_, lives_ev _ _ (by first | omega | (simp; done) | (simp; omega)), ?_⟩); (try simp only [go_sem]))) | ((first | (refine bsp ?_ ?_) | (refine csp ?_ ?_)); all_goals (intro hb; (fail_if_success (cases hb; done)); (try simp only [decide_eq_true_eq, decide_eq_false_iff_not, beq_iff_eq, bne_iff_ne, ne_eq, beq_eq_false_iff_ne, bne_eq_false_iff_eq, Bool.not_eq_true', Bool.not_eq_false', Bool.and_eq_true, Bool.or_eq_true, Decidable.not_not] at hb); (try simp only [go_sem]))))
  refine ⟨by first | exact .inr rfl | exact .inl rfl, .inl ⟨[], _, (by dsimp only [Tryd.f3]; exact sv), ?_, by simp⟩⟩
  rfl
end Go.Proofs.YtgkhcjdpdgfdbaaDoor
namespace Go.Proofs.YtgkhcjdpdgfdbaaDoor.suiteLeast
open Go Go.ChangeShapes Go.WideShapes Go.ChangeAt Go.RowKit

theorem door_met (os : Os) (args : Array Value) : laidMetH Tryd.prog Rows.suiteLeastRow.laid ((World.doorLaid Tryd.prog 600 os).forCall (fun _ _ => 0) ⟨#[], args, []⟩).memory :=
  laidMetH_of_parts3 (fuel := 8) (laidMet_of_run' 8 (by kernel_rfl) (by kernel_rfl)) (by kernel_rfl) (by kernel_rfl)

set_option maxRecDepth 100000 in
theorem lifted (os : Os) (started : os.Started) (H : Type) (enc : TypeId × Value → H) :
    ReturnsInHanded {} Tryd.checked os 3 .any (fun w args => (Rows.suiteLeastSpec.pre enc Tryd.prog Tryd.f3 [] false w args ∧ laidMetH Tryd.prog Rows.suiteLeastRow.laid w) ∧ sizedMet enc Tryd.prog Tryd.f3 (OpenSpec.ofChange Rows.suiteLeastSpec) false w args)
      (Rows.suiteLeastSpec.post enc Tryd.prog Tryd.f3 false true false false) := by
  refine returnsInHanded_of_change_and (C := Tryd.checked) (X := fun w _ => laidMetH Tryd.prog Rows.suiteLeastRow.laid w) (fun _ _ _ hh h => h.of_heap hh) own started (by kernel_rfl) Tryd.func3
    (ChangeSpec.witness_shaped (enc := enc) (C := Tryd.checked) (os := os) (X := fun w _ => laidMetH Tryd.prog Rows.suiteLeastRow.laid w) false (World.doorLaid Tryd.prog 600 os) #[.slice none 0 0, .slice none 0 0, .int .i64 0] 8 rfl (World.shaped_of_RefB (by kernel_rfl) (by kernel_rfl)) (by kernel_rfl) (by kernel_rfl) (by kernel_rfl) (door_met os _)) ?_
  intro W base args ds gs before hval0 hW _ _ hL _
  have hval : ∀ (j : Nat) t v, Tryd.f3.params[j]? = some t → args[j]? = some v → Value.okWide Tryd.prog W .any base t v := hval0
  have hW' := hW
  obtain ⟨p, q, hA0, hV, rfl, hfz, hnd⟩ := hW
  have hA : DataW.TrodAll enc Tryd.prog W 0 (fun _ => true) true Tryd.f3.params.toList args.toList ds p := hA0
  rw [Tryd.params3] at hA hval
  obtain ⟨v0, vs0, d0, ds0, p0, q0, hargs, rfl, rfl, hd0, r0⟩ := trodAll_cons hA
  obtain ⟨v1, vs1, d1, ds1, p1, q1, rfl, rfl, rfl, hd1, r1⟩ := trodAll_cons r0
  obtain ⟨v2, vs2, d2, ds2, p2, q2, rfl, rfl, rfl, hd2, r2⟩ := trodAll_cons r1
  obtain ⟨rfl, rfl, rfl⟩ := trodAll_nil r2
  obtain rfl : args = #[v0, v1, v2] := by cases args; simp_all
  obtain ⟨l0, k0⟩ := (opens_slice Tryd.underlying22 (by kernel_rfl) (opens_int (k := .i64) Tryd.underlying3)).arg Tryd.underlying22 (hval 0 22 v0 rfl rfl) hd0
  obtain ⟨h0, q0⟩ := k0.ints
  have n0 := rd_len h0
  obtain ⟨l1, k1⟩ := (opens_slice Tryd.underlying22 (by kernel_rfl) (opens_int (k := .i64) Tryd.underlying3)).arg Tryd.underlying22 (hval 1 22 v1 rfl rfl) hd1
  obtain ⟨h1, q1⟩ := k1.ints
  have n1 := rd_len h1
  obtain ⟨a2, rfl, rfl, rfl, wa2⟩ := open_int Tryd.underlying3 (hval 2 3 v2 rfl rfl) hd2
  have b2 := i64_wf wa2
  refine (law_calls (vals := [v0, v1, .int .i64 a2]) (xs := [LI l0, LI l1, VI a2]) collB_ok (suiteLeast_ev l0 l1 a2 n0 q0 n1 q1 b2 [] 0 (Nat.le_refl _)) (glob_of_laid hL) (Pw.cons (rep_ints h0) (Pw.cons (rep_ints h1) (Pw.cons (rep_int a2) (Pw.nil))))).mono fun e W' ⟨he, hb⟩ => ?_
  subst he
  exact ⟨_, rfl, law_post hW' rfl laidOut (by kernel_rfl) rfl Tryd.underlying4 (fun ds h => match ds, h with | [_, _, _], _ => rfl) hb⟩

theorem said : Rows.SuiteLeastSaid :=
  OpenClaim.holds_of_wide 3 Tryd.f3 rfl rfl rfl rfl rfl rfl rfl ⟨rfl, rfl, rfl, rfl, rfl⟩ rfl rfl rfl rfl rfl (by kernel_rfl) Tryd.func3 (by kernel_rfl)
    (of_decide_eq_true (by kernel_rfl)) (by unfold Func.isWrapper; first | (rw [if_pos (by decide +kernel)]; kernel_rfl) | (rw [if_neg (by decide +kernel)]; exact ⟨rfl, rfl⟩))
    (fun os started H enc _ => lifted os started H enc)

theorem plain (f : FuncId) (fn : Func) (hf : Tryd.pinned.checked.prog.funcNamed "scoria/scorialaw37.SuiteLeast" = some f) (hfn : Tryd.pinned.checked.prog.funcs[f]? = some fn) :
    false = Tryd.pinned.checked.prog.looks [] ∧ ∀ (j : Nat) t, fn.params[j]? = some t → Tryd.pinned.checked.prog.wantsStandIn t = false := by
  obtain rfl : f = 3 := Option.some.inj ((show Tryd.prog.funcNamed "scoria/scorialaw37.SuiteLeast" = some 3 by kernel_rfl).symm.trans hf) |>.symm
  obtain rfl : fn = Tryd.f3 := (Option.some.inj (Tryd.func3.symm.trans hfn)).symm
  refine ⟨by kernel_rfl, fun j t ht => ?_⟩
  have hall : (Tryd.f3.params.toList.all fun t => !(Tryd.prog.wantsStandIn t)) = true := by kernel_rfl
  have h := List.all_eq_true.1 hall t (Array.mem_toList_iff.2 (Array.mem_of_getElem? ht))
  exact (Bool.not_eq_true' _).mp h

/-- THE CARD. -/
theorem suiteLeast_holds : Rows.SuiteLeastCardSaid :=
  Claim7.holds_tied_plain_at .later [] _ _ _ _ said (fun _ h => by cases h) (by kernel_rfl) (fun _ h => by cases h) suiteLeast_row_tie rfl ⟨rfl, rfl⟩ (by kernel_rfl) rfl plain (by kernel_rfl)
#print axioms suiteLeast_holds
end Go.Proofs.YtgkhcjdpdgfdbaaDoor.suiteLeast
