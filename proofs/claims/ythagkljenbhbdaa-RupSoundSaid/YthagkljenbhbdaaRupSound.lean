/-
  RupSound: whatever the input, it returns true.
-/
import Derived.Test.YthagkljenbhbdaaFrame
import Derived.Test.YthagkljenbhbdaaRLaw6
import Derived.Test.YthagkljenbhbdaaOpenR
namespace Go.Proofs.Ythagkljenbhbdaa.rupSound
open Go Go.ChangeShapes Go.WideShapes Go.ChangeAt Go.RowKit

set_option maxRecDepth 100000 in
theorem lifted (os : Os) (started : os.Started) (H : Type) (enc : TypeId × Value → H) :
    ReturnsInHanded {} Try.checked os 8 .any (Rows.rupSoundSpec.pre6 enc Try.prog Try.f8 Rows.rupSoundRow.domain false) (Rows.rupSoundSpec.post enc Try.prog Try.f8 false true false false) := by
  refine returnsInHanded_of_change (C := Try.checked) own started (by kernel_rfl) Try.func8
    (ChangeSpec.witness6 (enc := enc) (C := Try.checked) false ⟨#[], #[.slice none 0 0, .slice none 0 0, .int .i64 0, .int .i64 0, .int .i64 0, .int .i64 0], []⟩ 8 (by kernel_rfl) (by kernel_rfl) (by kernel_rfl) (by kernel_rfl)) ?_
  intro W base args ds gs before hval0 hW hcnd _
  have hval : ∀ (j : Nat) t v, Try.f8.params[j]? = some t → args[j]? = some v → Value.okWide Try.prog W .any base t v := hval0
  have hW' := hW
  obtain ⟨p, q, hA0, hV, rfl, hfz, hnd⟩ := hW
  have hA : DataW.TrodAll enc Try.prog W 0 (fun _ => true) true Try.f8.params.toList args.toList ds p := hA0
  rw [Try.params8] at hA hval
  obtain ⟨v0, vs0, d0, ds0, p0, q0, hargs, rfl, rfl, hd0, r0⟩ := trodAll_cons hA
  obtain ⟨v1, vs1, d1, ds1, p1, q1, rfl, rfl, rfl, hd1, r1⟩ := trodAll_cons r0
  obtain ⟨v2, vs2, d2, ds2, p2, q2, rfl, rfl, rfl, hd2, r2⟩ := trodAll_cons r1
  obtain ⟨v3, vs3, d3, ds3, p3, q3, rfl, rfl, rfl, hd3, r3⟩ := trodAll_cons r2
  obtain ⟨v4, vs4, d4, ds4, p4, q4, rfl, rfl, rfl, hd4, r4⟩ := trodAll_cons r3
  obtain ⟨v5, vs5, d5, ds5, p5, q5, rfl, rfl, rfl, hd5, r5⟩ := trodAll_cons r4
  obtain ⟨rfl, rfl, rfl⟩ := trodAll_nil r5
  obtain rfl : args = #[v0, v1, v2, v3, v4, v5] := by cases args; simp_all
  obtain ⟨l0, k0⟩ := (opens_slice Try.underlying22 (by kernel_rfl) (opens_int (k := .i64) Try.underlying3)).arg Try.underlying22 (hval 0 22 v0 rfl rfl) hd0
  obtain ⟨h0, q0⟩ := k0.ints
  obtain ⟨l1, k1⟩ := (opens_slice Try.underlying22 (by kernel_rfl) (opens_int (k := .i64) Try.underlying3)).arg Try.underlying22 (hval 1 22 v1 rfl rfl) hd1
  obtain ⟨h1, q1⟩ := k1.ints
  obtain ⟨a2, rfl, rfl, rfl, wa2⟩ := open_int Try.underlying3 (hval 2 3 v2 rfl rfl) hd2
  have b2 := i64_wf wa2
  obtain ⟨a3, rfl, rfl, rfl, wa3⟩ := open_int Try.underlying3 (hval 3 3 v3 rfl rfl) hd3
  have b3 := i64_wf wa3
  obtain ⟨a4, rfl, rfl, rfl, wa4⟩ := open_int Try.underlying3 (hval 4 3 v4 rfl rfl) hd4
  have b4 := i64_wf wa4
  obtain ⟨a5, rfl, rfl, rfl, wa5⟩ := open_int Try.underlying3 (hval 5 3 v5 rfl rfl) hd5
  have b5 := i64_wf wa5
  refine (sound_law l0 l1 a2 a3 a4 a5 v0 v1 W h0 h1 q0 q1 b2 b3 b4 b5).mono fun e W' ⟨he, hb⟩ => ?_
  subst he
  exact ⟨_, rfl, law_post hW' rfl laidOut (by kernel_rfl) rfl Try.underlying4 (fun ds h => match ds, h with | [_, _, _, _, _, _], _ => rfl) hb⟩

theorem proved : Rows.RupSoundSaid :=
  OpenClaim.holds_of_wide 8 Try.f8 rfl rfl rfl rfl rfl rfl rfl ⟨rfl, rfl, rfl, rfl, rfl⟩ rfl rfl rfl rfl rfl (by kernel_rfl) Try.func8 (by kernel_rfl)
    (of_decide_eq_true (by kernel_rfl)) (by unfold Func.isWrapper; first | (rw [if_pos (by decide +kernel)]; kernel_rfl) | (rw [if_neg (by decide +kernel)]; exact ⟨rfl, rfl⟩))
    (fun os started H enc _ => lifted os started H enc)
#print axioms proved
end Go.Proofs.Ythagkljenbhbdaa.rupSound
