/-
  The walks of package sat's Satisfies: do truth values satisfy all clauses? Condition: the literals are of the variables.
-/
import Derived.Test.YthagkljenbhbdaaRRight
import Derived.Test.YthagkljenbhbdaaRTheory
import Derived.Test.YthagkljenbhbdaaOpenR
import Derived.Laws.EntriesVeiled
namespace Go.Proofs.Ythagkljenbhbdaa
open Go Go.RowKit

def holdB (model : List Bool) (l : Int) : Bool := model.getD ((max l (-l)).toNat - 1) false == decide (0 < l)
def satS (model : List Bool) (cs : List (List Int)) : Bool := !cs.any fun c => !c.any (holdB model)
theorem cell_lt' {w : World} {g j : Nat} {v : Value} (h : w.cell? ⟨g, j, none⟩ = some v) : g < w.heap.size := by
  rcases Nat.lt_or_ge g w.heap.size with hlt | hge
  · exact hlt
  · simp [World.cell?, Array.getElem?_eq_none hge] at h
theorem variable_any (l : Int) (w : World) (h : -1000000 ≤ l ∧ l ≤ 1000000) :
    Calls Try.prog 37 #[.int .i64 l] w fun e w' => e = .returned (.int .i64 (max l (-l))) ∧ w = w' := by
  go_enter Try.func37, Try.ntmps37
  go_wp2
  all_goals
    go_ret
    exact ⟨ret_int (by first | rfl | omega | (simp; omega)), rfl⟩
theorem enters_sat1 : Enters Try.prog 36 := fun args w => by kernel_rfl
theorem enters_sat2 : Enters Try.prog 39 := fun args w => by kernel_rfl
set_option maxRecDepth 100000 in
set_option maxHeartbeats 1000000 in
theorem holds1_any (model : List Bool) (l : Int) (vm : Value) (g : Nat) (w : World) (hg : w.cell? ⟨g, 0, none⟩ = some vm) (hm : RdL BoolV w vm model) (hl : LitZ model.length l) (hlen : model.length ≤ 1000) :
    Calls Try.prog 36 #[.int .i64 l, .pointer (some ⟨g, 0, none⟩)] w fun e w' => e = .returned (.bool (holdB model l)) ∧ Below w.heap.size w w' := by
  obtain ⟨av, capv, rfl, -, -, hV3⟩ := hm
  unfold LitZ at hl
  have hpa : ∃ a : Nat, 1 ≤ a ∧ a ≤ model.length ∧ (l = a ∨ l = -(a : Int)) := by
    by_cases h : l < 0
    · exact ⟨(-l).toNat, by omega, by omega, .inr (by omega)⟩
    · exact ⟨l.toNat, by omega, by omega, .inl (by omega)⟩
  obtain ⟨a, ha1, ha2, hla⟩ := hpa
  clear hl
  obtain ⟨b, off, u, rfl, hbl, hcell, hu⟩ := hV3 (a - 1) (by omega)
  unfold BoolV at hu
  subst hu
  have HB := Lib.hid (show model.getD (a - 1) false = model[a - 1]'(by omega) from by rw [List.getD_eq_getElem?_getD, List.getElem?_eq_getElem (by omega)]; rfl)
  generalize model[a - 1]'(by omega) = mb at *
  clear hV3
  have ha3 : (1 : Int) ≤ a := by omega
  have ha4 : (a : Int) ≤ model.length := by omega
  have hmax : max (a : Int) (-(a : Int)) = a := by omega
  have hmax2 : max (-(a : Int)) (a : Int) = a := by omega
  have hmax3 : max (-(a : Int)) (- -(a : Int)) = a := by omega
  have hd1 : decide ((a : Int) ≤ model.length) = true := by rw [decide_eq_true_eq]; exact ha4
  have hd2 : decide (a ≤ model.length) = true := by rw [decide_eq_true_eq]; exact ha2
  have hd3 : decide ((1 : Int) ≤ a) = true := by rw [decide_eq_true_eq]; exact ha3
  have hd4 : decide (0 < a) = true := by rw [decide_eq_true_eq]; omega
  rcases hla with rfl | rfl
  · have HE : Hid (holdB model a = (mb == true)) := Lib.hid (by unfold holdB; rw [hmax, show ((a : Int)).toNat - 1 = a - 1 from by omega, HB.out, decide_eq_true (show (0 : Int) < a by omega)])
    go_enter Try.func36, Try.ntmps36
    go_wp2_with (go_at_call 37; refine (variable_any _ _ (by omega)).mono ?_; rintro e w' ⟨rfl, rfl⟩)
    go_ret
    exact ⟨ret_bool (by rw [HE.out]; cases mb <;> rfl), Below.refl _ _⟩
  · have HE : Hid (holdB model (-(a : Int)) = (mb == false)) := Lib.hid (by unfold holdB; rw [hmax3, show ((a : Int)).toNat - 1 = a - 1 from by omega, HB.out, decide_eq_false (show ¬ (0 : Int) < -(a : Int) by omega)])
    have hd5 : decide ((0 : Int) < -(a : Int)) = false := by rw [decide_eq_false_iff_not]; omega
    go_enter Try.func36, Try.ntmps36
    go_wp2_with (go_at_call 37; refine (variable_any _ _ (by omega)).mono ?_; rintro e w' ⟨rfl, rfl⟩)
    go_ret
    exact ⟨ret_bool (by rw [HE.out]; cases mb <;> rfl), Below.refl _ _⟩
theorem holds2_any (model : List Bool) (c : List Int) (vm v : Value) (g h : Nat) (w : World) (hg : w.cell? ⟨g, 0, none⟩ = some vm) (hh : w.cell? ⟨h, 0, none⟩ = some (.func (.func 36) #[] #[.pointer (some ⟨g, 0, none⟩)]))
    (hm : RdL BoolV w vm model) (hv : RdL (IntV .i64) w v c) (hl : LitsZ model.length c) (hlen : model.length ≤ 1000) :
    Calls Try.prog 39 #[v, .pointer (some ⟨h, 0, none⟩)] w fun e w' => e = .returned (.bool (!c.any (holdB model))) ∧ Below w.heap.size w w' := by
  have HC := Lib.hid (containsInts_any (.pointer (some ⟨g, 0, none⟩)) (holdB model) c v w enters_sat1 hv (fun x hx w' hb => holds1_any model x vm g w' ((hb.cell (p := ⟨g, 0, none⟩) (cell_lt' hg)).trans hg) (hm.below mono_bool hb) (hl x hx) hlen))
  obtain ⟨av, capv, rfl, -⟩ := hv
  clear hm hl
  go_enter Try.func39, Try.ntmps39
  go_wp2_with (go_at_call 40; refine (HC.out).mono ?_; rintro e w2 ⟨rfl, hb2⟩)
  go_ret
  exact ⟨rfl, hb2⟩
theorem satisfies_any (model : List Bool) (cs : List (List Int)) (vm v : Value) (w : World) (hm : RdL BoolV w vm model) (hv : RdL (RdL (IntV .i64)) w v cs) (hl : AllZ model.length cs) (hlen : model.length ≤ 1000) :
    Calls Try.prog 24 #[v, vm] w fun e w' => e = .returned (.bool (satS model cs)) ∧ Below w.heap.size w w' := by
  obtain ⟨am, capm, rfl, -⟩ := id hm
  obtain ⟨av, capv, rfl, -⟩ := id hv
  obtain ⟨W, hW⟩ : ∃ W, W = (w.alloc (.cells #[.slice am model.length capm] 45)).alloc (.cells #[.func (.func 36) #[] #[.pointer (some ⟨w.heap.size, 0, none⟩)]] 57) := ⟨_, rfl⟩
  have hbW : Below w.heap.size w W := by rw [hW]; exact ((Below.refl _ _).alloc (Nat.le_refl _) _).alloc (by simp) _
  have hc1 : W.cell? ⟨w.heap.size, 0, none⟩ = some (.slice am model.length capm) := by rw [hW]; simp
  have hc2 : W.cell? ⟨w.heap.size + 1, 0, none⟩ = some (.func (.func 36) #[] #[.pointer (some ⟨w.heap.size, 0, none⟩)]) := by rw [hW]; simp
  have hs : W.heap.size = w.heap.size + 2 := by rw [hW]; simp
  have HC := Lib.hid (containsLists_any (.pointer (some ⟨w.heap.size + 1, 0, none⟩)) (fun c => !c.any (holdB model)) cs _ W enters_sat2 (hv.below (mono_rdl (mono_int _)) hbW) (fun x hx u w' hb hu => holds2_any model x _ u w.heap.size (w.heap.size + 1) w' ((hb.cell (p := ⟨w.heap.size, 0, none⟩) (show w.heap.size < W.heap.size by omega)).trans hc1) ((hb.cell (p := ⟨w.heap.size + 1, 0, none⟩) (show w.heap.size + 1 < W.heap.size by omega)).trans hc2) ((hm.below mono_bool hbW).below mono_bool hb) hu (hl x hx) hlen))
  have HW := Lib.hid hW
  have HBW := Lib.hid hbW
  clear hm hv hl hc1 hc2 hW hs hbW
  go_enter Try.func24, Try.ntmps24
  go_wp2_with fail
  rw [← HW.out]
  refine (HC.out).mono ?_
  rintro e w2 ⟨rfl, hb2⟩
  go_wp2_with fail
  go_ret
  exact ⟨rfl, HBW.out.trans (hb2.mono HBW.out.size)⟩
end Go.Proofs.Ythagkljenbhbdaa
