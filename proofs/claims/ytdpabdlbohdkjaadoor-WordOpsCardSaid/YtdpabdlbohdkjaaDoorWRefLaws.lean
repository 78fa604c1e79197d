/-
  The walks of the laws WordWraps and WordOps: each returns true. The condition: the table of operations stands in memory ('Tab').
-/
import Derived.Test.YtdpabdlbohdkjaaDoorWRef
import Derived.Test.YtdpabdlbohdkjaaDoorOwn
import Derived.Deep.RegionHeld3
namespace Go.Proofs.YtdpabdlbohdkjaaDoor
open Go Go.RowKit

theorem tmod_zero {x : Int} (h : x % 16 = 0) : x.tmod 16 = 0 := Int.tmod_eq_zero_of_dvd (Int.dvd_of_emod_eq_zero h)
theorem wraps_law {B : Nat} {w0 : World} (n op : Int) (w : World) (hN : Nx B w0 w) :
    Calls Tryd.prog 7 #[.int .i64 n, .int .i64 op] w fun e w' => e = .returned (.bool true) ∧ Nx B w0 w' := by
  have hw := wWrap_bd n
  have hm := tmod_bd n
  have e0 : wWrap n % 16 = n % 16 := by unfold wWrap; split <;> omega
  have e1 : ((wWrap n - n % 16).tmod 16 == 0) = true := by rw [tmod_zero (by omega)]; rfl
  have e2 : ((n.tmod 16 - wWrap n).tmod 16 == 0) = true := by rw [tmod_zero (by omega)]; rfl
  have e3 : (wWrap (wWrap n) == wWrap n) = true := by rw [wWrap_idem]; simp
  have e4 : (wWrap n % 16 == n % 16) = true := by rw [e0]; simp
  have hm1 := hm.1
  have hm2 := hm.2.1
  clear hm e0
  go_enter Tryd.func7, Tryd.ntmps7
  go_wp2_with (first | (go_at_call 12; refine (op_any _ _ _ _ (by assumption)).mono ?_; rintro e w' ⟨rfl, hN'⟩) | (go_at_call 18; refine (rop_any _ _ _ _).mono ?_; rintro e w' ⟨rfl, rfl⟩) | (go_at_call 10; refine (wrap_any _ _).mono ?_; rintro e w' ⟨rfl, rfl⟩) | (go_at_call 14; refine (rwrap_any _ _).mono ?_; rintro e w' ⟨rfl, rfl⟩) | (go_at_call 13; refine (bits_any _ _).mono ?_; rintro e w' ⟨rfl, rfl⟩) | (go_at_call 15; refine (rbits_any _ _).mono ?_; rintro e w' ⟨rfl, rfl⟩) | (go_at_call 11; refine (lives_any _ (by assumption)).mono ?_; rintro e w' ⟨rfl, hN'⟩) | (go_at_call 16; refine (truth_any _ _ (Nx.tab (by assumption))).mono ?_; rintro e w' ⟨rfl, rfl⟩) | (go_at_call 17; refine (rtruth_any _ _).mono ?_; rintro e w' ⟨rfl, rfl⟩))
  go_ret
  exact ⟨rfl, by assumption⟩

theorem Nx.trans {B C : Nat} {w0 w1 w2 : World} (h : Nx B w0 w1) (k : Nx C w1 w2) (hC : B ≤ C) : Nx B w0 w2 :=
  ⟨h.below.trans (k.below.mono hC), Nat.le_trans h.le k.below.size, k.tab⟩
theorem Tab.of_below {B : Nat} {w w' : World} (h : Tab w) (hB : 0 < B) (hb : Below B w w') : Tab w' :=
  ⟨Nat.lt_of_lt_of_le h.size hb.size, fun i hi => (hb.cell (p := ⟨0, i, none⟩) hB).trans (h.cell i hi)⟩
theorem Nx.step {B : Nat} {w0 w w' : World} (h : Nx B w0 w) (hB : 0 < B) (hb : Below B w w') : Nx B w0 w' :=
  ⟨h.below.trans hb, Nat.le_trans h.le hb.size, h.tab.of_below hB hb⟩

theorem Nx.drew {B : Nat} {w0 w : World} (h : Nx B w0 w) : Nx B w0 w.drew := ⟨h.below.drew, h.le, ⟨h.tab.size, h.tab.cell⟩⟩

def opsL (op : Int) (k : Nat) : List Int := [op, -1, 14] ++ (List.range k).map fun (j : Nat) => (j : Int)
theorem opsL_len (op : Int) (k : Nat) : (opsL op k).length = 3 + k := by simp [opsL]; omega
theorem opsL_succ (op : Int) (k : Nat) : opsL op (k + 1) = opsL op k ++ [(k : Int)] := by simp [opsL, List.range_succ]
def vals (l : List Int) : List Value := l.map (Value.int .i64)
theorem vals_len (l : List Int) : (vals l).length = l.length := by simp [vals]
theorem vals_snoc (l : List Int) (x : Int) : vals (l ++ [x]) = vals l ++ [.int .i64 x] := by simp [vals]
theorem elemInt : ElemT Tryd.prog 30 3 (.int .i64 0) 8 := ⟨Tryd.underlying30, by kernel_rfl, rfl⟩

theorem opR_truth {x : Int} (h : truth x = true) (a b : Int) : 0 ≤ opR x a b ∧ opR x a b ≤ 1 := by
  have hx : x = 10 ∨ x = 11 ∨ x = 12 ∨ x = 13 := by
    unfold truth at h; rw [decide_eq_true_eq] at h; omega
  have h' := all2 (p := fun a b => [10, 11, 12, 13].all fun x => decide (0 ≤ opR x a b) && decide (opR x a b ≤ 1)) (by decide +kernel) a b
  simp only [opR_wrap, List.all_cons, List.all_nil, Bool.and_eq_true, decide_eq_true_eq] at h'
  rcases hx with rfl | rfl | rfl | rfl
  · exact h'.1
  · exact h'.2.1
  · exact h'.2.2.1
  · exact h'.2.2.2.1
theorem opR_code {x a b : Int} (h : ¬ opC x a b = 0) : opR x a b = 0 := by
  unfold opC at h
  split at h
  · rename_i hh
    unfold opR
    rw [if_neg (by omega), if_pos hh]
  · exact absurd rfl h
set_option maxRecDepth 100000 in
set_option maxHeartbeats 2000000 in
theorem ops_law {B : Nat} {w0 : World} (op a b : Int) (w : World) (hN : Nx B w0 w) :
    Calls Tryd.prog 8 #[.int .i64 op, .int .i64 a, .int .i64 b] w fun e w' => e = .returned (.bool true) ∧ Nx B w0 w' := by
  have hN1 := Nx.start hN.tab
  have hsz := hN.tab.size
  go_enter Tryd.func8, Tryd.ntmps8
  go_wp2_with fail
  go_loopw [7, 8] (fun v i wr => ∃ k : Nat, k ≤ 14 ∧ i = .int .i64 k ∧ OwnS wr w.heap.size 3 v (vals (opsL op k)) ∧ Nx w.heap.size w wr) (fun _ i _ => 14 - (intOf i).toNat)
  case atStart => exact ⟨0, by omega, rfl, OwnS.lit w w.heap.size 3 [.int .i64 op, .int .i64 (-1), .int .i64 14] (Nat.le_refl _) (by simp [maxLen]), hN1.step hsz ((Below.refl _ _).alloc (Nat.le_refl _) _)⟩
  case round =>
    obtain ⟨k, hk, rfl, hown, hNr⟩ := hrel
    by_cases hlt : k < 14
    · have hl := opsL_len op k
      have hle := hNr.le
      go_wp2_with (at_builtin; refine wpList_push elemInt rfl (.tmp 22) (.tmp 24) rfl w.heap.size _ _ _ rfl rfl hown rfl (by rw [vals_len, opsL_len]; omega) (by rw [vals_len, opsL_len]; unfold maxLen; omega) hle ?_; intro v' w' hown' hg hb)
      go_roundw
      case rel => exact ⟨k + 1, by omega, by go_num, by rw [opsL_succ, vals_snoc]; exact hown', hNr.step hsz hb⟩
      case measure => simp [intOf]; omega
    · obtain rfl : k = 14 := by omega
      rw [show ((14 : Nat) : Int) = 14 from rfl]
      go_wp2_with fail
      obtain ⟨wL, rfl⟩ : ∃ wL : World, wL = wr := ⟨_, rfl⟩
      have hlen : (vals (opsL op 14)).length = 17 := by rw [vals_len, opsL_len]
      rcases hown.shape with ⟨_, hnil⟩ | ⟨g, cap, rfl, hg1, hg2, hcap, hcm, hcell, _⟩
      · rw [hnil] at hlen; simp at hlen
      rw [hlen] at hcell hcap
      have hval : ∀ j, j < 17 → ∃ x : Int, ∀ wx, Nx wL.heap.size wL wx → wx.cell? ⟨g, j, none⟩ = some (.int .i64 x) := by
        intro j hj
        refine ⟨(opsL op 14)[j]?.getD 0, fun wx hx => ?_⟩
        rw [hx.below.cell (p := ⟨g, j, none⟩) hg2, hcell j hj]
        have : j < (opsL op 14).length := by rw [opsL_len]; omega
        simp [vals, this]
      have hfin : ∀ wx, Nx wL.heap.size wL wx → Nx B w0 wx := fun wx hx => (hN.trans hNr hN.le).trans hx (Nat.le_trans hN.le hNr.le)
      have HV := Lib.hid hval
      have HF := Lib.hid hfin
      have hNL := Nx.start hNr.tab
      rw [hlen]
      clear hval hfin hcell hown hNr hN1 hN hlen hsz
      go_loopw [9] (fun i wr => ∃ k : Nat, k ≤ 17 ∧ i = .int .i64 k ∧ Nx wL.heap.size wL wr) (fun i _ => 17 - (intOf i).toNat)
      case atStart => exact ⟨0, by omega, rfl, hNL⟩
      case round =>
        obtain ⟨k, hk, rfl, hNr⟩ := hrel
        clear hNL
        by_cases hlt : k < 17
        · obtain ⟨x, hx⟩ := HV.out k hlt
          have HX := Lib.hid hx
          have hc := hx _ hNr
          clear hx
          have hr := opR_bd x a b
          have e2 : (wWrap (opR x a b) != opR x a b) = false := by rw [wWrap_word hr]; simp
          have e3 : (opR x (wWrap a) (wWrap b) != opR x a b) = false := by rw [opR_wrap]; simp
          have ht : truth x = false ∨ (truth x = true ∧ 0 ≤ opR x a b ∧ opR x a b ≤ 1) := by
            cases h : truth x
            · exact .inl rfl
            · exact .inr ⟨rfl, opR_truth h a b⟩
          have hz : opC x a b = 0 ∨ ((opC x a b != 0) = true ∧ (opR x a b != 0) = false) := by
            by_cases h : opC x a b = 0
            · exact .inl h
            · exact .inr ⟨by simpa using h, by rw [opR_code h]; rfl⟩
          clear hr
          rcases ht with ht | ⟨ht, ht1, ht2⟩
          all_goals rcases hz with hz | ⟨hz1, hz2⟩
          all_goals
            go_wp2_with (first | (go_at_call 12; refine (op_any _ _ _ _ (by assumption)).mono ?_; rintro e w' ⟨rfl, hN'⟩; have hcc := HX.out _ hN') | (go_at_call 18; refine (rop_any _ _ _ _).mono ?_; rintro e w' ⟨rfl, rfl⟩) | (go_at_call 10; refine (wrap_any _ _).mono ?_; rintro e w' ⟨rfl, rfl⟩) | (go_at_call 16; refine (truth_any _ _ (Nx.tab (by assumption))).mono ?_; rintro e w' ⟨rfl, rfl⟩) | (go_at_call 11; refine (lives_any _ (by assumption)).mono ?_; rintro e w' ⟨rfl, hN'⟩))
            go_region_held3 (fun w' => Nx wL.heap.size wL w' ∧ w'.cell? ⟨g, k, none⟩ = some (.int .i64 x)) (refine ⟨?_, ?_⟩ <;> first | assumption | exact Nx.drew (by assumption) | exact HX.out _ (by first | assumption | exact Nx.drew (by assumption))) (first | (go_at_call 12; refine (op_any _ _ _ _ (by first | assumption | exact Nx.drew (by assumption) | exact And.left (by assumption))).mono ?_; rintro e w' ⟨rfl, hN'⟩; have hcc := HX.out _ hN') | (go_at_call 10; refine (wrap_any _ _).mono ?_; rintro e w' ⟨rfl, rfl⟩))
            go_wp2
            go_roundw
            case rel => exact ⟨k + 1, by omega, by go_num, by assumption⟩
            case measure => simp [intOf]; omega
        · obtain rfl : k = 17 := by omega
          go_wp2_with (go_at_call 11; refine (lives_any _ (by assumption)).mono ?_; rintro e w' ⟨rfl, hN'⟩)
          go_ret
          exact ⟨rfl, HF.out _ (by assumption)⟩
end Go.Proofs.YtdpabdlbohdkjaaDoor
