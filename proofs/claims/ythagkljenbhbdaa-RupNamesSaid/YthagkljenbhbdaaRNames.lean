/-
  The walk of the reference's Renamed: each literal by 'ren'. Conditions: one to five variables, literals of them.
-/
import Derived.Test.YthagkljenbhbdaaRLaw3
namespace Go.Proofs.Ythagkljenbhbdaa
open Go Go.RowKit

/-- The variable that stands for its opposite. -/
def renP (N by_ : Int) : Int := 1 + by_.tmod N % N
/-- A literal renamed. -/
def ren (N p x : Int) : Int := if (decide (x < 0) != (max x (-x) == p)) = true then -(N + 1 - max x (-x)) else N + 1 - max x (-x)
def renC (N p : Int) (c : List Int) : List Int := c.map (ren N p)
def renL (N p : Int) (l : List (List Int)) : List (List Int) := l.map (renC N p)
theorem renC_snoc (N p : Int) (c : List Int) (j : Nat) (h : j < c.length) : renC N p (c.take (j + 1)) = renC N p (c.take j) ++ [ren N p c[j]] := by
  rw [List.take_succ_eq_append_getElem h]; simp only [renC, List.map_append, List.map_cons, List.map_nil]
theorem renL_snoc (N p : Int) (c : List (List Int)) (j : Nat) (h : j < c.length) : renL N p (c.take (j + 1)) = renL N p (c.take j) ++ [renC N p c[j]] := by
  rw [List.take_succ_eq_append_getElem h]; simp only [renL, List.map_append, List.map_cons, List.map_nil]
theorem push_ints {zs : List Int} {x : Int} : ints zs ++ [Value.int .i64 x] = ints (zs ++ [x]) := (ints_snoc zs x).symm

set_option maxRecDepth 100000 in
set_option maxHeartbeats 4000000 in
theorem renamed_any (N : Nat) (l : List (List Int)) (by_ : Int) (v : Value) (w : World) (hv : RdL (RdL (IntV .i64)) w v l) (hN : 1 ≤ N ∧ N ≤ 5) (hz : AllZ N l) (hn : l.length ≤ 1000) (hw : ∀ c ∈ l, c.length ≤ 1000) (hby : I64 by_) :
    Calls Try.prog 23 #[v, .int .i64 N, .int .i64 by_] w fun e w' => ∃ v', e = .returned v' ∧ RdL (RdL (IntV .i64)) w' v' (renL N (renP N by_) l) ∧ Below w.heap.size w w' := by
  obtain ⟨av, capv, rfl, -, -, hV3⟩ := hv
  have HV3 := Lib.hid hV3
  have HZ := Lib.hid hz
  have HW := Lib.hid hw
  have ht := tmod_mod by_ N (by omega)
  have hb1 := ht.2.2.1
  have hb2 := ht.2.2.2
  have hb3 := Int.emod_nonneg (by_.tmod N) (show (N : Int) ≠ 0 by omega)
  have hb4 := Int.emod_lt_of_pos (by_.tmod N) (show (0 : Int) < N by omega)
  have hbb := hby
  unfold I64 at hbb
  clear hV3 hz hw hby ht
  go_enter Try.func23, Try.ntmps23
  go_wp2_with fail
  go_loopg [7, 8] l.length (fun gh x i wr => ∃ (k : Nat), gh = l.length - k ∧ k ≤ l.length ∧ i = .int .i64 k ∧ OwnL (RdL (IntV .i64)) wr w.heap.size 22 x (renL N (renP N by_) (l.take k)) ∧ Below w.heap.size w wr)
  case atStart => exact ⟨0, by omega, by omega, rfl, OwnL.nil _ _ _, Below.refl _ _⟩
  case round =>
    obtain ⟨k, rfl, hk, rfl, hown, hb⟩ := hrel
    by_cases hlt : k < l.length
    · obtain ⟨b, off, u, rfl, hbl, hcell0, hu⟩ := HV3.out k hlt
      have hcell := (hb.cell (p := ⟨b, off + k, none⟩) hbl).trans hcell0
      have hzc := HZ.out _ (List.getElem_mem hlt)
      have hwc := HW.out _ (List.getElem_mem hlt)
      have HS := Lib.hid (renL_snoc N (renP N by_) l k hlt)
      have HL := Lib.hid (show (renL N (renP N by_) (l.take k)).length ≤ 1000 from by simp [renL]; omega)
      generalize l[k] = c at *
      obtain ⟨au, capu, rfl, -, -, hU3⟩ := hu
      have HU3 := Lib.hid hU3
      have HZC := Lib.hid hzc
      have HOwn := Lib.hid hown
      obtain ⟨ax, capx, rfl⟩ := hown.len
      obtain ⟨wo, rfl⟩ : ∃ wo : World, wo = wr := ⟨_, rfl⟩
      have hbs := hb.size
      have hkk : (k : Int) < l.length := by omega
      have hdk : decide (k < l.length) = true := by rw [decide_eq_true_eq]; exact hlt
      clear hcell0 hU3 hzc hown
      go_wp2_with fail
      go_loopg [9, 10] c.length (fun gh x i wr => ∃ (j : Nat), gh = c.length - j ∧ j ≤ c.length ∧ i = .int .i64 j ∧ OwnS wr wo.heap.size 3 x (ints (renC N (renP N by_) (c.take j))) ∧ Below wo.heap.size wo wr)
      case atStart => exact ⟨0, by omega, by omega, rfl, OwnS.nil _ _ _, Below.refl _ _⟩
      case round =>
        obtain ⟨j, rfl, hj, rfl, hownz, hbi⟩ := hrel
        have hcellr : wr.cell? ⟨b, off + k, none⟩ = some (.slice au c.length capu) := (hbi.cell (p := ⟨b, off + k, none⟩) (Nat.lt_of_lt_of_le hbl hbs)).trans hcell
        by_cases hjl : j < c.length
        · obtain ⟨b2, off2, u2, rfl, hbl2, hcell20, hu2⟩ := HU3.out j hjl
          have hcell2 := ((hb.trans (hbi.mono hbs)).cell (p := ⟨b2, off2 + j, none⟩) hbl2).trans hcell20
          unfold IntV at hu2
          subst hu2
          have hx := HZC.out _ (List.getElem_mem hjl)
          have HS2 := Lib.hid (renC_snoc N (renP N by_) c j hjl)
          generalize c[j] = x at *
          have HOz := Lib.hid hownz
          have HZL := Lib.hid (show (ints (renC N (renP N by_) (c.take j))).length ≤ 1000 from by rw [ints_len]; simp [renC]; omega)
          generalize hzs : renC N (renP N by_) (c.take j) = zs at *
          obtain ⟨az, capz, rfl, -⟩ := hownz.rdv
          unfold LitZ at hx
          obtain ⟨hx0, hx1, hx2⟩ := hx
          clear hcell20 hownz hzs
          have hpa : ∃ a : Nat, 1 ≤ a ∧ a ≤ N ∧ (x = a ∨ x = -(a : Int)) := by
            by_cases h : x < 0
            · exact ⟨(-x).toNat, by omega, by omega, .inr (by omega)⟩
            · exact ⟨x.toNat, by omega, by omega, .inl (by omega)⟩
          obtain ⟨a, ha1, ha2, hxa⟩ := hpa
          clear hx0 hx1 hx2
          have ha3 : (1 : Int) ≤ a := by omega
          have ha4 : (a : Int) ≤ N := by omega
          have hmax : max (a : Int) (-(a : Int)) = a := by omega
          have hmax2 : max (-(a : Int)) (a : Int) = a := by omega
          rcases hxa with rfl | rfl
          · have hlt0 : decide ((a : Int) < 0) = false := by rw [decide_eq_false_iff_not]; omega
            cases he : ((a : Int) == 1 + by_.tmod N % N)
            · have HR : Hid (ren N (renP N by_) ((a : Int)) = (N : Int) + 1 - a) := Lib.hid (by unfold ren renP; rw [hmax, he, hlt0]; rfl)
              go_wp2_with (at_builtin; refine wpList_push elemInt rfl (.tmp 67) (.tmp 69) rfl wo.heap.size _ (ints zs) _ rfl rfl HOz.out rfl (by have := HZL.out; omega) (by have := HZL.out; unfold maxLen; omega) hbi.size ?_; intro v' w5 hown5 _ hb5)
              go_roundg (c.length - (j + 1))
              case measure => omega
              case rel => exact ⟨j + 1, rfl, by omega, by go_num, by rw [HS2.out, ints_snoc, HR.out]; exact hown5, hbi.trans hb5⟩
            · have HR : Hid (ren N (renP N by_) ((a : Int)) = -((N : Int) + 1 - a)) := Lib.hid (by unfold ren renP; rw [hmax, he, hlt0]; rfl)
              go_wp2_with (at_builtin; refine wpList_push elemInt rfl (.tmp 67) (.tmp 69) rfl wo.heap.size _ (ints zs) _ rfl rfl HOz.out rfl (by have := HZL.out; omega) (by have := HZL.out; unfold maxLen; omega) hbi.size ?_; intro v' w5 hown5 _ hb5)
              go_roundg (c.length - (j + 1))
              case measure => omega
              case rel => exact ⟨j + 1, rfl, by omega, by go_num, by rw [HS2.out, ints_snoc, HR.out]; exact hown5, hbi.trans hb5⟩
          · have hlt0 : decide (-(a : Int) < 0) = true := by rw [decide_eq_true_eq]; omega
            have hlt1 : decide (0 < a) = true := by rw [decide_eq_true_eq]; omega
            have hmax3 : max (-(a : Int)) (- -(a : Int)) = a := by omega
            cases he : ((a : Int) == 1 + by_.tmod N % N)
            · have HR : Hid (ren N (renP N by_) (-(a : Int)) = -((N : Int) + 1 - a)) := Lib.hid (by unfold ren renP; rw [hmax3, he, hlt0]; rfl)
              go_wp2_with (at_builtin; refine wpList_push elemInt rfl (.tmp 67) (.tmp 69) rfl wo.heap.size _ (ints zs) _ rfl rfl HOz.out rfl (by have := HZL.out; omega) (by have := HZL.out; unfold maxLen; omega) hbi.size ?_; intro v' w5 hown5 _ hb5)
              go_roundg (c.length - (j + 1))
              case measure => omega
              case rel => exact ⟨j + 1, rfl, by omega, by go_num, by rw [HS2.out, ints_snoc, HR.out]; exact hown5, hbi.trans hb5⟩
            · have HR : Hid (ren N (renP N by_) (-(a : Int)) = (N : Int) + 1 - a) := Lib.hid (by unfold ren renP; rw [hmax3, he, hlt0]; rfl)
              go_wp2_with (at_builtin; refine wpList_push elemInt rfl (.tmp 67) (.tmp 69) rfl wo.heap.size _ (ints zs) _ rfl rfl HOz.out rfl (by have := HZL.out; omega) (by have := HZL.out; unfold maxLen; omega) hbi.size ?_; intro v' w5 hown5 _ hb5)
              go_roundg (c.length - (j + 1))
              case measure => omega
              case rel => exact ⟨j + 1, rfl, by omega, by go_num, by rw [HS2.out, ints_snoc, HR.out]; exact hown5, hbi.trans hb5⟩
        · obtain rfl : j = c.length := by omega
          rw [List.take_length] at hownz
          have HStR := Lib.hid (StR.of_own hownz (by decide) (Reads.ints w.heap.size 22 .i64 wr _))
          obtain ⟨az, capz, rfl, -⟩ := OwnS.rdInts (k := .i64) hownz
          have HO4 := Lib.hid (HOwn.out.below hbi)
          have hbis := hbi.size
          clear hownz
          go_wp2_with (at_builtin; refine wpList_pushL elemSlice rfl (.tmp 71) (.tmp 73) rfl w.heap.size _ (renL N (renP N by_) (l.take k)) _ _ rfl rfl HO4.out HStR.out rfl (by have := HL.out; omega) (by have := HL.out; unfold maxLen; omega) (by omega) ?_; intro v' w5 hown5 _ hb5)
          go_roundg (l.length - (k + 1))
          case measure => omega
          case rel => exact ⟨k + 1, rfl, by omega, by go_num, by rw [HS.out]; exact hown5, hb.trans ((hbi.mono hbs).trans hb5)⟩
    · obtain rfl : k = l.length := by omega
      rw [List.take_length] at hown
      have HR := Lib.hid hown.rd
      clear hown
      go_wp2_with fail
      go_ret
      exact ⟨_, rfl, HR.out, hb⟩
end Go.Proofs.Ythagkljenbhbdaa
