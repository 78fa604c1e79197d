/-
  The walks of layer 23's generators: Clauses. What they return is of a known size and of known literals; nothing that was in memory before the call is changed.
-/
import Derived.Test.YthagkljenbhbdaaRCore
import Derived.Test.YthagkljenbhbdaaRSame
import Derived.Test.YthagkljenbhbdaaOpenR
namespace Go.Proofs.Ythagkljenbhbdaa
open Go Go.RowKit

/-- A clause of n variables, of one to four literals. -/
def GoodC (n : Nat) (c : List Int) : Prop := c.length ≤ 4 ∧ ∀ x ∈ c, x ≠ 0 ∧ -(n : Int) ≤ x ∧ x ≤ n
def GoodL (n : Nat) (cs : List (List Int)) : Prop := ∀ c ∈ cs, GoodC n c
theorem tmod_mod (x v : Int) (hv : 0 < v) : 0 ≤ (x.tmod v + v).tmod v ∧ (x.tmod v + v).tmod v < v ∧ -v < x.tmod v ∧ x.tmod v < v := by
  have h1 := Int.tmod_lt_of_pos x hv
  have h2 : -v < x.tmod v := by
    have := Int.lt_tmod_of_pos x hv
    omega
  have h3 := Int.tmod_lt_of_pos (x.tmod v + v) hv
  have h4 := Int.tmod_nonneg v (show 0 ≤ x.tmod v + v by omega)
  exact ⟨h4, h3, h2, h1⟩
theorem goodC_snoc {n : Nat} {c : List Int} {x : Int} (h : GoodC n c) (hl : c.length ≤ 3) (h0 : x ≠ 0) (h1 : -(n : Int) ≤ x) (h2 : x ≤ n) : GoodC n (c ++ [x]) := by
  refine ⟨by simp; omega, fun y hy => ?_⟩
  rcases List.mem_append.1 hy with hy | hy
  · exact h.2 y hy
  · simp at hy; subst hy; exact ⟨h0, h1, h2⟩
theorem goodL_snoc {n : Nat} {cs : List (List Int)} {c : List Int} (h : GoodL n cs) (hc : GoodC n c) : GoodL n (cs ++ [c]) := by
  intro d hd
  rcases List.mem_append.1 hd with hd | hd
  · exact h d hd
  · simp at hd; subst hd; exact hc

set_option maxRecDepth 100000 in
set_option maxHeartbeats 2000000 in
theorem clauses_any (N : Nat) (l : List Int) (v : Value) (w : World) (hv : RdL (IntV .i64) w v l) (hl : ∀ x ∈ l, I64 x) (hN : 2 ≤ N ∧ N ≤ 5) :
    Calls Try.prog 21 #[v, .int .i64 N] w fun e w' => ∃ v' cs, e = .returned v' ∧ RdL (RdL (IntV .i64)) w' v' cs ∧ GoodL N cs ∧ cs.length ≤ 22 ∧ Below w.heap.size w w' := by
  obtain ⟨a, cap, rfl, h1, h2, h3⟩ := hv
  have hlm : l.length ≤ 9223372036854775807 := by unfold maxLen at h2; omega
  have HV := Lib.hid h3
  have HL := Lib.hid hl
  clear h1 h2 h3 hl
  go_enter Try.func21, Try.ntmps21
  go_wp2_with fail
  go_loopg [5, 6] 22 (fun gh x i wr => ∃ (k : Nat) (cs : List (List Int)), gh = 22 - cs.length ∧ i = .int .i64 k ∧ k = 4 * cs.length ∧ OwnL (RdL (IntV .i64)) wr w.heap.size 22 x cs ∧ Hid (GoodL N cs) ∧ cs.length ≤ 22 ∧ Below w.heap.size w wr)
  case atStart => exact ⟨0, [], by simp, rfl, by simp, OwnL.nil _ _ _, Lib.hid (fun c hc => by simp at hc), by simp, Below.refl _ _⟩
  case round =>
    obtain ⟨k, cs, rfl, rfl, hk, hown, HG, hcl, hb⟩ := hrel
    have hlen := hown.len
    obtain ⟨ax, capx, rfl⟩ := hlen
    have HOwn := Lib.hid hown
    have HK := Lib.hid hk
    have hkb : k ≤ 88 := by omega
    clear hown hk
    by_cases hgo : k + 3 < l.length ∧ cs.length < 22
    · obtain ⟨hg1, hg2⟩ := hgo
      obtain ⟨wo, rfl⟩ : ∃ wo : World, wo = wr := ⟨_, rfl⟩
      go_wp2_with fail
      rw [show decide (0 < N) = true from by rw [decide_eq_true_eq]; omega]
      go_loopg [7, 8] 4 (fun gh x i wr => ∃ (j : Nat) (zs : List Int), gh = 4 - j ∧ i = .int .i64 j ∧ j ≤ 4 ∧ zs.length = j ∧ OwnS wr wo.heap.size 3 x (ints zs) ∧ Hid (GoodC N zs) ∧ Below wo.heap.size wo wr)
      case atStart => exact ⟨0, [], by omega, rfl, by omega, rfl, OwnS.nil _ _ _, Lib.hid ⟨by simp, fun c hc => by simp at hc⟩, Below.refl _ _⟩
      case round =>
        obtain ⟨j, zs, rfl, rfl, hj, rfl, hown2, HC, hb2⟩ := hrel
        obtain ⟨b, off, u, rfl, hbl, hcell0, hu⟩ := HV.out k (by omega)
        have hbw := hb.trans (hb2.mono hb.size)
        have hcell := (hbw.cell (p := ⟨b, off + k, none⟩) hbl).trans hcell0
        unfold IntV at hu
        subst hu
        have hx := HL.out _ (List.getElem_mem (show k < l.length by omega))
        unfold I64 at hx
        generalize l[k]'_ = x0 at *
        have h7 := tmod_mod x0 7 (by omega)
        obtain ⟨t, ht⟩ : ∃ t : Nat, (min ((k : Int) + 1 + (zs.length : Int)) ((l.length : Int) - 1)).toNat = t := ⟨_, rfl⟩
        have htl : t < l.length := by omega
        obtain ⟨b2, off2, u2, he, hbl2, hcell20, hu2⟩ := HV.out t htl
        simp only [Option.some.injEq, Addr.mk.injEq, and_true] at he
        obtain ⟨rfl, rfl⟩ := he
        have hcell2 := (hbw.cell (p := ⟨b, off + t, none⟩) hbl2).trans hcell20
        unfold IntV at hu2
        subst hu2
        have hx1 := HL.out _ (List.getElem_mem htl)
        unfold I64 at hx1
        generalize l[t]'_ = x1 at *
        rw [← ht] at hcell2
        have h8 := tmod_mod x1 (2 * N) (by omega)
        have h9 := Int.emod_nonneg (x1.tmod (2 * N)) (show (2 * N : Int) ≠ 0 by omega)
        have h10 := Int.emod_lt_of_pos (x1.tmod (2 * N)) (show (0 : Int) < 2 * N by omega)
        have HOwn2 := Lib.hid hown2
        clear hcell0 hcell20 ht htl hown2
        by_cases hjq : (zs.length : Int) < 1 + x0.tmod 7 % 7 / 2
        · have hbs2 := hb2.size
          go_wp2_with (first | (at_builtin; refine wpList_push elemInt rfl (.tmp 62) (.tmp 65) rfl wo.heap.size _ (ints zs) _ rfl rfl HOwn2.out rfl (by rw [ints_len]; omega) (by unfold maxLen; rw [ints_len]; omega) hbs2 ?_; intro v' w5 hown5 _ hb5) | (at_builtin; refine wpList_push elemInt rfl (.tmp 67) (.tmp 72) rfl wo.heap.size _ (ints zs) _ rfl rfl HOwn2.out rfl (by rw [ints_len]; omega) (by unfold maxLen; rw [ints_len]; omega) hbs2 ?_; intro v' w5 hown5 _ hb5))
          all_goals
            go_roundg (4 - (zs.length + 1))
            case measure => omega
            case rel => exact ⟨zs.length + 1, zs ++ [_], rfl, by go_num, by omega, by simp, by rw [ints_snoc]; exact hown5, Lib.hid (goodC_snoc HC.out (by omega) (by omega) (by omega) (by omega)), hb2.trans hb5⟩
        · have hrd := OwnS.rdInts (k := .i64) HOwn2.out
          have hone2 := rdl_oneCell hrd
          have HS4 := Lib.hid (StR.of_own HOwn2.out (by decide) (Reads.ints w.heap.size 22 .i64 wr zs))
          have HO4 := Lib.hid (HOwn.out.below hb2)
          obtain ⟨av, capv, rfl, _⟩ := hrd
          have hbs3 := hbw.size
          have hbo := hb.size
          go_wp2_with (at_builtin; refine wpList_pushL elemSlice rfl (.tmp 74) (.tmp 76) rfl w.heap.size _ cs _ zs rfl rfl HO4.out HS4.out hone2 (by omega) (by unfold maxLen; omega) hbs3 ?_; intro v' w5 hown5 _ hb5)
          go_roundg (22 - (cs.length + 1))
          case measure => omega
          case rel => exact ⟨k + 4, cs ++ [zs], by simp, by go_num, by have := HK.out; simp; omega, hown5, Lib.hid (goodL_snoc HG.out HC.out), by simp; omega, hbw.trans hb5⟩
    · have HR := Lib.hid HOwn.out.rd
      by_cases h1 : k + 3 < l.length
      · have h2 : ¬ cs.length < 22 := by omega
        go_wp2_with fail
        go_ret
        exact ⟨_, rfl, cs, HR.out, HG.out, hcl, hb⟩
      · go_wp2_with fail
        go_ret
        exact ⟨_, rfl, cs, HR.out, HG.out, hcl, hb⟩
end Go.Proofs.Ythagkljenbhbdaa
