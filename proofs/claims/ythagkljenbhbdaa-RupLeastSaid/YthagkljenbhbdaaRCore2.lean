/-
  The walks of the reference's Core and Trim (package scoriaref23): they return what RSpec2 says; nothing that was in memory before the call is changed.
-/
import Derived.Test.YthagkljenbhbdaaRSpoilt
import Derived.Test.YthagkljenbhbdaaRCore
namespace Go.Proofs.Ythagkljenbhbdaa
open Go Go.RowKit

theorem withoutL_any (xs : List (List Int)) (k : Nat) (v : Value) (w : World) (hv : RdL (RdL (IntV .i64)) w v xs) (hk : k < xs.length) (hlen : xs.length ≤ 100000) :
    Calls Try.prog 27 #[v, .int .i64 k] w fun e w' => ∃ v', e = .returned v' ∧ RdL (RdL (IntV .i64)) w' v' (xs.eraseIdx k) ∧ Below w.heap.size w w' := by
  obtain ⟨vs, h1, h2⟩ := hv.vals
  have hl := h2.1
  refine (without_any vs k v w h1 (reads_oneCell h2) (by omega) (by omega)).mono ?_
  rintro e w2 ⟨v2, rfl, hown, hb⟩
  exact ⟨v2, rfl, hown.rdv.rd ((h2.erase k).mono (mono_rdl (mono_int _)) hb), hb⟩
theorem OwnS.weaken {w : World} {b b2 : Nat} {e : TypeId} {v : Value} {xs : List Value} (h : OwnS w b2 e v xs) (hb : b ≤ b2) : OwnS w b e v xs := by
  obtain ⟨hl, hc⟩ := h
  refine ⟨hl, ?_⟩
  rcases hc with hc | ⟨g, cap, cur, rfl, hbg, rest⟩
  · exact .inl hc
  · exact .inr ⟨g, cap, cur, rfl, Nat.le_trans hb hbg, rest⟩
theorem idx_succ (m : Nat) : idx (m + 1) = idx m ++ [(m : Int)] := by simp [idx, List.range_succ]
theorem idx_erase (m : Nat) (kept : List Int) : (idx (m + 1) ++ kept).eraseIdx m = idx m ++ kept := by
  rw [idx_succ, List.append_assoc, List.eraseIdx_append_of_length_le (by rw [idx_len]; exact Nat.le_refl _), idx_len, Nat.sub_self]; rfl
theorem idx_cons (m : Nat) (kept : List Int) : idx (m + 1) ++ kept = idx m ++ ((m : Int) :: kept) := by rw [idx_succ]; simp
theorem pick_erase (l : List (List Int)) (is : List Int) (m : Nat) : (pick l is).eraseIdx m = pick l (is.eraseIdx m) := by unfold pick; rw [List.eraseIdx_eq_take_drop_succ, List.eraseIdx_eq_take_drop_succ, List.map_append, List.map_take, List.map_drop]
theorem pick_idx (l : List (List Int)) : pick l (idx l.length) = l := by
  apply List.ext_getElem
  · simp [pick, idx]
  · intro i h1 h2
    simp [pick, idx, h2]
theorem thin_stepY {good : List (List Int) → Bool} {l : List (List Int)} {m : Nat} {kept : List Int} (h : good (pick l (idx m ++ kept)) = true) : thinS good l (m + 1) (idx (m + 1) ++ kept) = thinS good l m (idx m ++ kept) := by
  rw [thinS_yes (by rw [idx_erase]; exact h), idx_erase]
theorem thin_stepN {good : List (List Int) → Bool} {l : List (List Int)} {m : Nat} {kept : List Int} (h : good (pick l (idx m ++ kept)) = false) : thinS good l (m + 1) (idx (m + 1) ++ kept) = thinS good l m (idx m ++ ((m : Int) :: kept)) := by
  rw [thinS_no (by rw [idx_erase]; exact h), idx_cons]
theorem thin_zero {good : List (List Int) → Bool} {l : List (List Int)} (kept : List Int) : thinS good l 0 (idx 0 ++ kept) = kept := rfl

set_option maxRecDepth 100000 in
set_option maxHeartbeats 2000000 in
theorem rcore_any (N : Int) (cs pr : List (List Int)) (vc vp : Value) (w : World) (hc : RdL (RdL (IntV .i64)) w vc cs) (hp : RdL (RdL (IntV .i64)) w vp pr) (hcn : cs.length ≤ 100000) (hpn : pr.length ≤ 100000) :
    Calls Try.prog 16 #[.int .i64 N, vc, vp] w fun e w' => ∃ vr, e = .returned (.tuple #[vr, .int .i64 (checkS N cs pr)]) ∧ RdL (IntV .i64) w' vr (coreS N cs pr) ∧ Below w.heap.size w w' := by
  have HC := Lib.hid (rcheck_any N cs pr vc vp w hc hp hcn hpn)
  have HRC := Lib.hid hc
  have HRP := Lib.hid hp
  obtain ⟨ac, capc, rfl, -⟩ := hc
  obtain ⟨ap, capp, rfl, -⟩ := hp
  go_enter Try.func16, Try.ntmps16
  go_wp2_with fail
  refine (HC.out).mono ?_
  rintro e w2 ⟨rfl, hb2⟩
  rcases check_vals N cs pr with h | h
  · obtain ⟨hv, hpr⟩ := check_zero h
    obtain ⟨n, rfl, k1, k2, k3, k4, k5, k6⟩ := valid_parts hv
    have hE : Hid (coreS n cs pr = thinS (fun r => provesS n r pr) cs cs.length (idx cs.length)) := Lib.hid (by unfold coreS; rw [if_pos h]; rfl)
    have K3 := Lib.hid k3
    have K4 := Lib.hid k4
    have K6 := Lib.hid k6
    rw [h]
    have HH := Lib.hid h
    clear hv hpr k3 k4 k6 h HC
    have HV2 := (HRC.out.below (mono_rdl (mono_int _)) hb2)
    obtain ⟨vs, hvv, hr⟩ := HV2.vals
    have hvl := hr.1
    have HVV := Lib.hid hvv
    have HO := Lib.hid (reads_oneCell hr)
    have HR := Lib.hid hr
    clear HV2 hvv hr
    go_wp2_with (at_builtin; refine wpList_extend elemSlice rfl (.tmp 19) (.tmp 20) rfl w2.heap.size _ [] _ vs rfl rfl (OwnS.lit w2 w2.heap.size _ [] (Nat.le_refl _) (Nat.zero_le _)) (HVV.out.below ((Below.refl _ _).alloc (Nat.le_refl _) _)) HO.out (by simp only [List.length_nil]; omega) (by unfold maxLen; simp only [List.length_nil]; omega) (by simp) ?_; rw [List.nil_append]; intro v1 w3 hown3 _ hb3; have hS3 : Below w2.heap.size w2 w3 := ((Below.refl _ _).alloc (Nat.le_refl _) _).trans hb3)
    have hb23 := hb2.trans (hS3.mono hb2.size)
    have hrl := hown3.rdv.rd (HR.out.mono (mono_rdl (mono_int _)) hS3)
    rw [← pick_idx cs] at hrl
    have HP3 := Lib.hid (HRP.out.below (mono_rdl (mono_int _)) hb23)
    clear hown3 hb3
    go_loopg [9, 10, 11] cs.length (fun gh x y i wr => ∃ (m : Nat) (kept : List Int), gh = m ∧ m ≤ cs.length ∧ m + kept.length ≤ cs.length ∧ i = .int .i64 ((m : Int) - 1) ∧ RdL (RdL (IntV .i64)) wr x (pick cs (idx m ++ kept)) ∧ OwnS wr w3.heap.size 3 y (ints kept) ∧ Hid (∀ i ∈ kept, 0 ≤ i ∧ i < cs.length) ∧ Hid (thinS (fun r => provesS n r pr) cs cs.length (idx cs.length) = thinS (fun r => provesS n r pr) cs m (idx m ++ kept)) ∧ Below w3.heap.size w3 wr)
    case atStart => exact ⟨cs.length, [], rfl, Nat.le_refl _, by simp, rfl, by simpa using hrl, OwnS.nil _ _ _, Lib.hid (fun i hi => by simp at hi), Lib.hid (by simp), Below.refl _ _⟩
    case round =>
      clear hrl
      obtain ⟨m, kept, hgm, hml, hkl, rfl, hrl, hown, HM, HS, hb⟩ := hrel
      have HRL := Lib.hid hrl
      have HOwn := Lib.hid hown
      obtain ⟨ax, capx, rfl, -⟩ := hrl
      obtain ⟨ay, capy, rfl, -⟩ := hown.rdv
      clear hown
      have HPL := Lib.hid (show (pick cs (idx m ++ kept)).length = m + kept.length from by rw [pick_len, List.length_append, idx_len])
      cases m with
      | zero =>
        have HRk := Lib.hid (OwnS.rdInts (k := .i64) HOwn.out)
        go_wp2_with fail
        go_ret2
        refine ⟨_, by rw [HH.out]; rfl, ?_, hb23.trans (hb.mono hb23.size)⟩
        rw [hE.out, HS.out, thin_zero]
        simpa using HRk.out
      | succ m =>
        have e0 : (((m + 1 : Nat) : Int) - 1) = (m : Int) := by omega
        rw [e0]
        clear e0
        have hm100 : (m : Int) ≤ 100000 := by omega
        subst hgm
        go_wp2_with fail
        refine (withoutL_any _ m _ _ HRL.out (by rw [HPL.out]; omega) (by rw [HPL.out]; omega)).mono ?_
        rw [pick_erase, idx_erase]
        rintro e w4 ⟨v4, rfl, hr4, hb4⟩
        have HR4 := Lib.hid hr4
        obtain ⟨a4, cap4, rfl, -⟩ := hr4
        have hbs := hb.size
        have hbs4 := hb4.size
        have HP4 := Lib.hid (HP3.out.below (mono_rdl (mono_int _)) (hb.trans (hb4.mono hbs)))
        have HPL4 := Lib.hid (show (pick cs (idx m ++ kept)).length = m + kept.length from by rw [pick_len, List.length_append, idx_len])
        have HMI : Hid (∀ i ∈ idx m ++ kept, 0 ≤ i ∧ i < cs.length) := Lib.hid (fun i hi => by
          rcases List.mem_append.1 hi with hi | hi
          · have := idx_mem hi; omega
          · exact HM.out i hi)
        go_wp2_with fail
        refine (rproves_any n (pick cs (idx m ++ kept)) pr _ _ _ HR4.out HP4.out (by omega) (fun c hc => K3.out c (pick_mem HMI.out c hc)) K4.out (by rw [HPL4.out]; omega) hpn (fun c hc => by have := K6.out c hc; omega)).mono ?_
        cases hg : provesS n (pick cs (idx m ++ kept)) pr
        · have HN := Lib.hid (HS.out.trans (thin_stepN hg))
          clear hg
          rintro e w5 ⟨rfl, hb5⟩
          have hb35 : Below w3.heap.size w3 w5 := hb.trans ((hb4.trans (hb5.mono hbs4)).mono hbs)
          have hb05 : Below wr.heap.size wr w5 := hb4.trans (hb5.mono hbs4)
          have HK := Lib.hid (rdInts_rdv (OwnS.rdInts (k := .i64) (HOwn.out.below hb05)))
          have HRL5 := Lib.hid (HRL.out.below (mono_rdl (mono_int _)) hb05)
          have HIK := Lib.hid (ints_len kept)
          go_wp2_with (at_builtin; refine wpList_extend elemInt rfl (.tmp 39) (.tmp 40) rfl w5.heap.size _ [.int .i64 m] _ (ints kept) rfl rfl (OwnS.lit w5 w5.heap.size _ [.int .i64 m] (Nat.le_refl _) (by unfold maxLen; simp)) (HK.out.below ((Below.refl _ _).alloc (Nat.le_refl _) _)) (ints_one kept) (by have := HIK.out; simp only [List.length_cons, List.length_nil]; omega) (by have := HIK.out; unfold maxLen; simp only [List.length_cons, List.length_nil]; omega) (by simp) ?_; intro v6 w6 hown6 _ hb6)
          have hb56 : Below w5.heap.size w5 w6 := ((Below.refl _ _).alloc (Nat.le_refl _) _).trans hb6
          have HRL6 := Lib.hid (HRL5.out.below (mono_rdl (mono_int _)) hb56)
          have HO6 : Hid (OwnS w6 w3.heap.size 3 v6 (ints ((m : Int) :: kept))) := Lib.hid ((OwnS.weaken hown6 hb35.size))
          have HM6 : Hid (∀ i ∈ (m : Int) :: kept, 0 ≤ i ∧ i < cs.length) := Lib.hid (fun i hi => by
            rcases List.mem_cons.1 hi with rfl | hi
            · omega
            · exact HM.out i hi)
          clear hown6
          go_roundg m
          case measure => omega
          case rel => exact ⟨m, (m : Int) :: kept, rfl, by omega, by simp; omega, by go_num, by rw [← idx_cons]; exact HRL6.out, HO6.out, HM6, HN, hb35.trans (hb56.mono hb35.size)⟩
        · have HN := Lib.hid (HS.out.trans (thin_stepY hg))
          clear hg
          rintro e w5 ⟨rfl, hb5⟩
          have hb05 : Below wr.heap.size wr w5 := hb4.trans (hb5.mono hbs4)
          have HRL5 := Lib.hid (HRL.out.below (mono_rdl (mono_int _)) hb05)
          go_wp2_with fail
          refine (withoutL_any _ m _ _ HRL5.out (by rw [HPL.out]; omega) (by rw [HPL.out]; omega)).mono ?_
          rw [pick_erase, idx_erase]
          rintro e w6 ⟨v6, rfl, hr6, hb6⟩
          have HR6 := Lib.hid hr6
          obtain ⟨a6, cap6, rfl, -⟩ := hr6
          have hb06 : Below wr.heap.size wr w6 := hb05.trans (hb6.mono hb05.size)
          go_wp2_with fail
          go_roundg m
          case measure => omega
          case rel => exact ⟨m, kept, rfl, by omega, by omega, by go_num, HR6.out, HOwn.out.below hb06, HM, HN, hb.trans (hb06.mono hbs)⟩
  · have hE : Hid (coreS N cs pr = []) := Lib.hid (by unfold coreS; rw [if_neg (by omega)])
    have HB := Lib.hid hb2
    clear hb2 HC
    rcases h with h | h
    all_goals
      rw [h]
      have HH := Lib.hid h
      clear h
      go_wp2_with fail
      go_ret2
      exact ⟨_, by rw [HH.out]; rfl, by rw [hE.out]; exact RdL.nil _, HB.out⟩

theorem idx_last {l : Nat} (h : 0 < l) : idx l = idx (l - 1) ++ [((l - 1 : Nat) : Int)] := by
  obtain ⟨k, rfl⟩ : ∃ k, l = k + 1 := ⟨l - 1, by omega⟩
  rw [idx_succ]; rfl
set_option maxRecDepth 100000 in
set_option maxHeartbeats 2000000 in
theorem rtrim_any (N : Int) (cs pr : List (List Int)) (vc vp : Value) (w : World) (hc : RdL (RdL (IntV .i64)) w vc cs) (hp : RdL (RdL (IntV .i64)) w vp pr) (hcn : cs.length ≤ 100000) (hpn : pr.length ≤ 100000) :
    Calls Try.prog 18 #[.int .i64 N, vc, vp] w fun e w' => ∃ vr, e = .returned (.tuple #[vr, .int .i64 (checkS N cs pr)]) ∧ RdL (RdL (IntV .i64)) w' vr (trimS N cs pr) ∧ Below w.heap.size w w' := by
  have HC := Lib.hid (rcheck_any N cs pr vc vp w hc hp hcn hpn)
  have HRC := Lib.hid hc
  have HRP := Lib.hid hp
  obtain ⟨ac, capc, rfl, -⟩ := hc
  obtain ⟨ap, capp, rfl, -⟩ := hp
  go_enter Try.func18, Try.ntmps18
  go_wp2_with fail
  refine (HC.out).mono ?_
  rintro e w2 ⟨rfl, hb2⟩
  rcases check_vals N cs pr with h | h
  · obtain ⟨hv, hpr⟩ := check_zero h
    obtain ⟨n, rfl, k1, k2, k3, k4, k5, k6⟩ := valid_parts hv
    have hE : Hid (trimS n cs pr = pick pr (thinS (fun r => provesS n cs r) pr (pr.length - 1) (idx pr.length))) := Lib.hid (by unfold trimS; rw [if_pos h]; rfl)
    have hpos := proves_pos hpr
    have K3 := Lib.hid k3
    have K4 := Lib.hid k4
    have K6 := Lib.hid k6
    rw [h]
    have HH := Lib.hid h
    clear hv hpr k3 k4 k6 h HC
    have HV2 := (HRP.out.below (mono_rdl (mono_int _)) hb2)
    obtain ⟨vs, hvv, hr⟩ := HV2.vals
    have hvl := hr.1
    have HVV := Lib.hid hvv
    have HO := Lib.hid (reads_oneCell hr)
    have HR := Lib.hid hr
    clear HV2 hvv hr
    go_wp2_with (at_builtin; refine wpList_extend elemSlice rfl (.tmp 18) (.tmp 19) rfl w2.heap.size _ [] _ vs rfl rfl (OwnS.lit w2 w2.heap.size _ [] (Nat.le_refl _) (Nat.zero_le _)) (HVV.out.below ((Below.refl _ _).alloc (Nat.le_refl _) _)) HO.out (by simp only [List.length_nil]; omega) (by unfold maxLen; simp only [List.length_nil]; omega) (by simp) ?_; rw [List.nil_append]; intro v1 w3 hown3 _ hb3; have hS3 : Below w2.heap.size w2 w3 := ((Below.refl _ _).alloc (Nat.le_refl _) _).trans hb3)
    have hb23 := hb2.trans (hS3.mono hb2.size)
    have hrl := hown3.rdv.rd (HR.out.mono (mono_rdl (mono_int _)) hS3)
    rw [← pick_idx pr] at hrl
    have HP3 := Lib.hid (HRC.out.below (mono_rdl (mono_int _)) hb23)
    clear hown3 hb3
    go_loopg [9, 10] (pr.length - 1) (fun gh x i wr => ∃ (m : Nat) (kept : List Int), gh = m ∧ m + kept.length ≤ pr.length ∧ i = .int .i64 ((m : Int) - 1) ∧ RdL (RdL (IntV .i64)) wr x (pick pr (idx m ++ kept)) ∧ Hid (∀ i ∈ kept, 0 ≤ i ∧ i < pr.length) ∧ Hid (thinS (fun r => provesS n cs r) pr (pr.length - 1) (idx pr.length) = thinS (fun r => provesS n cs r) pr m (idx m ++ kept)) ∧ Below w3.heap.size w3 wr)
    case atStart => exact ⟨pr.length - 1, [((pr.length - 1 : Nat) : Int)], rfl, by simp; omega, by go_num, by rw [← idx_last hpos]; exact hrl, Lib.hid (fun i hi => by simp at hi; omega), Lib.hid (by rw [← idx_last hpos]), Below.refl _ _⟩
    case round =>
      clear hrl
      obtain ⟨m, kept, hgm, hkl, rfl, hrl, HM, HS, hb⟩ := hrel
      have HRL := Lib.hid hrl
      obtain ⟨ax, capx, rfl, -⟩ := hrl
      have HPL := Lib.hid (show (pick pr (idx m ++ kept)).length = m + kept.length from by rw [pick_len, List.length_append, idx_len])
      cases m with
      | zero =>
        go_wp2_with fail
        go_ret2
        refine ⟨_, by rw [HH.out]; rfl, ?_, hb23.trans (hb.mono hb23.size)⟩
        rw [hE.out, HS.out, thin_zero]
        exact HRL.out
      | succ m =>
        have e0 : (((m + 1 : Nat) : Int) - 1) = (m : Int) := by omega
        rw [e0]
        clear e0
        have hm100 : (m : Int) ≤ 100000 := by omega
        subst hgm
        go_wp2_with fail
        refine (withoutL_any _ m _ _ HRL.out (by rw [HPL.out]; omega) (by rw [HPL.out]; omega)).mono ?_
        rw [pick_erase, idx_erase]
        rintro e w4 ⟨v4, rfl, hr4, hb4⟩
        have HR4 := Lib.hid hr4
        obtain ⟨a4, cap4, rfl, -⟩ := hr4
        have hbs := hb.size
        have hbs4 := hb4.size
        have HP4 := Lib.hid (HP3.out.below (mono_rdl (mono_int _)) (hb.trans (hb4.mono hbs)))
        have HPL4 := Lib.hid (show (pick pr (idx m ++ kept)).length = m + kept.length from by rw [pick_len, List.length_append, idx_len])
        have HMI : Hid (∀ i ∈ idx m ++ kept, 0 ≤ i ∧ i < pr.length) := Lib.hid (fun i hi => by
          rcases List.mem_append.1 hi with hi | hi
          · have := idx_mem hi; omega
          · exact HM.out i hi)
        go_wp2_with fail
        refine (rproves_any n cs (pick pr (idx m ++ kept)) _ _ _ HP4.out HR4.out (by omega) K3.out (fun c hc => K4.out c (pick_mem HMI.out c hc)) hcn (by rw [HPL4.out]; omega) (fun c hc => by have := K6.out c (pick_mem HMI.out c hc); omega)).mono ?_
        cases hg : provesS n cs (pick pr (idx m ++ kept))
        · have HN := Lib.hid (HS.out.trans (thin_stepN hg))
          clear hg
          rintro e w5 ⟨rfl, hb5⟩
          have hb05 : Below wr.heap.size wr w5 := hb4.trans (hb5.mono hbs4)
          have HRL5 := Lib.hid (HRL.out.below (mono_rdl (mono_int _)) hb05)
          have HM6 : Hid (∀ i ∈ (m : Int) :: kept, 0 ≤ i ∧ i < pr.length) := Lib.hid (fun i hi => by
            rcases List.mem_cons.1 hi with rfl | hi
            · omega
            · exact HM.out i hi)
          go_wp2_with fail
          go_roundg m
          case measure => omega
          case rel => exact ⟨m, (m : Int) :: kept, rfl, by simp; omega, by go_num, by rw [← idx_cons]; exact HRL5.out, HM6, HN, hb.trans (hb05.mono hbs)⟩
        · have HN := Lib.hid (HS.out.trans (thin_stepY hg))
          clear hg
          rintro e w5 ⟨rfl, hb5⟩
          have hb05 : Below wr.heap.size wr w5 := hb4.trans (hb5.mono hbs4)
          have HRL5 := Lib.hid (HRL.out.below (mono_rdl (mono_int _)) hb05)
          go_wp2_with fail
          refine (withoutL_any _ m _ _ HRL5.out (by rw [HPL.out]; omega) (by rw [HPL.out]; omega)).mono ?_
          rw [pick_erase, idx_erase]
          rintro e w6 ⟨v6, rfl, hr6, hb6⟩
          have HR6 := Lib.hid hr6
          obtain ⟨a6, cap6, rfl, -⟩ := hr6
          have hb06 : Below wr.heap.size wr w6 := hb05.trans (hb6.mono hb05.size)
          go_wp2_with fail
          go_roundg m
          case measure => omega
          case rel => exact ⟨m, kept, rfl, by omega, by go_num, HR6.out, HM, HN, hb.trans (hb06.mono hbs)⟩
  · have hE : Hid (trimS N cs pr = []) := Lib.hid (by unfold trimS; rw [if_neg (by omega)])
    have HB := Lib.hid hb2
    clear hb2 HC
    rcases h with h | h
    all_goals
      rw [h]
      have HH := Lib.hid h
      clear h
      go_wp2_with fail
      go_ret2
      exact ⟨_, by rw [HH.out]; rfl, by rw [hE.out]; exact RdL.nil _, HB.out⟩
end Go.Proofs.Ythagkljenbhbdaa
