/-
  The walks of package rup's Core and Trim: they return what RSpec2 says; nothing that was in memory before the call is changed.
-/
import Derived.Test.YthagkljenbhbdaaRThin
import Derived.Test.YthagkljenbhbdaaRRef2
namespace Go.Proofs.Ythagkljenbhbdaa
open Go Go.RowKit

theorem check_vals (N : Int) (cs pr : List (List Int)) : checkS N cs pr = 0 ∨ (checkS N cs pr = 1 ∨ checkS N cs pr = 22) := by
  unfold checkS; split
  · split
    · exact .inl rfl
    · exact .inr (.inr rfl)
  · exact .inr (.inl rfl)
theorem check_zero {N : Int} {cs pr : List (List Int)} (h : checkS N cs pr = 0) : validS N cs pr = true ∧ provesS N.toNat cs pr = true := by
  unfold checkS at h
  cases hv : validS N cs pr
  · rw [hv] at h; cases h
  · rw [hv] at h
    cases hp : provesS N.toNat cs pr
    · rw [hp] at h; cases h
    · exact ⟨rfl, rfl⟩
theorem proves_pos {N : Nat} {cs pr : List (List Int)} (h : provesS N cs pr = true) : 0 < pr.length := by
  cases pr with
  | nil => cases h
  | cons c pr => simp

set_option maxRecDepth 100000 in
set_option maxHeartbeats 1000000 in
theorem core_any (N : Int) (cs pr : List (List Int)) (vc vp : Value) (w : World) (hc : RdL (RdL (IntV .i64)) w vc cs) (hp : RdL (RdL (IntV .i64)) w vp pr) (hcn : cs.length ≤ 100000) (hpn : pr.length ≤ 100000) :
    Calls Try.prog 15 #[.int .i64 N, vc, vp] w fun e w' => ∃ vr, e = .returned (.tuple #[vr, .int .i64 (checkS N cs pr)]) ∧ RdL (IntV .i64) w' vr (coreS N cs pr) ∧ Below w.heap.size w w' := by
  have hb0 : Below w.heap.size w ((w.alloc (.cells #[.int .i64 N] 3)).alloc (.cells #[vp] 23)) := ((Below.refl _ _).alloc (Nat.le_refl _) _).alloc (by simp) _
  obtain ⟨wb, hwb⟩ : ∃ wb, wb = (w.alloc (.cells #[.int .i64 N] 3)).alloc (.cells #[vp] 23) := ⟨_, rfl⟩
  have hsz : wb.heap.size = w.heap.size + 2 := by rw [hwb]; simp
  have hx1 : wb.cell? ⟨w.heap.size, 0, none⟩ = some (.int .i64 N) := by rw [hwb]; simp
  have hx2 : wb.cell? ⟨w.heap.size + 1, 0, none⟩ = some vp := by rw [hwb]; simp
  rw [← hwb] at hb0
  have hcb := hc.below (mono_rdl (mono_int _)) hb0
  have hpb := hp.below (mono_rdl (mono_int _)) hb0
  have HC := Lib.hid (check_any N cs pr vc vp wb hcb hpb hcn hpn)
  obtain ⟨ac, capc, rfl, hc1, hc2, hc3⟩ := hc
  obtain ⟨ap, capp, rfl, hp1, hp2, hp3⟩ := hp
  have HCB := Lib.hid hcb
  have HPB := Lib.hid hpb
  clear hc1 hc2 hc3 hp1 hp2 hp3 hcb hpb
  go_enter Try.func15, Try.ntmps15
  go_wp2_with (rw [← hwb]; fail)
  rw [← hwb]
  refine (HC.out).mono ?_
  rintro e w2 ⟨rfl, hb2⟩
  have hbw := hb0.trans (hb2.mono (by omega))
  rcases check_vals N cs pr with h | h
  · obtain ⟨hv, hpr⟩ := check_zero h
    obtain ⟨n, rfl, k1, k2, k3, k4, k5, k6⟩ := valid_parts hv
    have hE : Hid (coreS n cs pr = thinS (fun r => provesS n r pr) cs cs.length (idx cs.length)) := Lib.hid (by unfold coreS; rw [if_pos h]; rfl)
    have HT := Lib.hid (thin_any (.pointer (some ⟨w.heap.size, 0, none⟩)) (.pointer (some ⟨w.heap.size + 1, 0, none⟩)) (fun r => provesS n r pr) cs cs.length _ w2 enters_core1 (HCB.out.below (mono_rdl (mono_int _)) hb2) (Nat.le_refl _) hcn (fun r u w3 hb3 hr hmem hlen =>
      core1_any n r pr u _ w.heap.size (w.heap.size + 1) w3 (((hb2.trans (hb3.mono hb2.size)).cell (p := ⟨w.heap.size, 0, none⟩) (show w.heap.size < wb.heap.size by omega)).trans hx1) (((hb2.trans (hb3.mono hb2.size)).cell (p := ⟨w.heap.size + 1, 0, none⟩) (show w.heap.size + 1 < wb.heap.size by omega)).trans hx2) hr (HPB.out.below (mono_rdl (mono_int _)) (hb2.trans (hb3.mono hb2.size))) (by omega) (fun c hc => k3 c (hmem c hc)) k4 (by omega) hpn (fun c hc => by have := k6 c hc; omega)))
    rw [h]
    have HH := Lib.hid h
    clear hwb hx1 hx2 hv hpr k1 k2 k3 k4 k5 k6 hb2 h
    go_wp2_with fail
    refine (HT.out).mono ?_
    rintro e w3 ⟨v3, rfl, hr3, hb3⟩
    have HR3 := Lib.hid hr3
    clear hr3
    go_wp2_with fail
    go_ret2
    exact ⟨_, by rw [HH.out]; rfl, by rw [hE.out]; exact HR3.out, hbw.trans (hb3.mono hbw.size)⟩
  · have hE : Hid (coreS N cs pr = []) := Lib.hid (by unfold coreS; rw [if_neg (by omega)])
    have HB := Lib.hid hbw
    clear hwb hx1 hx2 hb2 hbw
    rcases h with h | h
    all_goals
      rw [h]
      have HH := Lib.hid h
      clear h
      go_wp2_with fail
      go_ret2
      exact ⟨_, by rw [HH.out]; rfl, by rw [hE.out]; exact RdL.nil _, HB.out⟩
set_option maxRecDepth 100000 in
set_option maxHeartbeats 1000000 in
theorem trim_any (N : Int) (cs pr : List (List Int)) (vc vp : Value) (w : World) (hc : RdL (RdL (IntV .i64)) w vc cs) (hp : RdL (RdL (IntV .i64)) w vp pr) (hcn : cs.length ≤ 100000) (hpn : pr.length ≤ 100000) :
    Calls Try.prog 17 #[.int .i64 N, vc, vp] w fun e w' => ∃ vr, e = .returned (.tuple #[vr, .int .i64 (checkS N cs pr)]) ∧ RdL (RdL (IntV .i64)) w' vr (trimS N cs pr) ∧ Below w.heap.size w w' := by
  have hb0 : Below w.heap.size w ((w.alloc (.cells #[.int .i64 N] 3)).alloc (.cells #[vc] 23)) := ((Below.refl _ _).alloc (Nat.le_refl _) _).alloc (by simp) _
  obtain ⟨wb, hwb⟩ : ∃ wb, wb = (w.alloc (.cells #[.int .i64 N] 3)).alloc (.cells #[vc] 23) := ⟨_, rfl⟩
  have hsz : wb.heap.size = w.heap.size + 2 := by rw [hwb]; simp
  have hx1 : wb.cell? ⟨w.heap.size, 0, none⟩ = some (.int .i64 N) := by rw [hwb]; simp
  have hx2 : wb.cell? ⟨w.heap.size + 1, 0, none⟩ = some vc := by rw [hwb]; simp
  rw [← hwb] at hb0
  have hcb := hc.below (mono_rdl (mono_int _)) hb0
  have hpb := hp.below (mono_rdl (mono_int _)) hb0
  have HC := Lib.hid (check_any N cs pr vc vp wb hcb hpb hcn hpn)
  obtain ⟨ac, capc, rfl, hc1, hc2, hc3⟩ := hc
  obtain ⟨ap, capp, rfl, hp1, hp2, hp3⟩ := hp
  have HCB := Lib.hid hcb
  have HPB := Lib.hid hpb
  clear hc1 hc2 hc3 hp1 hp2 hp3 hcb hpb
  go_enter Try.func17, Try.ntmps17
  go_wp2_with (rw [← hwb]; fail)
  rw [← hwb]
  refine (HC.out).mono ?_
  rintro e w2 ⟨rfl, hb2⟩
  have hbw := hb0.trans (hb2.mono (by omega))
  rcases check_vals N cs pr with h | h
  · obtain ⟨hv, hpr⟩ := check_zero h
    obtain ⟨n, rfl, k1, k2, k3, k4, k5, k6⟩ := valid_parts hv
    have hE : Hid (trimS n cs pr = pick pr (thinS (fun r => provesS n cs r) pr (pr.length - 1) (idx pr.length))) := Lib.hid (by unfold trimS; rw [if_pos h]; rfl)
    have HT := Lib.hid (thin_any (.pointer (some ⟨w.heap.size, 0, none⟩)) (.pointer (some ⟨w.heap.size + 1, 0, none⟩)) (fun r => provesS n cs r) pr (pr.length - 1) _ w2 enters_trim1 (HPB.out.below (mono_rdl (mono_int _)) hb2) (by omega) hpn (fun r u w3 hb3 hr hmem hlen =>
      trim1_any n cs r _ u w.heap.size (w.heap.size + 1) w3 (((hb2.trans (hb3.mono hb2.size)).cell (p := ⟨w.heap.size, 0, none⟩) (show w.heap.size < wb.heap.size by omega)).trans hx1) (((hb2.trans (hb3.mono hb2.size)).cell (p := ⟨w.heap.size + 1, 0, none⟩) (show w.heap.size + 1 < wb.heap.size by omega)).trans hx2) (HCB.out.below (mono_rdl (mono_int _)) (hb2.trans (hb3.mono hb2.size))) hr (by omega) k3 (fun c hc => k4 c (hmem c hc)) hcn (by omega) (fun c hc => by have := k6 c (hmem c hc); omega)))
    have hpos := proves_pos hpr
    rw [show (((pr.length - 1 : Nat) : Int) - 1) = (pr.length : Int) - 2 from by omega] at HT
    have HTM : Hid (∀ i ∈ thinS (fun r => provesS n cs r) pr (pr.length - 1) (idx pr.length), 0 ≤ i ∧ i < pr.length) := Lib.hid (thinS_mem _ _ (fun i hi => idx_mem hi))
    have htl : (thinS (fun r => provesS n cs r) pr (pr.length - 1) (idx pr.length)).length ≤ pr.length := by have := thinS_len (good := fun r => provesS n cs r) (l := pr) (pr.length - 1) (idx pr.length); rwa [idx_len] at this
    have HW := Lib.hid k6
    have HP2 := Lib.hid (HPB.out.below (mono_rdl (mono_int _)) hb2)
    generalize thinS (fun r => provesS n cs r) pr (pr.length - 1) (idx pr.length) = is at *
    rw [h]
    have HH := Lib.hid h
    clear hwb hx1 hx2 hv hpr k1 k2 k3 k4 k5 k6 hb2 h
    go_wp2_with fail
    refine (HT.out).mono ?_
    rintro e w3 ⟨v3, rfl, hr3, hb3⟩
    have hb03 := hbw.trans (hb3.mono hbw.size)
    have HP3 := Lib.hid (HP2.out.below (mono_rdl (mono_int _)) hb3)
    obtain ⟨a3, cap3, rfl, i1, i2, i3⟩ := hr3
    obtain ⟨a4, cap4, he4, l1, l2, l3⟩ := HP3.out
    simp only [Value.slice.injEq] at he4
    obtain ⟨rfl, _, rfl⟩ := he4
    have HI3 := Lib.hid i3
    have HL3 := Lib.hid l3
    clear i1 i2 i3 l1 l2 l3 HT
    go_wp2_with fail
    go_loopg [9, 26] is.length (fun gh x i wr => ∃ (k : Nat), gh = is.length - k ∧ k ≤ is.length ∧ i = .int .i64 k ∧ OwnL (RdL (IntV .i64)) wr w3.heap.size 22 x (pick pr (is.take k)) ∧ Below w3.heap.size w3 wr)
    case atStart => exact ⟨0, by omega, by omega, rfl, OwnL.nil _ _ _, Below.refl _ _⟩
    case round =>
      obtain ⟨k, rfl, hk, rfl, hown, hb⟩ := hrel
      by_cases hlt : k < is.length
      · obtain ⟨b, off, u, rfl, hbl, hcell0, hu⟩ := HI3.out k hlt
        have hcell := (hb.cell (p := ⟨b, off + k, none⟩) hbl).trans hcell0
        unfold IntV at hu
        subst hu
        have hi := HTM.out _ (List.getElem_mem hlt)
        obtain ⟨t, ht⟩ := Int.eq_ofNat_of_zero_le hi.1
        have htl2 : t < pr.length := by omega
        have HS := Lib.hid (pick_snoc pr is k hlt t htl2 ht)
        rw [ht] at hcell
        obtain ⟨b2, off2, u2, rfl, hbl2, hcell20, hu2⟩ := HL3.out t htl2
        have hcell2 := (hb.cell (p := ⟨b2, off2 + t, none⟩) hbl2).trans hcell20
        have hw2 := HW.out _ (List.getElem_mem htl2)
        have HU := Lib.hid (hu2.below (mono_int _) hb)
        have HOwn := Lib.hid hown
        have hpl : (pick pr (is.take k)).length = k := by rw [pick_len]; simp; omega
        have hbs := hb.size
        clear hcell0 hcell20 hi ht hown hu2
        go_wp2_with fail
        refine (cloneInts_any _ _ _ HU.out (by omega)).mono ?_
        rintro e w4 ⟨v4, rfl, hown4, hb4⟩
        have hone4 : v4.oneCell' = true := rdl_oneCell (OwnS.rdInts (k := .i64) hown4)
        obtain ⟨av, capv, rfl, _⟩ := OwnS.rdInts (k := .i64) hown4
        have hbs4 := hb4.size
        have HS4 := Lib.hid (StR.of_own hown4 (by decide) (Reads.ints w3.heap.size 22 .i64 w4 _))
        have HO4 := Lib.hid (HOwn.out.below hb4)
        clear hown4
        go_wp2_with (at_builtin; refine wpList_pushL elemSlice rfl (.tmp 30) (.tmp 36) rfl w3.heap.size _ (pick pr (is.take k)) _ _ rfl rfl HO4.out HS4.out hone4 (by omega) (by unfold maxLen; omega) (by omega) ?_; intro v' w5 hown5 _ hb5)
        go_roundg (is.length - (k + 1))
        case measure => omega
        case rel => exact ⟨k + 1, rfl, by omega, by go_num, by rw [HS.out]; exact hown5, (hb.trans (hb4.mono hbs)).trans hb5⟩
      · obtain rfl : k = is.length := by omega
        rw [List.take_length] at hown
        have HR := Lib.hid hown.rd
        clear hown
        go_wp2_with fail
        go_ret2
        exact ⟨_, by rw [HH.out]; rfl, by rw [hE.out]; exact HR.out, hb03.trans (hb.mono hb03.size)⟩
  · have hE : Hid (trimS N cs pr = []) := Lib.hid (by unfold trimS; rw [if_neg (by omega)])
    have HB := Lib.hid hbw
    clear hwb hx1 hx2 hb2 hbw
    rcases h with h | h
    all_goals
      rw [h]
      have HH := Lib.hid h
      clear h
      go_wp2_with fail
      go_ret2
      exact ⟨_, by rw [HH.out]; rfl, by rw [hE.out]; exact RdL.nil _, HB.out⟩
end Go.Proofs.Ythagkljenbhbdaa
