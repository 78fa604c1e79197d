/-
  The walk of the law RupLeast: it returns true.
-/
import Derived.Test.YthagkljenbhbdaaRLaw3
import Derived.Test.YthagkljenbhbdaaRTheory3
import Derived.BigQuiet
namespace Go.Proofs.Ythagkljenbhbdaa
open Go Go.RowKit

set_option maxRecDepth 100000 in
set_option maxHeartbeats 4000000 in
theorem least_law (l m : List Int) (many : Int) (vl vm : Value) (w : World) (hl : RdL (IntV .i64) w vl l) (hm : RdL (IntV .i64) w vm m)
    (hli : ∀ x ∈ l, I64 x) (hmi : ∀ x ∈ m, I64 x) (h1 : I64 many) :
    Calls Try.prog 6 #[vl, vm, .int .i64 many] w fun e w' => e = .returned (.bool true) ∧ Below w.heap.size w w' := by
  have HD := Lib.hid (drawn_any l m many vl vm w hl hm hli hmi h1)
  obtain ⟨al, capl, rfl, -⟩ := hl
  obtain ⟨am, capm, rfl, -⟩ := hm
  clear hli hmi h1
  go_enter Try.func6, Try.ntmps6
  go_wp2_with fail
  refine (HD.out).mono ?_
  rintro e w1 ⟨vc, vp, n, cs, pr, rfl, hn, hc, hp, hgc, hgp, hcl, hpl, hb1⟩
  have hpl2 : (pr ++ [[]]).length ≤ 19 := by simp; omega
  have hgp2 := goodL_empty hgp
  generalize pr ++ [[]] = pf at *
  have HC := Lib.hid hc
  have HP := Lib.hid hp
  have HGC := Lib.hid hgc
  have HGP := Lib.hid hgp2
  obtain ⟨ac, capc, rfl, -⟩ := hc
  obtain ⟨ap, capp, rfl, -⟩ := hp
  clear hgc hgp hgp2 HD hpl
  go_wp2_with fail
  refine (core_any n cs pf _ _ _ HC.out HP.out (by omega) (by omega)).mono ?_
  rintro e w2 ⟨vco, rfl, hco, hb2⟩
  have HCO := Lib.hid hco
  obtain ⟨aco, capco, rfl, -⟩ := hco
  go_wp2_with fail
  refine (trim_any n cs pf _ _ _ (HC.out.below (mono_rdl (mono_int _)) hb2) (HP.out.below (mono_rdl (mono_int _)) hb2) (by omega) (by omega)).mono ?_
  rintro e w3 ⟨vtr, rfl, htr, hb3⟩
  have hb13 := hb2.trans (hb3.mono hb2.size)
  have HTR := Lib.hid htr
  obtain ⟨atr, captr, rfl, -⟩ := htr
  go_wp2_with fail
  refine (check_any n cs pf _ _ _ (HC.out.below (mono_rdl (mono_int _)) hb13) (HP.out.below (mono_rdl (mono_int _)) hb13) (by omega) (by omega)).mono ?_
  rintro e w4 ⟨rfl, hb4⟩
  have hb14 := hb13.trans (hb4.mono hb13.size)
  have HBW := Lib.hid (hb1.trans (hb14.mono hb1.size))
  by_cases hz : checkS n cs pf = 0
  · have HZ := Lib.hid hz
    have HCO4 := Lib.hid (HCO.out.below (mono_int _) (hb3.trans (hb4.mono hb3.size)))
    have HTR4 := Lib.hid (HTR.out.below (mono_rdl (mono_int _)) hb4)
    have HC4 := Lib.hid (HC.out.below (mono_rdl (mono_int _)) hb14)
    have HP4 := Lib.hid (HP.out.below (mono_rdl (mono_int _)) hb14)
    obtain ⟨c1, c2, c3⟩ := core_least hn.2 HGC.out HGP.out (by omega) hz
    obtain ⟨t1, t2, t3⟩ := trim_least hn.2 HGC.out HGP.out (by omega) hz
    have hcol : (coreS n cs pf).length ≤ 22 := by have := c1.length_le; rw [idx_len] at this; omega
    have htrl : (trimS n cs pf).length ≤ 19 := by have := t1.length_le; omega
    have HC1 := Lib.hid c1
    have HC2 := Lib.hid c2
    have HC3 := Lib.hid c3
    have HT1 := Lib.hid t1
    have HT2 := Lib.hid t2
    have HT3 := Lib.hid t3
    rw [hz]
    clear hz c1 c2 c3 t1 t2 t3 hb14 hb13 hb4 hb3 hb2 hb1 HC HP HCO HTR
    generalize coreS n cs pf = co at *
    generalize trimS n cs pf = tr at *
    obtain ⟨_, _, hev, -, -, hI3⟩ := HCO4.out
    simp only [Value.slice.injEq] at hev
    obtain ⟨rfl, -, rfl⟩ := hev
    obtain ⟨_, _, hev, -, -, hL3⟩ := HC4.out
    simp only [Value.slice.injEq] at hev
    obtain ⟨rfl, -, rfl⟩ := hev
    have HI3 := Lib.hid hI3
    have HL3 := Lib.hid hL3
    clear hI3 hL3
    have HCM : Hid (∀ i ∈ co, 0 ≤ i ∧ i < cs.length) := Lib.hid (fun i hi => idx_mem (HC1.out.subset hi))
    have HCP : Hid (co.Pairwise (· < ·)) := Lib.hid ((idx_pairwise _).sublist HC1.out)
    go_wp2_with fail
    go_loopg [14, 15] co.length (fun gh x i wr => ∃ (k : Nat), gh = co.length - k ∧ k ≤ co.length ∧ i = .int .i64 k ∧ OwnL (RdL (IntV .i64)) wr w4.heap.size 22 x (pick cs (co.take k)) ∧ Below w4.heap.size w4 wr)
    case atStart => exact ⟨0, by omega, by omega, rfl, OwnL.nil _ _ _, Below.refl _ _⟩
    case round =>
      obtain ⟨k, rfl, hk, rfl, hown, hb⟩ := hrel
      by_cases hlt : k < co.length
      · obtain ⟨b, off, u, rfl, hbl, hcell0, hu⟩ := HI3.out k hlt
        have hcell := (hb.cell (p := ⟨b, off + k, none⟩) hbl).trans hcell0
        unfold IntV at hu
        subst hu
        have hi := HCM.out _ (List.getElem_mem hlt)
        obtain ⟨t, ht⟩ := Int.eq_ofNat_of_zero_le hi.1
        have htl2 : t < cs.length := by omega
        have HS := Lib.hid (pick_snoc cs co k hlt t htl2 ht)
        have hprev : Hid (0 < k → ∃ pv, wr.cell? ⟨b, off + (k - 1), none⟩ = some (.int .i64 pv) ∧ pv < (t : Int)) := Lib.hid (fun hk0 => by
          obtain ⟨b2, off2, u2, he2, hbl2, hcell2, hu2⟩ := HI3.out (k - 1) (by omega)
          simp only [Option.some.injEq, Addr.mk.injEq, and_true] at he2
          obtain ⟨rfl, rfl⟩ := he2
          unfold IntV at hu2
          subst hu2
          exact ⟨_, (hb.cell (p := ⟨b, off + (k - 1), none⟩) hbl2).trans hcell2, by rw [← ht]; exact List.pairwise_iff_getElem.1 HCP.out (k - 1) k (by omega) hlt (by omega)⟩)
        rw [ht] at hcell
        obtain ⟨b2, off2, u2, rfl, hbl2, hcell20, hu2⟩ := HL3.out t htl2
        have hcell2 := (hb.cell (p := ⟨b2, off2 + t, none⟩) hbl2).trans hcell20
        have HU := Lib.hid (StR.of_old (E := 22) (mono_rdl (mono_int .i64)) hu2 hb)
        have HOwn := Lib.hid hown
        have hpl : (pick cs (co.take k)).length = k := by rw [pick_len]; simp; omega
        have HPL := Lib.hid hpl
        obtain ⟨au, capu, rfl, -⟩ := hu2
        obtain ⟨ax, capx, rfl⟩ := hown.len
        have hbs := hb.size
        have ht0 : (0 : Int) ≤ t := by omega
        have ht1 : (t : Int) < cs.length := by omega
        clear hcell0 hcell20 hi ht hown hpl
        by_cases hk0 : k = 0
        · subst hk0
          rw [Nat.add_zero] at hcell
          have hl0 : (0 : Int) < co.length := by omega
          clear hprev
          have hd1 : decide ((t : Int) < 0) = false := by rw [decide_eq_false_iff_not]; omega
          have hd2 : decide (cs.length ≤ t) = false := by rw [decide_eq_false_iff_not]; omega
          go_wp2_with fail
          go_quiet (fail)
          have hq := below_drewN (Below.refl wr.heap.size wr) nq
          have HOq := Lib.hid (HOwn.out.below hq)
          have HUq := Lib.hid (HU.out.chg (Chg.of_below hq))
          go_wp2_with (at_builtin; refine wpList_pushL elemSlice rfl (.tmp 99) (.tmp 107) rfl w4.heap.size _ (pick cs (co.take 0)) _ _ rfl rfl HOq.out HUq.out rfl (by have := HPL.out; omega) (by have := HPL.out; unfold maxLen; omega) (by simpa using hbs) ?_; intro v' w5 hown5 _ hb5)
          go_roundg (co.length - (0 + 1))
          case measure => omega
          case rel => exact ⟨1, rfl, by omega, by go_num, by rw [HS.out]; exact hown5, hb.trans ((hq.mono hbs).trans hb5)⟩
        · obtain ⟨k, rfl⟩ : ∃ k', k = k' + 1 := ⟨k - 1, by omega⟩
          obtain ⟨pv, hpc, hplt⟩ := hprev.out (by omega)
          rw [show k + 1 - 1 = k from rfl] at hpc
          clear hprev hk0
          have hd1 : decide ((t : Int) < 0) = false := by rw [decide_eq_false_iff_not]; omega
          have hd2 : decide (cs.length ≤ t) = false := by rw [decide_eq_false_iff_not]; omega
          have hd4 : decide ((t : Int) ≤ pv) = false := by rw [decide_eq_false_iff_not]; omega
          have hk1 : (k : Int) + 1 < co.length := by omega
          have hk2 : (0 : Int) ≤ (k : Int) + 1 := by omega
          have hk3 : IntKind.i64.wrap ((k : Int) + 1 - 1) = k := by rw [show (k : Int) + 1 - 1 = k from by omega]; exact IntWalk.i64_in _ (by omega)
          have hd3 : decide ((0 : Int) < (k : Int) + 1) = true := by rw [decide_eq_true_eq]; omega
          go_wp2_with fail
          go_quiet (fail)
          have hq := below_drewN (Below.refl wr.heap.size wr) nq
          have HOq := Lib.hid (HOwn.out.below hq)
          have HUq := Lib.hid (HU.out.chg (Chg.of_below hq))
          go_wp2_with (at_builtin; refine wpList_pushL elemSlice rfl (.tmp 99) (.tmp 107) rfl w4.heap.size _ (pick cs (co.take (k + 1))) _ _ rfl rfl HOq.out HUq.out rfl (by have := HPL.out; omega) (by have := HPL.out; unfold maxLen; omega) (by simpa using hbs) ?_; intro v' w5 hown5 _ hb5)
          go_roundg (co.length - (k + 1 + 1))
          case measure => omega
          case rel => exact ⟨k + 1 + 1, rfl, by omega, by go_num, by rw [HS.out]; exact hown5, hb.trans ((hq.mono hbs).trans hb5)⟩
      · obtain rfl : k = co.length := by omega
        rw [List.take_length] at hown
        have HSo := Lib.hid hown.rd
        have hsl : (pick cs co).length = co.length := pick_len _ _
        have HBr := Lib.hid (HBW.out.trans (hb.mono HBW.out.size))
        have HPr := Lib.hid (HP4.out.below (mono_rdl (mono_int _)) hb)
        have HTr := Lib.hid (HTR4.out.below (mono_rdl (mono_int _)) hb)
        have HCr := Lib.hid ((HC4.out.below (mono_rdl (mono_int _)) hb))
        clear hown hb hk hlt HC4 HP4 HTR4
        have HCO5 : Hid (checkS n (pick cs co) pf = 0 ∧ ∀ i, i < (pick cs co).length → checkS n ((pick cs co).eraseIdx i) pf ≠ 0) := Lib.hid ⟨HC2.out, by rw [hsl]; exact HC3.out⟩
        have hsl2 : (pick cs co).length ≤ 22 := by omega
        clear HC2 HC3 HC1 HCM HCP hsl
        generalize pick cs co = so at *
        obtain ⟨aso, capso, rfl, hcs1, -⟩ := HSo.out
        go_wp2_with fail
        refine (check_any n so pf _ _ _ HSo.out HPr.out (by omega) (by omega)).mono ?_
        rw [HCO5.out.1]
        rintro e w5 ⟨rfl, hb5⟩
        go_wp2_with fail
        refine (check_any n cs tr _ _ _ (HCr.out.below (mono_rdl (mono_int _)) hb5) (HTr.out.below (mono_rdl (mono_int _)) hb5) (by omega) (by omega)).mono ?_
        rw [HT2.out]
        rintro e w6 ⟨rfl, hb6⟩
        have hb56 := hb5.trans (hb6.mono hb5.size)
        have HS6 := Lib.hid (HSo.out.below (mono_rdl (mono_int _)) hb56)
        have HP6 := Lib.hid (HPr.out.below (mono_rdl (mono_int _)) hb56)
        have HT6 := Lib.hid (HTr.out.below (mono_rdl (mono_int _)) hb56)
        have HC6 := Lib.hid (HCr.out.below (mono_rdl (mono_int _)) hb56)
        have HB6 := Lib.hid (HBr.out.trans (hb56.mono HBr.out.size))
        clear hb5 hb6 hb56 HSo HPr HTr HCr HBr
        obtain ⟨vss, hvss, hrss⟩ := HS6.out.vals
        have HVS := Lib.hid hvss
        have HRS := Lib.hid hrss
        have HOS := Lib.hid (reads_oneCell hrss)
        have HLS := Lib.hid hrss.1
        clear hvss hrss
        go_wp2_with fail
        go_loopg [16] so.length (fun gh i wr => ∃ (k : Nat), gh = so.length - k ∧ k ≤ so.length ∧ i = .int .i64 k ∧ Below w6.heap.size w6 wr)
        case atStart => exact ⟨0, by omega, by omega, rfl, Below.refl _ _⟩
        case round =>
          obtain ⟨i, rfl, hi, rfl, hb⟩ := hrel
          by_cases hlt : i < so.length
          · obtain ⟨_, _, hev, -, -, hV3⟩ := HVS.out
            simp only [Value.slice.injEq] at hev
            obtain ⟨rfl, -, rfl⟩ := hev
            obtain ⟨bs, offs, rfl, -⟩ := hV3 i (by have := HLS.out; omega)
            have HVS2 : Hid (RdV w6 (.slice (some ⟨bs, offs, none⟩) vss.length capso) vss) := Lib.hid (by rw [HLS.out]; exact HVS.out)
            have hbs := hb.size
            have HT : Hid (∀ W, Below wr.heap.size wr W → RdV W (.slice (some ⟨bs, offs, none⟩) i capso) (vss.take i)) := Lib.hid (fun W hW => (HVS2.out.take i (by have := HLS.out; omega)).below (hb.trans (hW.mono hbs)))
            have HDr : Hid (∀ W, Below wr.heap.size wr W → RdV W (.slice (if capso = i + 1 then some ⟨bs, offs, none⟩ else some ⟨bs, offs + (i + 1), none⟩) (so.length - (i + 1)) (capso - (i + 1))) (vss.drop (i + 1))) := Lib.hid (fun W hW => by rw [← HLS.out]; exact (HVS2.out.drop (i + 1) (by have := HLS.out; omega)).below (hb.trans (hW.mono hbs)))
            have HOT : Hid (∀ u ∈ vss.take i, u.oneCell' = true) := Lib.hid (fun u hu => HOS.out u (List.mem_of_mem_take hu))
            have HOD : Hid (∀ u ∈ vss.drop (i + 1), u.oneCell' = true) := Lib.hid (fun u hu => HOS.out u (List.mem_of_mem_drop hu))
            have HTL : Hid ((vss.take i).length = i) := Lib.hid (by have := HLS.out; simp; omega)
            have HDL : Hid ((vss.drop (i + 1)).length = so.length - (i + 1)) := Lib.hid (by have := HLS.out; simp; omega)
            have HPc : Hid (∀ W, Below wr.heap.size wr W → RdL (RdL (IntV .i64)) W (.slice ap pf.length capp) pf) := Lib.hid (fun W hW => HP6.out.below (mono_rdl (mono_int _)) (hb.trans (hW.mono hbs)))
            have HRe : Hid (∀ W, Below wr.heap.size wr W → Reads (RdL (IntV .i64)) W (vss.take i ++ vss.drop (i + 1)) (so.eraseIdx i)) := Lib.hid (fun W hW => by rw [← List.eraseIdx_eq_take_drop_succ]; exact (HRS.out.erase i).mono (mono_rdl (mono_int _)) (hb.trans (hW.mono hbs)))
            have hj1 : (i : Int) ≤ capso := by omega
            have hj2 : (i : Int) + 1 ≤ so.length := by omega
            have hj3 : (so.length : Int) ≤ capso := by omega
            have hj4 : (0 : Int) ≤ i := by omega
            have hj6 : (0 : Int) ≤ (i : Int) + 1 := by omega
            have hj7 : (i : Int) + 1 ≤ capso := by omega
            have hj8 : (i : Int) ≤ so.length := by omega
            have hj9 : (i : Int) < so.length := by omega
            have hw1 : IntKind.i64.wrap ((i : Int) + 1) = (i : Int) + 1 := IntWalk.i64_in _ (by omega)
            have hne : (checkS n (so.eraseIdx i) pf == 0) = false := by rw [beq_eq_false_iff_ne]; exact HCO5.out.2 i hlt
            clear hV3
            by_cases hce : capso = i + 1
            · subst hce
              rw [if_pos rfl, Nat.sub_self, show so.length - (i + 1) = 0 from by omega] at HDr
              have hx1 : (i : Int) ≤ (i : Int) + 1 := by omega
              have hx2 : (so.length : Int) ≤ (i : Int) + 1 := by omega
              clear hj1 hj3 hj7
              go_wp2_with fail
              go_region_held3 (fun w' => Below wr.heap.size wr w') ((repeat (first | assumption | exact And.left (by assumption) | exact Below.refl _ _ | refine below_drew' ?_ | refine below_alloc' ?_ _))) (first | (refine step_extendF elemSlice rfl (.tmp 128) (.tmp 131) rfl wr.heap.size (.slice (some ⟨wr.heap.size, 0, none⟩) 0 0) [] (.slice (some ⟨bs, offs, none⟩) i _) (vss.take i) rfl rfl (by with_reducible exact (lit0 wr wr.heap.size _ (Nat.le_refl _)).drew) (HT.out _ (by repeat (first | assumption | exact And.left (by assumption) | exact Below.refl _ _ | refine below_drew' ?_ | refine below_alloc' ?_ _))) HOT.out (by have := HTL.out; simp only [List.length_nil]; omega) (by have := HTL.out; unfold maxLen; simp only [List.length_nil]; omega) (by simp <;> omega) ?_; rw [List.nil_append]; intro v7 w7 hown7 hb7 hF7; have hS7 : Below wr.heap.size wr w7 := Below.trans (by repeat (first | assumption | exact And.left (by assumption) | exact Below.refl _ _ | refine below_drew' ?_ | refine below_alloc' ?_ _)) hb7; clear hF7) | (refine step_extendF elemSlice rfl (.tmp 132) (.tmp 136) rfl wr.heap.size v7 (vss.take i) (.slice (some ⟨bs, offs, none⟩) 0 0) (vss.drop (i + 1)) rfl rfl (by with_reducible exact hown7) (HDr.out _ (by repeat (first | assumption | exact And.left (by assumption) | exact Below.refl _ _ | refine below_drew' ?_ | refine below_alloc' ?_ _))) HOD.out (by have := HTL.out; have := HDL.out; omega) (by have := HTL.out; have := HDL.out; unfold maxLen; omega) (Below.size (show Below wr.heap.size wr _ by repeat (first | assumption | exact And.left (by assumption) | exact Below.refl _ _ | refine below_drew' ?_ | refine below_alloc' ?_ _))) ?_; intro v8 w8 hown8 hb8 hF8; have hS8 : Below wr.heap.size wr w8 := Below.trans (show Below wr.heap.size wr _ by repeat (first | assumption | exact And.left (by assumption) | exact Below.refl _ _ | refine below_drew' ?_ | refine below_alloc' ?_ _)) hb8; clear hF8; have HV8 := Lib.hid (hown8.rdv.rd (HRe.out _ hS8))) | (go_at_call 12; refine (check_any n (so.eraseIdx i) pf _ _ _ HV8.out (HPc.out _ (by repeat (first | assumption | exact And.left (by assumption) | exact Below.refl _ _ | refine below_drew' ?_ | refine below_alloc' ?_ _))) (by have := List.length_eraseIdx_le so i; omega) (by omega)).mono ?_; rintro e w9 ⟨rfl, hb9⟩; have hS9 : Below wr.heap.size wr w9 := Below.trans (show Below wr.heap.size wr _ by repeat (first | assumption | exact And.left (by assumption) | exact Below.refl _ _ | refine below_drew' ?_ | refine below_alloc' ?_ _)) (hb9.mono (Below.size (show Below wr.heap.size wr _ by repeat (first | assumption | exact And.left (by assumption) | exact Below.refl _ _ | refine below_drew' ?_ | refine below_alloc' ?_ _))))))
              go_wp2_with fail
              go_roundg (so.length - (i + 1))
              case measure => omega
              case rel => exact ⟨i + 1, rfl, by omega, by go_num, hb.trans (hS9.mono hbs)⟩
            · rw [if_neg hce] at HDr
              go_wp2_with fail
              go_region_held3 (fun w' => Below wr.heap.size wr w') ((repeat (first | assumption | exact And.left (by assumption) | exact Below.refl _ _ | refine below_drew' ?_ | refine below_alloc' ?_ _))) (first | (refine step_extendF elemSlice rfl (.tmp 128) (.tmp 131) rfl wr.heap.size (.slice (some ⟨wr.heap.size, 0, none⟩) 0 0) [] (.slice (some ⟨bs, offs, none⟩) i _) (vss.take i) rfl rfl (by with_reducible exact (lit0 wr wr.heap.size _ (Nat.le_refl _)).drew) (HT.out _ (by repeat (first | assumption | exact And.left (by assumption) | exact Below.refl _ _ | refine below_drew' ?_ | refine below_alloc' ?_ _))) HOT.out (by have := HTL.out; simp only [List.length_nil]; omega) (by have := HTL.out; unfold maxLen; simp only [List.length_nil]; omega) (by simp <;> omega) ?_; rw [List.nil_append]; intro v7 w7 hown7 hb7 hF7; have hS7 : Below wr.heap.size wr w7 := Below.trans (by repeat (first | assumption | exact And.left (by assumption) | exact Below.refl _ _ | refine below_drew' ?_ | refine below_alloc' ?_ _)) hb7; clear hF7) | (refine step_extendF elemSlice rfl (.tmp 132) (.tmp 136) rfl wr.heap.size v7 (vss.take i) (.slice (some ⟨bs, offs + (i + 1), none⟩) (so.length - (i + 1)) (capso - (i + 1))) (vss.drop (i + 1)) rfl rfl (by with_reducible exact hown7) (HDr.out _ (by repeat (first | assumption | exact And.left (by assumption) | exact Below.refl _ _ | refine below_drew' ?_ | refine below_alloc' ?_ _))) HOD.out (by have := HTL.out; have := HDL.out; omega) (by have := HTL.out; have := HDL.out; unfold maxLen; omega) (Below.size (show Below wr.heap.size wr _ by repeat (first | assumption | exact And.left (by assumption) | exact Below.refl _ _ | refine below_drew' ?_ | refine below_alloc' ?_ _))) ?_; intro v8 w8 hown8 hb8 hF8; have hS8 : Below wr.heap.size wr w8 := Below.trans (show Below wr.heap.size wr _ by repeat (first | assumption | exact And.left (by assumption) | exact Below.refl _ _ | refine below_drew' ?_ | refine below_alloc' ?_ _)) hb8; clear hF8; have HV8 := Lib.hid (hown8.rdv.rd (HRe.out _ hS8))) | (go_at_call 12; refine (check_any n (so.eraseIdx i) pf _ _ _ HV8.out (HPc.out _ (by repeat (first | assumption | exact And.left (by assumption) | exact Below.refl _ _ | refine below_drew' ?_ | refine below_alloc' ?_ _))) (by have := List.length_eraseIdx_le so i; omega) (by omega)).mono ?_; rintro e w9 ⟨rfl, hb9⟩; have hS9 : Below wr.heap.size wr w9 := Below.trans (show Below wr.heap.size wr _ by repeat (first | assumption | exact And.left (by assumption) | exact Below.refl _ _ | refine below_drew' ?_ | refine below_alloc' ?_ _)) (hb9.mono (Below.size (show Below wr.heap.size wr _ by repeat (first | assumption | exact And.left (by assumption) | exact Below.refl _ _ | refine below_drew' ?_ | refine below_alloc' ?_ _))))))
              go_wp2_with fail
              go_roundg (so.length - (i + 1))
              case measure => omega
              case rel => exact ⟨i + 1, rfl, by omega, by go_num, hb.trans (hS9.mono hbs)⟩
          · have HBr := Lib.hid (HB6.out.trans (hb.mono HB6.out.size))
            have HP7 := Lib.hid (HP6.out.below (mono_rdl (mono_int _)) hb)
            have HT7 := Lib.hid (HT6.out.below (mono_rdl (mono_int _)) hb)
            have HC7 := Lib.hid (HC6.out.below (mono_rdl (mono_int _)) hb)
            clear hb HS6 HVS HRS HOS HLS HP6 HT6 HC6 HB6
            obtain ⟨W, hW⟩ : ∃ W, W = wr := ⟨_, rfl⟩
            subst hW
            obtain ⟨vts, hvts, hrts⟩ := HT7.out.vals
            obtain ⟨vps, hvps, hrps⟩ := HP7.out.vals
            have HVT := Lib.hid hvts
            have HRT := Lib.hid hrts
            have HOT := Lib.hid (reads_oneCell hrts)
            have HLT := Lib.hid hrts.1
            have HVP := Lib.hid hvps
            have HRP := Lib.hid hrps
            have HLP := Lib.hid hrps.1
            clear hvts hrts hvps hrps
            go_wp2_with fail
            clear hlt hi
            go_loopg [17, 18] tr.length (fun gh x y wr => ∃ (a k : Nat), gh = tr.length - k ∧ k ≤ tr.length ∧ x = .int .i64 a ∧ y = .int .i64 k ∧ a ≤ pf.length ∧ Hid ((tr.drop k).Sublist (pf.drop a)) ∧ Below W.heap.size W wr)
            case atStart => exact ⟨0, 0, by omega, by omega, rfl, rfl, by omega, HT1, Below.refl _ _⟩
            case round =>
              obtain ⟨a, k, rfl, hk, rfl, rfl, ha, HSub, hb⟩ := hrel
              by_cases hlt : k < tr.length
              · obtain ⟨wo, rfl⟩ : ∃ wo : World, wo = wr := ⟨_, rfl⟩
                obtain ⟨_, _, hev, -, -, hV3⟩ := HVT.out
                simp only [Value.slice.injEq] at hev
                obtain ⟨rfl, -, rfl⟩ := hev
                obtain ⟨bt, offt, rfl, hblt, hcellt⟩ := hV3 k (by have := HLT.out; omega)
                obtain ⟨aut, caput, hut, -⟩ := HRT.out.2 k (by have := HLT.out; omega) hlt
                have HRt : Hid (RdL (IntV .i64) W (.slice aut tr[k].length caput) tr[k]) := Lib.hid (by rw [← hut]; exact HRT.out.2 k _ hlt)
                rw [hut] at hcellt
                have hcon := (List.getElem_cons_drop hlt).symm
                have HCon := Lib.hid hcon
                clear hcon hut hV3
                generalize tr[k] = tk at *
                have hkk : (k : Int) < tr.length := by omega
                have hdk : decide (k < tr.length) = true := by rw [decide_eq_true_eq]; exact hlt
                go_wp2_with fail
                go_loopg [17] (pf.length - a) (fun gh x wr => ∃ (a : Nat), gh = pf.length - a ∧ x = .int .i64 a ∧ a ≤ pf.length ∧ Hid ((tr.drop k).Sublist (pf.drop a)) ∧ Below W.heap.size W wr)
                case atStart => exact ⟨a, rfl, rfl, by omega, HSub, hb⟩
                case round =>
                  clear hb HSub ha
                  clear a
                  obtain ⟨a, rfl, rfl, ha, HSub, hb⟩ := hrel
                  have hal : a < pf.length := by
                    refine Nat.lt_of_not_le fun h => ?_
                    have h1 := HSub.out
                    rw [List.drop_of_length_le h, HCon.out] at h1
                    cases h1
                  obtain ⟨_, _, hev, -, -, hV3⟩ := HVP.out
                  simp only [Value.slice.injEq] at hev
                  obtain ⟨rfl, -, rfl⟩ := hev
                  obtain ⟨bp, offp, rfl, hblp, hcellp⟩ := hV3 a (by have := HLP.out; omega)
                  obtain ⟨aup, capup, hup, -⟩ := HRP.out.2 a (by have := HLP.out; omega) hal
                  have HRp : Hid (RdL (IntV .i64) W (.slice aup pf[a].length capup) pf[a]) := Lib.hid (by rw [← hup]; exact HRP.out.2 a _ hal)
                  rw [hup] at hcellp
                  have HCop := Lib.hid (List.getElem_cons_drop hal).symm
                  clear hup hV3
                  generalize pf[a] = pa at *
                  have hbs := hb.size
                  have HA : Hid (∀ X, Below wr.heap.size wr X → RdL (IntV .i64) X (.slice aup pa.length capup) pa) := Lib.hid (fun X hX => HRp.out.below (mono_int _) (hb.trans (hX.mono hbs)))
                  have HB : Hid (∀ X, Below wr.heap.size wr X → RdL (IntV .i64) X (.slice aut tk.length caput) tk) := Lib.hid (fun X hX => HRt.out.below (mono_int _) (hb.trans (hX.mono hbs)))
                  have HK : Hid (∀ X, Below wr.heap.size wr X → Below wr.heap.size wr X ∧ X.cell? ⟨bp, offp + a, none⟩ = some (.slice aup pa.length capup) ∧ X.cell? ⟨bt, offt + k, none⟩ = some (.slice aut tk.length caput)) := Lib.hid (fun X hX => ⟨hX, ((hb.trans (hX.mono hbs)).cell (p := ⟨bp, offp + a, none⟩) hblp).trans hcellp, ((hb.trans (hX.mono hbs)).cell (p := ⟨bt, offt + k, none⟩) hblt).trans hcellt⟩)
                  have haa : (a : Int) < pf.length := by omega
                  have hda : decide (a < pf.length) = true := by rw [decide_eq_true_eq]; exact hal
                  clear hcellp hcellt
                  by_cases hsame : pa = tk
                  · have HSm := Lib.hid hsame
                    have hsb : decide (pa = tk) = true := decide_eq_true hsame
                    have HSub3 : Hid ((tr.drop (k + 1)).Sublist (pf.drop (a + 1))) := Lib.hid (by
                      have h1 := HSub.out
                      rw [HCop.out, HCon.out] at h1
                      cases h1 with
                      | cons _ h => exact (List.sublist_cons_self _ _).trans h
                      | cons_cons _ h => exact h)
                    clear hsame
                    go_wp2_with fail
                    go_region_held3 (fun w' => Below wr.heap.size wr w' ∧ w'.cell? ⟨bp, offp + a, none⟩ = some (.slice aup pa.length capup) ∧ w'.cell? ⟨bt, offt + k, none⟩ = some (.slice aut tk.length caput)) ((refine HK.out _ ?_; repeat (first | assumption | exact And.left (by assumption) | exact Below.refl _ _ | refine below_drew' ?_ | refine below_alloc' ?_ _))) (first | (go_at_call 19; refine (sameInts_any pa tk _ _ _ (HA.out _ (by repeat (first | assumption | exact And.left (by assumption) | exact Below.refl _ _ | refine below_drew' ?_ | refine below_alloc' ?_ _))) (HB.out _ (by repeat (first | assumption | exact And.left (by assumption) | exact Below.refl _ _ | refine below_drew' ?_ | refine below_alloc' ?_ _)))).mono ?_; rw [hsb]; rintro e w10 ⟨rfl, hb10⟩; have hS10 : Below wr.heap.size wr w10 := Below.trans (show Below wr.heap.size wr _ by repeat (first | assumption | exact And.left (by assumption) | exact Below.refl _ _ | refine below_drew' ?_ | refine below_alloc' ?_ _)) (hb10.mono (Below.size (show Below wr.heap.size wr _ by repeat (first | assumption | exact And.left (by assumption) | exact Below.refl _ _ | refine below_drew' ?_ | refine below_alloc' ?_ _))))))
                    have hb10W : Below W.heap.size W w10 := hb.trans (hS10.mono hbs)
                    have hbs10 := hb10W.size
                    have hda1 : decide (pf.length < a + 1) = false := by rw [decide_eq_false_iff_not]; omega
                    have hw0 : IntKind.i64.wrap ((tr.length : Int) - 1) = (tr.length : Int) - 1 := IntWalk.i64_in _ (by omega)
                    by_cases hk1 : k + 1 < tr.length
                    · have hdk1 : decide ((k : Int) < (tr.length : Int) - 1) = true := by rw [decide_eq_true_eq]; omega
                      have hcapt : tr.length ≤ captr := by obtain ⟨_, _, h1, h2, _⟩ := HVT.out; simp only [Value.slice.injEq] at h1; have := HLT.out; omega
                      have HVT2 : Hid (RdV W (.slice (some ⟨bt, offt, none⟩) vts.length captr) vts) := Lib.hid (by rw [HLT.out]; exact HVT.out)
                      have HT : Hid (∀ X, Below w10.heap.size w10 X → RdV X (.slice (some ⟨bt, offt, none⟩) k captr) (vts.take k)) := Lib.hid (fun X hX => (HVT2.out.take k (by have := HLT.out; omega)).below (hb10W.trans (hX.mono hbs10)))
                      have HDr : Hid (∀ X, Below w10.heap.size w10 X → RdV X (.slice (some ⟨bt, offt + (k + 1), none⟩) (tr.length - (k + 1)) (captr - (k + 1))) (vts.drop (k + 1))) := Lib.hid (fun X hX => by
                        have h1 := (HVT2.out.drop (k + 1) (by have := HLT.out; omega)).below (hb10W.trans (hX.mono hbs10))
                        rw [if_neg (by omega), HLT.out] at h1
                        exact h1)
                      have HOTt : Hid (∀ u ∈ vts.take k, u.oneCell' = true) := Lib.hid (fun u hu => HOT.out u (List.mem_of_mem_take hu))
                      have HOD : Hid (∀ u ∈ vts.drop (k + 1), u.oneCell' = true) := Lib.hid (fun u hu => HOT.out u (List.mem_of_mem_drop hu))
                      have HTL : Hid ((vts.take k).length = k) := Lib.hid (by have := HLT.out; simp; omega)
                      have HDL : Hid ((vts.drop (k + 1)).length = tr.length - (k + 1)) := Lib.hid (by have := HLT.out; simp; omega)
                      have HCc : Hid (∀ X, Below w10.heap.size w10 X → RdL (RdL (IntV .i64)) X (.slice ac cs.length capc) cs) := Lib.hid (fun X hX => HC7.out.below (mono_rdl (mono_int _)) (hb10W.trans (hX.mono hbs10)))
                      have HRe : Hid (∀ X, Below w10.heap.size w10 X → Reads (RdL (IntV .i64)) X (vts.take k ++ vts.drop (k + 1)) (tr.eraseIdx k)) := Lib.hid (fun X hX => by rw [← List.eraseIdx_eq_take_drop_succ]; exact (HRT.out.erase k).mono (mono_rdl (mono_int _)) (hb10W.trans (hX.mono hbs10)))
                      have hj1 : (k : Int) ≤ captr := by omega
                      have hj2 : (k : Int) + 1 ≤ tr.length := by omega
                      have hj3 : (tr.length : Int) ≤ captr := by omega
                      have hj4 : (0 : Int) ≤ k := by omega
                      have hj6 : (0 : Int) ≤ (k : Int) + 1 := by omega
                      have hj7 : (k : Int) + 1 ≤ captr := by omega
                      have hj8 : (k : Int) ≤ tr.length := by omega
                      have hj9 : ¬ captr = k + 1 := by omega
                      have hw1 : IntKind.i64.wrap ((k : Int) + 1) = (k : Int) + 1 := IntWalk.i64_in _ (by omega)
                      have hne : (checkS n cs (tr.eraseIdx k) == 0) = false := by rw [beq_eq_false_iff_ne]; exact HT3.out k hk1
                      go_wp2_with fail
                      go_region_held3 (fun w' => Below w10.heap.size w10 w') ((repeat (first | assumption | exact And.left (by assumption) | exact Below.refl _ _ | refine below_drew' ?_ | refine below_alloc' ?_ _))) (first | (refine step_extendW elemSlice rfl (.tmp 179) (.tmp 182) rfl w10.heap.size (.slice (some ⟨w10.heap.size, 0, none⟩) 0 0) [] (.slice (some ⟨bt, offt, none⟩) k _) (vts.take k) rfl rfl (by with_reducible exact (lit0 w10 w10.heap.size _ (Nat.le_refl _)).drew) (HT.out _ (by repeat (first | assumption | exact And.left (by assumption) | exact Below.refl _ _ | refine below_drew' ?_ | refine below_alloc' ?_ _))) HOTt.out (by have := HTL.out; simp only [List.length_nil]; omega) (by have := HTL.out; unfold maxLen; simp only [List.length_nil]; omega) (by simp <;> omega) ?_; rw [List.nil_append]; intro v11 w11 hown11 hb11 hF11; have hS11 : Below w10.heap.size w10 w11 := Below.trans (by repeat (first | assumption | exact And.left (by assumption) | exact Below.refl _ _ | refine below_drew' ?_ | refine below_alloc' ?_ _)) hb11; clear hF11) | (refine step_extendW elemSlice rfl (.tmp 183) (.tmp 187) rfl w10.heap.size v11 (vts.take k) (.slice (some ⟨bt, offt + (k + 1), none⟩) (tr.length - (k + 1)) (captr - (k + 1))) (vts.drop (k + 1)) rfl rfl (by with_reducible exact hown11) (HDr.out _ (by repeat (first | assumption | exact And.left (by assumption) | exact Below.refl _ _ | refine below_drew' ?_ | refine below_alloc' ?_ _))) HOD.out (by have := HTL.out; have := HDL.out; omega) (by have := HTL.out; have := HDL.out; unfold maxLen; omega) (Below.size (show Below w10.heap.size w10 _ by repeat (first | assumption | exact And.left (by assumption) | exact Below.refl _ _ | refine below_drew' ?_ | refine below_alloc' ?_ _))) ?_; intro v12 w12 hown12 hb12 hF12; have hS12 : Below w10.heap.size w10 w12 := Below.trans (show Below w10.heap.size w10 _ by repeat (first | assumption | exact And.left (by assumption) | exact Below.refl _ _ | refine below_drew' ?_ | refine below_alloc' ?_ _)) hb12; clear hF12; have HV12 := Lib.hid (hown12.rdv.rd (HRe.out _ hS12))) | (go_simp; go_at_call 12; refine (check_any n cs (tr.eraseIdx k) _ _ _ (HCc.out _ (by repeat (first | assumption | exact And.left (by assumption) | exact Below.refl _ _ | refine below_drew' ?_ | refine below_alloc' ?_ _))) HV12.out (by omega) (by have := List.length_eraseIdx_le tr k; omega)).mono ?_; rintro e w13 ⟨rfl, hb13⟩; have hS13 : Below w10.heap.size w10 w13 := Below.trans (show Below w10.heap.size w10 _ by repeat (first | assumption | exact And.left (by assumption) | exact Below.refl _ _ | refine below_drew' ?_ | refine below_alloc' ?_ _)) (hb13.mono (Below.size (show Below w10.heap.size w10 _ by repeat (first | assumption | exact And.left (by assumption) | exact Below.refl _ _ | refine below_drew' ?_ | refine below_alloc' ?_ _))))))
                      go_wp2_with fail
                      go_roundg (tr.length - (k + 1))
                      case measure => omega
                      case rel => exact ⟨a + 1, k + 1, rfl, by omega, by go_num, by go_num, by omega, HSub3, hb10W.trans (hS13.mono hbs10)⟩
                    · have hdk1 : decide ((k : Int) < (tr.length : Int) - 1) = false := by rw [decide_eq_false_iff_not]; omega
                      go_wp2_with fail
                      go_quiet (fail)
                      go_wp2_with fail
                      go_roundg (tr.length - (k + 1))
                      case measure => omega
                      case rel => exact ⟨a + 1, k + 1, rfl, by omega, by go_num, by go_num, by omega, HSub3, hb10W.trans ((below_drewN (Below.refl w10.heap.size w10) nq).mono hbs10)⟩
                  · have hsb : decide (pa = tk) = false := decide_eq_false hsame
                    have HSub2 : Hid ((tr.drop k).Sublist (pf.drop (a + 1))) := Lib.hid (by
                      have h1 := HSub.out
                      rw [HCop.out, HCon.out] at h1
                      rw [HCon.out]
                      cases h1 with
                      | cons _ h => exact h
                      | cons_cons _ h => exact absurd rfl hsame)
                    clear hsame
                    go_wp2_with fail
                    go_region_held3 (fun w' => Below wr.heap.size wr w' ∧ w'.cell? ⟨bp, offp + a, none⟩ = some (.slice aup pa.length capup) ∧ w'.cell? ⟨bt, offt + k, none⟩ = some (.slice aut tk.length caput)) ((refine HK.out _ ?_; repeat (first | assumption | exact And.left (by assumption) | exact Below.refl _ _ | refine below_drew' ?_ | refine below_alloc' ?_ _))) (first | (go_at_call 19; refine (sameInts_any pa tk _ _ _ (HA.out _ (by repeat (first | assumption | exact And.left (by assumption) | exact Below.refl _ _ | refine below_drew' ?_ | refine below_alloc' ?_ _))) (HB.out _ (by repeat (first | assumption | exact And.left (by assumption) | exact Below.refl _ _ | refine below_drew' ?_ | refine below_alloc' ?_ _)))).mono ?_; rw [hsb]; rintro e w10 ⟨rfl, hb10⟩; have hS10 : Below wr.heap.size wr w10 := Below.trans (show Below wr.heap.size wr _ by repeat (first | assumption | exact And.left (by assumption) | exact Below.refl _ _ | refine below_drew' ?_ | refine below_alloc' ?_ _)) (hb10.mono (Below.size (show Below wr.heap.size wr _ by repeat (first | assumption | exact And.left (by assumption) | exact Below.refl _ _ | refine below_drew' ?_ | refine below_alloc' ?_ _))))))
                    go_wp2_with fail
                    go_roundg (pf.length - (a + 1))
                    case measure => omega
                    case rel => exact ⟨a + 1, rfl, by go_num, by omega, HSub2, hb.trans (hS10.mono hbs)⟩
              · have HBr := Lib.hid (HBr.out.trans (hb.mono HBr.out.size))
                go_wp2_with fail
                refine (lives_any _).mono ?_
                rintro e w13 ⟨rfl, hb13⟩
                go_wp2_with fail
                go_ret
                exact ⟨rfl, HBr.out.trans (hb13.mono HBr.out.size)⟩
  · have hE1 : coreS n cs pf = [] := by unfold coreS; rw [if_neg hz]
    have hE2 : trimS n cs pf = [] := by unfold trimS; rw [if_neg hz]
    have hzb : (checkS n cs pf != 0) = true := by simpa using hz
    rw [hE1, hE2]
    clear hz hE1 hE2 HCO HTR
    go_wp2_with fail
    refine (lives_any _).mono ?_
    rintro e w13 ⟨rfl, hb13⟩
    go_wp2_with fail
    go_ret
    exact ⟨rfl, HBW.out.trans (hb13.mono HBW.out.size)⟩
end Go.Proofs.Ythagkljenbhbdaa
