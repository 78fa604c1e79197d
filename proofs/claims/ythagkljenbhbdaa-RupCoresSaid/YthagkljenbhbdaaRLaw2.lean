/-
  The walk of the law RupCores: it returns true.
-/
import Derived.Test.YthagkljenbhbdaaRLaw1
import Derived.Test.YthagkljenbhbdaaRCore2
namespace Go.Proofs.Ythagkljenbhbdaa
open Go Go.RowKit

theorem drewL {w w' : World} (h : Below w.drew.heap.size w.drew w') : Below w.heap.size w w' := ((Below.refl w.heap.size w).drew).trans h
set_option maxRecDepth 100000 in
set_option maxHeartbeats 4000000 in
theorem cores_law (l m : List Int) (many at_ how by_ : Int) (vl vm : Value) (w : World) (hl : RdL (IntV .i64) w vl l) (hm : RdL (IntV .i64) w vm m)
    (hli : ∀ x ∈ l, I64 x) (hmi : ∀ x ∈ m, I64 x) (h1 : I64 many) (h2 : I64 at_) (h3 : I64 how) (h4 : I64 by_) :
    Calls Try.prog 4 #[vl, vm, .int .i64 many, .int .i64 at_, .int .i64 how, .int .i64 by_] w fun e w' => e = .returned (.bool true) ∧ Below w.heap.size w w' := by
  have HD := Lib.hid (drawn_any l m many vl vm w hl hm hli hmi h1)
  have H2 := Lib.hid h2
  have H3 := Lib.hid h3
  have H4 := Lib.hid h4
  obtain ⟨al, capl, rfl, -⟩ := hl
  obtain ⟨am, capm, rfl, -⟩ := hm
  clear hli hmi h1 h2 h3 h4
  go_enter Try.func4, Try.ntmps4
  go_wp2_with fail
  refine (HD.out).mono ?_
  rintro e w1 ⟨vc, vp, n, cs, pr, rfl, hn, hc, hp, hgc, hgp, hcl, hpl, hb1⟩
  have hpl2 : (pr ++ [[]]).length ≤ 19 := by simp; omega
  have hgp2 := goodL_empty hgp
  generalize pr ++ [[]] = pf at *
  have HC := Lib.hid hc
  have HP := Lib.hid hp
  have HGC := Lib.hid hgc
  have HGP := Lib.hid hgp2
  obtain ⟨ac, capc, rfl, -⟩ := hc
  obtain ⟨ap, capp, rfl, -⟩ := hp
  clear hgc hgp hgp2 HD hpl
  go_wp2_with fail
  refine (spoilt_any cs 4 at_ how by_ _ _ HC.out H2.out H3.out H4.out (by omega) (by omega) HGC.out.len4 (HGC.out.i64 hn.2)).mono ?_
  rintro e w2 ⟨vx, xs, rfl, hx, hxl, -, -, hb2⟩
  have HX := Lib.hid hx
  obtain ⟨ax, capx, rfl, -⟩ := hx
  have HP2 := Lib.hid (HP.out.below (mono_rdl (mono_int _)) hb2)
  have HCs := Lib.hid (Reads.cons (HC.out.below (mono_rdl (mono_int _)) hb2) (Reads.cons HX.out (Reads.nil _)))
  go_wp2_with fail
  refine calls_gen ?_
  intro W hW
  have HWb : Hid (Below w2.heap.size w2 W) := Lib.hid (by rw [hW]; exact (Below.refl _ _).alloc (Nat.le_refl _) _)
  have HLs : Hid (RdL (RdL (RdL (IntV .i64))) W (.slice (some ⟨w2.heap.size, 0, none⟩) 2 2) [cs, xs]) := Lib.hid (lit_rd (mono_rdl (mono_rdl (mono_int .i64))) _ hW rfl rfl HCs.out (by simp))
  clear hW
  have HP3 := Lib.hid (HP2.out.below (mono_rdl (mono_int _)) HWb.out)
  refine (spoilt_any pf 4 by_ at_ how _ W HP3.out H4.out H2.out H3.out (by omega) (by omega) HGP.out.len4 (HGP.out.i64 hn.2)).mono ?_
  rintro e w3 ⟨vy, ys, rfl, hy, hyl, -, -, hb3⟩
  have HY := Lib.hid hy
  obtain ⟨ay, capy, rfl, -⟩ := hy
  have HPs := Lib.hid (Reads.cons (HP3.out.below (mono_rdl (mono_int _)) hb3) (Reads.cons HY.out (Reads.nil _)))
  obtain ⟨W2, hW2⟩ : ∃ W2, W2 = w3.alloc (.cells #[.slice ap pf.length capp, .slice ay ys.length capy] 23) := ⟨_, rfl⟩
  have HPF : Hid (RdL (RdL (RdL (IntV .i64))) W2 (.slice (some ⟨w3.heap.size, 0, none⟩) 2 2) [pf, ys]) := Lib.hid (lit_rd (mono_rdl (mono_rdl (mono_int .i64))) _ hW2 rfl rfl HPs.out (by simp))
  have HB3W : Hid (Below w3.heap.size w3 W2) := Lib.hid (by rw [hW2]; exact (Below.refl _ _).alloc (Nat.le_refl _) _)
  have HL : Hid (RdL (RdL (RdL (IntV .i64))) W2 (.slice (some ⟨w2.heap.size, 0, none⟩) 2 2) [cs, xs]) := Lib.hid (HLs.out.below (mono_rdl (mono_rdl (mono_int _))) (hb3.trans (HB3W.out.mono hb3.size)))
  have HBW : Hid (Below w.heap.size w W2) := Lib.hid (hb1.trans ((hb2.trans ((HWb.out.trans ((hb3.trans (HB3W.out.mono hb3.size)).mono HWb.out.size)).mono hb2.size)).mono hb1.size))
  have HW2 := Lib.hid hW2
  clear hW2
  go_wp2_with fail
  rw [← HW2.out]
  have HLL : Hid (∀ c ∈ [cs, xs], c.length ≤ 1000) := Lib.hid (by simp; omega)
  have HPL : Hid (∀ c ∈ [pf, ys], c.length ≤ 1000) := Lib.hid (by simp; omega)
  clear hcl hpl2 hxl hyl HW2 HWb HLs HPs HCs HB3W hb3 hb2 hb1 HC HP HX HY HP2 HP3 H2 H3 H4 HGC HGP
  generalize [cs, xs] = L at HL HLL
  generalize [pf, ys] = PF at HPF HPL
  obtain ⟨hL2, hLa⟩ := HL.out.at
  obtain ⟨hP2, hPa⟩ := HPF.out.at
  have HLA := Lib.hid hLa
  have HPA := Lib.hid hPa
  have HL2 := Lib.hid hL2
  have HP2 := Lib.hid hP2
  clear hLa hPa hL2 hP2
  go_loopg [18] 2 (fun gh i wr => ∃ (k : Nat), gh = 2 - k ∧ i = .int .i64 k ∧ k ≤ 2 ∧ Below W2.heap.size W2 wr)
  case atStart => exact ⟨0, by omega, rfl, by omega, Below.refl _ _⟩
  case round =>
    obtain ⟨i, rfl, rfl, hi, hbr⟩ := hrel
    by_cases hlt : i < 2
    · obtain ⟨uA, hgA, hcA0, hrA⟩ := HLA.out i (by have := HL2.out; omega)
      have HLEN := Lib.hid (HLL.out _ (List.getElem_mem (show i < L.length by have := HL2.out; omega)))
      generalize L[i] = la at *
      have hla := HLEN.out
      have HRA := Lib.hid hrA
      obtain ⟨aA, capA, rfl, -⟩ := hrA
      obtain ⟨wo, rfl⟩ : ∃ wo : World, wo = wr := ⟨_, rfl⟩
      have hi5 : (i : Int) < 2 := by omega
      have hdi : decide ((i : Int) < 2) = true := by rw [decide_eq_true_eq]; omega
      go_wp2_with fail
      go_loopg [19] 2 (fun gh j wr => ∃ (k : Nat), gh = 2 - k ∧ j = .int .i64 k ∧ k ≤ 2 ∧ Below W2.heap.size W2 wr)
      case atStart => exact ⟨0, by omega, rfl, by omega, hbr⟩
      case round =>
        clear hbr
        obtain ⟨k, rfl, rfl, hk, hbr⟩ := hrel
        by_cases hlt2 : k < 2
        · obtain ⟨uB, hgB, hcB0, hrB⟩ := HPA.out k (by have := HP2.out; omega)
          have HLEN2 := Lib.hid (HPL.out _ (List.getElem_mem (show k < PF.length by have := HP2.out; omega)))
          generalize PF[k] = lb at *
          have hlb := HLEN2.out
          have HRB := Lib.hid hrB
          obtain ⟨aB, capB, rfl, -⟩ := hrB
          have hbs := hbr.size
          have HA : Hid (∀ W, Below wr.heap.size wr W → RdL (RdL (IntV .i64)) W (.slice aA la.length capA) la) := Lib.hid (fun W hW => HRA.out.below (mono_rdl (mono_int _)) (hbr.trans (hW.mono hbs)))
          have HB : Hid (∀ W, Below wr.heap.size wr W → RdL (RdL (IntV .i64)) W (.slice aB lb.length capB) lb) := Lib.hid (fun W hW => HRB.out.below (mono_rdl (mono_int _)) (hbr.trans (hW.mono hbs)))
          have HK : Hid (∀ W, Below wr.heap.size wr W → Below wr.heap.size wr W ∧ W.cell? ⟨w2.heap.size, i, none⟩ = some (.slice aA la.length capA) ∧ W.cell? ⟨w3.heap.size, k, none⟩ = some (.slice aB lb.length capB)) := Lib.hid (fun W hW => ⟨hW, ((hbr.trans (hW.mono hbs)).cell (p := ⟨w2.heap.size, i, none⟩) hgA).trans hcA0, ((hbr.trans (hW.mono hbs)).cell (p := ⟨w3.heap.size, k, none⟩) hgB).trans hcB0⟩)
          clear hcA0 hcB0
          go_wp2_with fail
          go_region_held3 (fun w' => Below wr.heap.size wr w' ∧ w'.cell? ⟨w2.heap.size, i, none⟩ = some (.slice aA la.length capA) ∧ w'.cell? ⟨w3.heap.size, k, none⟩ = some (.slice aB lb.length capB)) ((refine HK.out _ ?_; repeat (first | assumption | exact And.left (by assumption) | exact Below.refl _ _ | refine below_drew' ?_ | refine below_alloc' ?_ _))) (first | (go_at_call 15; refine (core_any _ _ _ _ _ _ (HA.out _ (by repeat (first | assumption | exact And.left (by assumption) | exact Below.refl _ _ | refine below_drew' ?_ | refine below_alloc' ?_ _))) (HB.out _ (by repeat (first | assumption | exact And.left (by assumption) | exact Below.refl _ _ | refine below_drew' ?_ | refine below_alloc' ?_ _))) (by omega) (by omega)).mono ?_; rintro e w7 ⟨v1, rfl, hr1, hb7⟩; have hS7 : Below wr.heap.size wr w7 := Below.trans (show Below wr.heap.size wr _ by repeat (first | assumption | exact And.left (by assumption) | exact Below.refl _ _ | refine below_drew' ?_ | refine below_alloc' ?_ _)) (hb7.mono (Below.size (show Below wr.heap.size wr _ by repeat (first | assumption | exact And.left (by assumption) | exact Below.refl _ _ | refine below_drew' ?_ | refine below_alloc' ?_ _))))))
          have HR1 := Lib.hid hr1
          clear hr1
          obtain ⟨a1, cap1, rfl, -⟩ := HR1.out
          go_wp2_with fail
          go_region_held3 (fun w' => Below wr.heap.size wr w' ∧ w'.cell? ⟨w2.heap.size, i, none⟩ = some (.slice aA la.length capA) ∧ w'.cell? ⟨w3.heap.size, k, none⟩ = some (.slice aB lb.length capB)) ((refine HK.out _ ?_; repeat (first | assumption | exact And.left (by assumption) | exact Below.refl _ _ | refine below_drew' ?_ | refine below_alloc' ?_ _))) (first | (go_at_call 16; refine (rcore_any _ _ _ _ _ _ (HA.out _ (by repeat (first | assumption | exact And.left (by assumption) | exact Below.refl _ _ | refine below_drew' ?_ | refine below_alloc' ?_ _))) (HB.out _ (by repeat (first | assumption | exact And.left (by assumption) | exact Below.refl _ _ | refine below_drew' ?_ | refine below_alloc' ?_ _))) (by omega) (by omega)).mono ?_; rintro e w8 ⟨v2, rfl, hr2, hb8⟩; have hS8 : Below wr.heap.size wr w8 := Below.trans (show Below wr.heap.size wr _ by repeat (first | assumption | exact And.left (by assumption) | exact Below.refl _ _ | refine below_drew' ?_ | refine below_alloc' ?_ _)) (hb8.mono (Below.size (show Below wr.heap.size wr _ by repeat (first | assumption | exact And.left (by assumption) | exact Below.refl _ _ | refine below_drew' ?_ | refine below_alloc' ?_ _))))))
          have HR2 := Lib.hid hr2
          clear hr2
          obtain ⟨a2, cap2, rfl, -⟩ := HR2.out
          go_wp2_with fail
          go_region_held3 (fun w' => Below wr.heap.size wr w' ∧ w'.cell? ⟨w2.heap.size, i, none⟩ = some (.slice aA la.length capA) ∧ w'.cell? ⟨w3.heap.size, k, none⟩ = some (.slice aB lb.length capB)) ((refine HK.out _ ?_; repeat (first | assumption | exact And.left (by assumption) | exact Below.refl _ _ | refine below_drew' ?_ | refine below_alloc' ?_ _))) (first | (go_at_call 17; refine (trim_any _ _ _ _ _ _ (HA.out _ (by repeat (first | assumption | exact And.left (by assumption) | exact Below.refl _ _ | refine below_drew' ?_ | refine below_alloc' ?_ _))) (HB.out _ (by repeat (first | assumption | exact And.left (by assumption) | exact Below.refl _ _ | refine below_drew' ?_ | refine below_alloc' ?_ _))) (by omega) (by omega)).mono ?_; rintro e w9 ⟨v3, rfl, hr3, hb9⟩; have hS9 : Below wr.heap.size wr w9 := Below.trans (show Below wr.heap.size wr _ by repeat (first | assumption | exact And.left (by assumption) | exact Below.refl _ _ | refine below_drew' ?_ | refine below_alloc' ?_ _)) (hb9.mono (Below.size (show Below wr.heap.size wr _ by repeat (first | assumption | exact And.left (by assumption) | exact Below.refl _ _ | refine below_drew' ?_ | refine below_alloc' ?_ _))))))
          have HR3 := Lib.hid hr3
          clear hr3
          obtain ⟨a3, cap3, rfl, -⟩ := HR3.out
          go_wp2_with fail
          go_region_held3 (fun w' => Below wr.heap.size wr w' ∧ w'.cell? ⟨w2.heap.size, i, none⟩ = some (.slice aA la.length capA) ∧ w'.cell? ⟨w3.heap.size, k, none⟩ = some (.slice aB lb.length capB)) ((refine HK.out _ ?_; repeat (first | assumption | exact And.left (by assumption) | exact Below.refl _ _ | refine below_drew' ?_ | refine below_alloc' ?_ _))) (first | (go_at_call 18; refine (rtrim_any _ _ _ _ _ _ (HA.out _ (by repeat (first | assumption | exact And.left (by assumption) | exact Below.refl _ _ | refine below_drew' ?_ | refine below_alloc' ?_ _))) (HB.out _ (by repeat (first | assumption | exact And.left (by assumption) | exact Below.refl _ _ | refine below_drew' ?_ | refine below_alloc' ?_ _))) (by omega) (by omega)).mono ?_; rintro e w10 ⟨v4, rfl, hr4, hb10⟩; have hS10 : Below wr.heap.size wr w10 := Below.trans (show Below wr.heap.size wr _ by repeat (first | assumption | exact And.left (by assumption) | exact Below.refl _ _ | refine below_drew' ?_ | refine below_alloc' ?_ _)) (hb10.mono (Below.size (show Below wr.heap.size wr _ by repeat (first | assumption | exact And.left (by assumption) | exact Below.refl _ _ | refine below_drew' ?_ | refine below_alloc' ?_ _))))))
          have HR4 := Lib.hid hr4
          clear hr4
          obtain ⟨a4, cap4, rfl, -⟩ := HR4.out
          go_wp2_with fail
          have hz7 := hS7.size
          have hz8 := hS8.size
          have hz9 := hS9.size
          have R1 := HR1.out.below (mono_int _) ((drewL hb8).trans (((drewL hb9).trans ((drewL hb10).mono (drewL hb9).size)).mono (drewL hb8).size))
          have R2 := HR2.out.below (mono_int _) ((drewL hb9).trans ((drewL hb10).mono (drewL hb9).size))
          have R3 := HR3.out.below (mono_rdl (mono_int _)) (drewL hb10)
          refine (sameInts_any (coreS n la lb) (coreS n la lb) _ _ _ R1 R2).mono ?_
          rw [decide_eq_true rfl]
          rintro e w11 ⟨rfl, hb11⟩
          have R5 := Lib.hid (R3.below (mono_rdl (mono_int _)) hb11)
          have R6 := Lib.hid (HR4.out.below (mono_rdl (mono_int _)) hb11)
          clear R1 R2 R3
          go_wp2_with fail
          refine (same_any (trimS n la lb) (trimS n la lb) _ _ _ R5.out R6.out).mono ?_
          rw [decide_eq_true rfl]
          rintro e w12 ⟨rfl, hb12⟩
          go_wp2_with fail
          go_roundg (2 - (k + 1))
          case measure => omega
          case rel => exact ⟨k + 1, rfl, by go_num, by omega, hbr.trans ((hS10.trans ((hb11.trans (hb12.mono hb11.size)).mono hS10.size)).mono hbs)⟩
        · go_wp2_with fail
          go_roundg (2 - (i + 1))
          case measure => omega
          case rel => exact ⟨i + 1, rfl, by go_num, by omega, hbr⟩
    · have HBR := Lib.hid (HBW.out.trans (hbr.mono HBW.out.size))
      clear hbr
      go_wp2_with fail
      refine (lives_any _).mono ?_
      rintro e w9 ⟨rfl, hb9⟩
      go_wp2_with fail
      go_ret
      exact ⟨rfl, HBR.out.trans (hb9.mono HBR.out.size)⟩
end Go.Proofs.Ythagkljenbhbdaa
