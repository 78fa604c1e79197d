/-
  The walk of the law RupNames: it returns true.
-/
import Derived.Test.YthagkljenbhbdaaRTheory4
namespace Go.Proofs.Ythagkljenbhbdaa
open Go Go.RowKit

theorem trim_mem {n : Nat} {cs pr : List (List Int)} (hn : n ≤ 5) (hc : GoodL n cs) (hp : GoodL n pr) (hl : cs.length + pr.length ≤ 16384) : ∀ c ∈ trimS n cs pr, c ∈ pr := by
  intro c hx
  by_cases h : checkS n cs pr = 0
  · exact (trim_least hn hc hp hl h).1.subset hx
  · unfold trimS at hx; rw [if_neg h] at hx; simp at hx
theorem trim_len {n : Nat} {cs pr : List (List Int)} (hn : n ≤ 5) (hc : GoodL n cs) (hp : GoodL n pr) (hl : cs.length + pr.length ≤ 16384) : (trimS n cs pr).length ≤ pr.length := by
  by_cases h : checkS n cs pr = 0
  · exact (trim_least hn hc hp hl h).1.length_le
  · unfold trimS; rw [if_neg h]; simp

set_option maxRecDepth 100000 in
set_option maxHeartbeats 4000000 in
theorem names_law (l m : List Int) (many by_ : Int) (vl vm : Value) (w : World) (hl : RdL (IntV .i64) w vl l) (hm : RdL (IntV .i64) w vm m)
    (hli : ∀ x ∈ l, I64 x) (hmi : ∀ x ∈ m, I64 x) (h1 : I64 many) (h2 : I64 by_) :
    Calls Try.prog 7 #[vl, vm, .int .i64 many, .int .i64 by_] w fun e w' => e = .returned (.bool true) ∧ Below w.heap.size w w' := by
  have HD := Lib.hid (drawn_any l m many vl vm w hl hm hli hmi h1)
  have H2 := Lib.hid h2
  obtain ⟨al, capl, rfl, -⟩ := hl
  obtain ⟨am, capm, rfl, -⟩ := hm
  clear hli hmi h1 h2
  go_enter Try.func7, Try.ntmps7
  go_wp2_with fail
  refine (HD.out).mono ?_
  rintro e w1 ⟨vc, vp, n, cs, pr, rfl, hn, hc, hp, hgc, hgp, hcl, hpl, hb1⟩
  have hpl2 : (pr ++ [[]]).length ≤ 19 := by simp; omega
  have hgp2 := goodL_empty hgp
  generalize pr ++ [[]] = pf at *
  have HC := Lib.hid hc
  have HP := Lib.hid hp
  have HGC := Lib.hid hgc
  have HGP := Lib.hid hgp2
  obtain ⟨ac, capc, rfl, -⟩ := hc
  obtain ⟨ap, capp, rfl, -⟩ := hp
  clear hgc hgp hgp2 HD hpl
  have hpp : 1 ≤ renP n by_ ∧ renP n by_ ≤ n := by
    have a1 := Int.emod_nonneg (by_.tmod n) (show (n : Int) ≠ 0 by omega)
    have a2 := Int.emod_lt_of_pos (by_.tmod n) (show (0 : Int) < n by omega)
    unfold renP; omega
  go_wp2_with fail
  refine (renamed_any n cs by_ _ _ HC.out (by omega) HGC.out.allZ (by omega) (fun c hc => by have := HGC.out.len4 c hc; omega) H2.out).mono ?_
  rintro e w2 ⟨vx, rfl, hx, hb2⟩
  have HX := Lib.hid hx
  have HP2 := Lib.hid (HP.out.below (mono_rdl (mono_int _)) hb2)
  obtain ⟨ax, capx, rfl, -⟩ := hx
  go_wp2_with fail
  refine (renamed_any n pf by_ _ _ HP2.out (by omega) HGP.out.allZ (by omega) (fun c hc => by have := HGP.out.len4 c hc; omega) H2.out).mono ?_
  rintro e w3 ⟨vy, rfl, hy, hb3⟩
  have HY := Lib.hid hy
  obtain ⟨ay, capy, rfl, -⟩ := hy
  have hb13 := hb2.trans (hb3.mono hb2.size)
  have HC3 := Lib.hid (HC.out.below (mono_rdl (mono_int _)) hb13)
  have HP3 := Lib.hid (HP2.out.below (mono_rdl (mono_int _)) hb3)
  have HX3 := Lib.hid (HX.out.below (mono_rdl (mono_int _)) hb3)
  have HB3 := Lib.hid (hb1.trans (hb13.mono hb1.size))
  have HE1 := Lib.hid (check_ren hn.2 hpp HGC.out HGP.out (by omega))
  have HE2 := Lib.hid (core_ren hn.2 hpp HGC.out HGP.out (by omega))
  have HE3 := Lib.hid (trim_ren hn.2 hpp HGC.out HGP.out (by omega))
  have HTM : Hid (GoodL n (trimS n cs pf)) := Lib.hid (HGP.out.sub (trim_mem hn.2 HGC.out HGP.out (by omega)))
  have htl : (trimS n cs pf).length ≤ 19 := by have := trim_len hn.2 HGC.out HGP.out (by omega); omega
  have hxl : (renL n (renP n by_) cs).length ≤ 22 := by simpa [renL] using hcl
  have hyl : (renL n (renP n by_) pf).length ≤ 22 := by simp [renL]; omega
  generalize hgx : renL n (renP n by_) cs = xs at *
  generalize hgy : renL n (renP n by_) pf = ys at *
  clear hgx hgy hb2 hb3 hb13 HP2 HX HC HP hpp
  go_wp2_with fail
  refine (core_any n cs pf _ _ _ HC3.out HP3.out (by omega) (by omega)).mono ?_
  rintro e w4 ⟨va, rfl, hra, hb4⟩
  have HRA := Lib.hid hra
  obtain ⟨aa, capa, rfl, -⟩ := hra
  go_wp2_with fail
  refine (core_any n xs ys _ _ _ (HX3.out.below (mono_rdl (mono_int _)) hb4) (HY.out.below (mono_rdl (mono_int _)) hb4) (by omega) (by omega)).mono ?_
  rw [HE1.out, HE2.out]
  rintro e w5 ⟨vb, rfl, hrb, hb5⟩
  have HRB := Lib.hid hrb
  obtain ⟨ab, capb, rfl, -⟩ := hrb
  have hb35 := hb4.trans (hb5.mono hb4.size)
  go_wp2_with fail
  refine (trim_any n cs pf _ _ _ (HC3.out.below (mono_rdl (mono_int _)) hb35) (HP3.out.below (mono_rdl (mono_int _)) hb35) (by omega) (by omega)).mono ?_
  rintro e w6 ⟨vt, rfl, hrt, hb6⟩
  have HRT := Lib.hid hrt
  obtain ⟨at_, capt, rfl, -⟩ := hrt
  have hb36 := hb35.trans (hb6.mono hb35.size)
  go_wp2_with fail
  refine (trim_any n xs ys _ _ _ (HX3.out.below (mono_rdl (mono_int _)) hb36) (HY.out.below (mono_rdl (mono_int _)) hb36) (by omega) (by omega)).mono ?_
  rw [HE1.out, HE3.out]
  rintro e w7 ⟨vd, rfl, hrd, hb7⟩
  have HRD := Lib.hid hrd
  obtain ⟨ad, capd, rfl, -⟩ := hrd
  have hb37 := hb36.trans (hb7.mono hb36.size)
  go_wp2_with fail
  refine (check_any n cs pf _ _ _ (HC3.out.below (mono_rdl (mono_int _)) hb37) (HP3.out.below (mono_rdl (mono_int _)) hb37) (by omega) (by omega)).mono ?_
  rintro e w8 ⟨rfl, hb8⟩
  have hb38 := hb37.trans (hb8.mono hb37.size)
  go_wp2_with fail
  refine (check_any n xs ys _ _ _ (HX3.out.below (mono_rdl (mono_int _)) hb38) (HY.out.below (mono_rdl (mono_int _)) hb38) (by omega) (by omega)).mono ?_
  rw [HE1.out]
  rintro e w9 ⟨rfl, hb9⟩
  have hb79 := hb8.trans (hb9.mono hb8.size)
  have hb69 := hb7.trans (hb79.mono hb7.size)
  have hb59 := hb6.trans (hb69.mono hb6.size)
  have hb49 := hb5.trans (hb59.mono hb5.size)
  have HA9 := Lib.hid (HRA.out.below (mono_int _) hb49)
  have HB9 := Lib.hid (HRB.out.below (mono_int _) hb59)
  have HT9 := Lib.hid (HRT.out.below (mono_rdl (mono_int _)) hb69)
  have HD9 := Lib.hid (HRD.out.below (mono_rdl (mono_int _)) hb79)
  have HBW := Lib.hid (HB3.out.trans ((hb38.trans (hb9.mono hb38.size)).mono HB3.out.size))
  clear hb79 hb69 hb59 hb49 hb38 hb37 hb36 hb35 hb9 hb8 hb7 hb6 hb5 hb4
  go_wp2_with fail
  refine (sameInts_any (coreS n cs pf) (coreS n cs pf) _ _ _ HA9.out HB9.out).mono ?_
  rw [decide_eq_true rfl]
  rintro e w10 ⟨rfl, hb10⟩
  have HT10 := Lib.hid (HT9.out.below (mono_rdl (mono_int _)) hb10)
  go_wp2_with fail
  refine (renamed_any n (trimS n cs pf) by_ _ _ HT10.out (by omega) HTM.out.allZ (by omega) (fun c hc => by have := HTM.out.len4 c hc; omega) H2.out).mono ?_
  rintro e w11 ⟨vr, rfl, hrr, hb11⟩
  have HRR := Lib.hid hrr
  obtain ⟨ar, capr, rfl, -⟩ := hrr
  have HD11 := Lib.hid (HD9.out.below (mono_rdl (mono_int _)) (hb10.trans (hb11.mono hb10.size)))
  go_wp2_with fail
  refine (same_any _ _ _ _ _ HRR.out HD11.out).mono ?_
  rw [decide_eq_true rfl]
  rintro e w12 ⟨rfl, hb12⟩
  go_wp2_with fail
  refine (lives_any _).mono ?_
  rintro e w13 ⟨rfl, hb13⟩
  go_wp2_with fail
  go_ret
  exact ⟨rfl, HBW.out.trans ((hb10.trans ((hb11.trans ((hb12.trans (hb13.mono hb12.size)).mono hb11.size)).mono hb10.size)).mono HBW.out.size)⟩
end Go.Proofs.Ythagkljenbhbdaa
