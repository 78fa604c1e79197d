/-
  The walk of the law RupSound: it returns true.
-/
import Derived.Test.YthagkljenbhbdaaRLaw3
import Derived.Test.YthagkljenbhbdaaRSat
namespace Go.Proofs.Ythagkljenbhbdaa
open Go Go.RowKit

theorem allZ_of_right {n : Nat} {cs : List (List Int)} (h : rightS n cs = true) : AllZ n cs := by
  intro c hc x hx
  unfold rightS at h
  rw [Bool.not_eq_true', List.any_eq_false] at h
  have h1 := h c hc
  unfold badClause at h1
  rw [Bool.or_eq_true, not_or] at h1
  have h2 := h1.2
  rw [List.any_eq_true] at h2
  have h3 : ¬ badLit n x = true := fun hb => h2 ⟨x, hx, hb⟩
  simp [badLit] at h3
  unfold LitZ; omega
theorem allZ_of_valid {n : Nat} {cs pr : List (List Int)} (h : validS n cs pr = true) : AllZ n cs ∧ AllZ n pr := by
  unfold validS at h
  simp only [Bool.and_eq_true] at h
  exact ⟨allZ_of_right h.1.2, allZ_of_right h.2⟩
/-- No truth values satisfy clauses for which there is a proof. -/
theorem unsat {n : Nat} {cs pr : List (List Int)} (hz : AllZ n cs) (hp : AllZ n pr) (h : provesS n cs pr = true) (model : List Bool) (hl : model.length = n) : satS model cs = false := by
  obtain ⟨⟨p, hp1⟩, hpl⟩ := provesS_iff.1 h
  cases hs : satS model cs with
  | false => rfl
  | true =>
    exfalso
    have hv : ∀ x, LitZ n x → vof (0 :: model.map fun b => if b then 1 else -1) x = if holdB model x then 1 else -1 := by
      intro x hx
      unfold LitZ at hx
      have key : ∀ j : Nat, 1 ≤ j → j ≤ n → ((0 : Int) :: model.map fun b => if b then 1 else -1).getD j 0 = if model.getD (j - 1) false then 1 else -1 := fun j h1 h2 => by
        obtain ⟨k, rfl⟩ : ∃ k, j = k + 1 := ⟨j - 1, by omega⟩
        rw [List.getD_cons_succ, List.getD_eq_getElem?_getD, List.getElem?_map, Nat.add_sub_cancel, List.getD_eq_getElem?_getD, List.getElem?_eq_getElem (by omega)]
        rfl
      unfold vof holdB
      by_cases h0 : x < 0
      · rw [if_pos h0, key _ (by omega) (by omega), show max x (-x) = -x from by omega, decide_eq_false (show ¬ 0 < x by omega)]
        cases model.getD ((-x).toNat - 1) false <;> rfl
      · rw [if_neg h0, key _ (by omega) (by omega), show max x (-x) = x from by omega, decide_eq_true (show 0 < x by omega)]
        cases model.getD (x.toNat - 1) false <;> rfl
    have hsat : ∀ c ∈ cs, Sat (0 :: model.map fun b => if b then 1 else -1) c := by
      intro c hc
      unfold satS at hs
      rw [Bool.not_eq_true', List.any_eq_false] at hs
      have := hs c hc
      rw [Bool.not_eq_true', Bool.not_eq_false, List.any_eq_true] at this
      obtain ⟨x, hx, hh⟩ := this
      exact ⟨x, hx, by rw [hv x (hz c hc x hx), if_pos hh]⟩
    have hend := sat_of_loop (N := n) (τ := 0 :: model.map fun b => if b then 1 else -1) (by simp [hl]) (fun x hx => by
      rcases List.mem_cons.1 hx with rfl | hx
      · omega
      · simp only [List.mem_map] at hx
        obtain ⟨b, _, rfl⟩ := hx
        cases b <;> simp) (fun x hx => by rw [hv x hx]; split <;> decide) pr cs hz hp hpl hsat [] (by rw [hp1]; simp)
    obtain ⟨x, hx, _⟩ := hend
    simp at hx
theorem elemBool : ElemT Try.prog 45 4 (.bool false) 1 := ⟨Try.underlying45, by kernel_rfl, rfl⟩
def bools (l : List Bool) : List Value := l.map Value.bool
theorem OwnS.rdBools {w : World} {base : Nat} {e : TypeId} {v : Value} {bs : List Bool} (h : OwnS w base e v (bools bs)) : RdL BoolV w v bs :=
  h.rd (by simp [bools]) (fun j h1 h2 => by simp [BoolV, bools])
theorem bools_set (bs : List Bool) (j : Nat) (b : Bool) : bools (bs.set j b) = (bools bs).set j (.bool b) := by simp [bools]

set_option maxRecDepth 100000 in
set_option maxHeartbeats 4000000 in
theorem sound_law (l m : List Int) (many at_ how by_ : Int) (vl vm : Value) (w : World) (hl : RdL (IntV .i64) w vl l) (hm : RdL (IntV .i64) w vm m)
    (hli : ∀ x ∈ l, I64 x) (hmi : ∀ x ∈ m, I64 x) (h1 : I64 many) (h2 : I64 at_) (h3 : I64 how) (h4 : I64 by_) :
    Calls Try.prog 8 #[vl, vm, .int .i64 many, .int .i64 at_, .int .i64 how, .int .i64 by_] w fun e w' => e = .returned (.bool true) ∧ Below w.heap.size w w' := by
  have HD := Lib.hid (drawn_any l m many vl vm w hl hm hli hmi h1)
  have H2 := Lib.hid h2
  have H3 := Lib.hid h3
  have H4 := Lib.hid h4
  obtain ⟨al, capl, rfl, -⟩ := hl
  obtain ⟨am, capm, rfl, -⟩ := hm
  clear hli hmi h1 h2 h3 h4
  go_enter Try.func8, Try.ntmps8
  go_wp2_with fail
  refine (HD.out).mono ?_
  rintro e w1 ⟨vc, vp, n, cs, pr, rfl, hn, hc, hp, hgc, hgp, hcl, hpl, hb1⟩
  have hpl2 : (pr ++ [[]]).length ≤ 19 := by simp; omega
  have hgp2 := goodL_empty hgp
  generalize pr ++ [[]] = pf at *
  have HC := Lib.hid hc
  have HP := Lib.hid hp
  have HGC := Lib.hid hgc
  have HGP := Lib.hid hgp2
  obtain ⟨ac, capc, rfl, -⟩ := hc
  obtain ⟨ap, capp, rfl, -⟩ := hp
  clear hgc hgp hgp2 HD hpl
  go_wp2_with fail
  rw [show (2 * (n : Int) + 1) = ((2 * n + 1 : Nat) : Int) from by omega]
  refine (around_any by_ (2 * n + 1) _ H4.out.1 H4.out.2 (by omega) (by omega)).mono ?_
  rintro e w2 ⟨⟨r, hr, rfl⟩, rfl⟩
  have hrn : I64 ((r : Int) - n) := by unfold I64; omega
  have HRN := Lib.hid hrn
  clear hrn
  go_wp2_with fail
  refine (spoilt_any cs 4 at_ how _ _ _ HC.out H2.out H3.out HRN.out (by omega) (by omega) HGC.out.len4 (HGC.out.i64 hn.2)).mono ?_
  rintro e w2 ⟨vx, xs, rfl, hx, hxl, -, -, hb2⟩
  have HX := Lib.hid hx
  obtain ⟨ax, capx, rfl, -⟩ := hx
  have HCs := Lib.hid (Reads.cons (HC.out.below (mono_rdl (mono_int _)) hb2) (Reads.cons HX.out (Reads.nil _)))
  obtain ⟨W2, hW2⟩ : ∃ W2, W2 = w2.alloc (.cells #[.slice ac cs.length capc, .slice ax xs.length capx] 23) := ⟨_, rfl⟩
  have HLs : Hid (RdL (RdL (RdL (IntV .i64))) W2 (.slice (some ⟨w2.heap.size, 0, none⟩) 2 2) [cs, xs]) := Lib.hid (lit_rd (mono_rdl (mono_rdl (mono_int .i64))) _ hW2 rfl rfl HCs.out (by simp))
  have HB2W : Hid (Below w2.heap.size w2 W2) := Lib.hid (by rw [hW2]; exact (Below.refl _ _).alloc (Nat.le_refl _) _)
  have HP2 := Lib.hid (HP.out.below (mono_rdl (mono_int _)) (hb2.trans (HB2W.out.mono hb2.size)))
  have HBW := Lib.hid (hb1.trans ((hb2.trans (HB2W.out.mono hb2.size)).mono hb1.size))
  have HW2 := Lib.hid hW2
  clear hW2
  go_wp2_with fail
  rw [← HW2.out]
  have HLL : Hid (∀ c ∈ [cs, xs], c.length ≤ 1000) := Lib.hid (by simp; omega)
  clear HCs HW2 HB2W HC HP HX hb1 hb2 hxl hcl
  generalize [cs, xs] = L at HLs HLL
  obtain ⟨hL2, hLa⟩ := HLs.out.at
  have HLA := Lib.hid hLa
  have HL2 := Lib.hid hL2
  clear hLa hL2
  go_loopg [17] 2 (fun gh i wr => ∃ (k : Nat), gh = 2 - k ∧ i = .int .i64 k ∧ k ≤ 2 ∧ Below W2.heap.size W2 wr)
  case atStart => exact ⟨0, by omega, rfl, by omega, Below.refl _ _⟩
  case round =>
    obtain ⟨i, rfl, rfl, hi, hbr⟩ := hrel
    by_cases hlt : i < 2
    · obtain ⟨uA, hgA, hcA0, hrA⟩ := HLA.out i (by have := HL2.out; omega)
      have HLEN := Lib.hid (HLL.out _ (List.getElem_mem (show i < L.length by have := HL2.out; omega)))
      generalize L[i] = la at *
      have hla := HLEN.out
      have HRA := Lib.hid hrA
      obtain ⟨aA, capA, rfl, -⟩ := hrA
      have hcA := (hbr.cell (p := ⟨w2.heap.size, i, none⟩) hgA).trans hcA0
      have HCA := Lib.hid hcA0
      have hi5 : (i : Int) < 2 := by omega
      have hdi : decide ((i : Int) < 2) = true := by rw [decide_eq_true_eq]; omega
      clear hcA0
      obtain ⟨wo, rfl⟩ : ∃ wo : World, wo = wr := ⟨_, rfl⟩
      go_wp2_with fail
      refine (check_any n la pf _ _ _ (HRA.out.below (mono_rdl (mono_int _)) hbr) (HP2.out.below (mono_rdl (mono_int _)) hbr) (by omega) (by omega)).mono ?_
      rintro e w3 ⟨rfl, hb3⟩
      have hbr3 := hbr.trans (hb3.mono hbr.size)
      by_cases hz : checkS n la pf = 0
      · obtain ⟨hv, hpr⟩ := check_zero hz
        obtain ⟨hz1, hz2⟩ := allZ_of_valid hv
        have HUN : Hid (∀ model : List Bool, model.length = n → satS model la = false) := Lib.hid (unsat hz1 hz2 hpr)
        have HZ1 := Lib.hid hz1
        rw [hz]
        clear hz hv hpr hz1 hz2
        have hn0 : (0 : Int) ≤ n := by omega
        have hn6 : (n : Int) < 64 := by omega
        go_wp2_with fail
        have HPW : Hid (wrap64 (2 ^ n) ≤ 32) := Lib.hid (by rcases (show n = 2 ∨ n = 3 ∨ n = 4 ∨ n = 5 from by omega) with rfl | rfl | rfl | rfl <;> decide +kernel)
        go_loopg [18] 32 (fun gh k wr => ∃ (m : Nat), gh = 32 - m ∧ k = .int .i64 m ∧ m ≤ 32 ∧ Below W2.heap.size W2 wr)
        case atStart => exact ⟨0, by omega, rfl, by omega, hbr3⟩
        case round =>
          clear hbr3 hbr hcA
          obtain ⟨k, rfl, rfl, hk, hbr⟩ := hrel
          have hcA : wr.cell? ⟨w2.heap.size, i, none⟩ = some (.slice aA la.length capA) := (hbr.cell (p := ⟨w2.heap.size, i, none⟩) hgA).trans HCA.out
          by_cases hk2 : (k : Int) < wrap64 (2 ^ n)
          · have hk3 : k < 32 := by have := HPW.out; omega
            have hk4 : (k : Int) < 32 := by omega
            have hbs := hbr.size
            obtain ⟨wi, rfl⟩ : ∃ wi : World, wi = wr := ⟨_, rfl⟩
            go_wp2_with (at_make; refine wpList_makeN elemBool rfl _ _ rfl wi.heap.size .i64 .i64 n n n rfl rfl rfl rfl (by omega) (by unfold maxLen; omega) (Nat.le_refl _) ?_; intro w4 hown4 hb4)
            have hcA4 := (hb4.cell (p := ⟨w2.heap.size, i, none⟩) (Nat.lt_of_lt_of_le hgA hbs)).trans hcA
            go_loopg [20] n (fun gh x wr => ∃ (j : Nat) (bs : List Bool), gh = n - j ∧ x = .int .i64 j ∧ j ≤ n ∧ bs.length = n ∧ OwnS wr wi.heap.size 4 (.slice (some ⟨wi.heap.size, 0, none⟩) n n) (bools bs) ∧ Below wi.heap.size wi wr)
            case atStart => exact ⟨0, List.replicate n false, by omega, rfl, by omega, by simp, by simpa [bools] using hown4, hb4⟩
            case round =>
              obtain ⟨j, bs, rfl, rfl, hj, hbl, hown, hbi⟩ := hrel
              clear hown4 hb4 hcA4
              have hcA5 := (hbi.cell (p := ⟨w2.heap.size, i, none⟩) (Nat.lt_of_lt_of_le hgA hbs)).trans hcA
              have HBL := Lib.hid hbl
              have HOwn := Lib.hid hown
              by_cases hjn : j < n
              · have hc := hown.cell j (by simp [bools]; omega)
                have hf := hown.free j
                generalize (bools bs)[j]'_ = old at hc
                have hj5 : j < 5 := by omega
                have hj6 : (j : Int) < n := by omega
                clear hown hbl
                go_wp2_with fail
                have hst := HOwn.out.stored j (.bool (((k : Int) / 2 ^ j).tmod 2 == 1))
                rw [← bools_set] at hst
                go_roundg (n - (j + 1))
                case measure => omega
                case rel => exact ⟨j + 1, bs.set j _, rfl, by go_num, by omega, by rw [List.length_set]; exact HBL.out, hst.1, hbi.trans hst.2⟩
              · have HRB := Lib.hid (OwnS.rdBools hown)
                have hbiw := hbr.trans (hbi.mono hbs)
                have HLA2 := Lib.hid (HRA.out.below (mono_rdl (mono_int _)) hbiw)
                have HSF := Lib.hid (HUN.out bs hbl)
                clear hown hbl
                go_wp2_with fail
                refine (satisfies_any bs la _ _ _ HRB.out HLA2.out (by rw [HBL.out]; exact HZ1.out) (by rw [HBL.out]; omega)).mono ?_
                rw [HSF.out]
                rintro e w5 ⟨rfl, hb5⟩
                go_wp2_with fail
                go_roundg (32 - (k + 1))
                case measure => omega
                case rel => exact ⟨k + 1, rfl, by go_num, by omega, hbiw.trans (hb5.mono hbiw.size)⟩
          · go_wp2_with fail
            go_roundg (2 - (i + 1))
            case measure => omega
            case rel => exact ⟨i + 1, rfl, by go_num, by omega, hbr⟩
      · have hzb : (checkS n la pf != 0) = true := by simpa using hz
        clear hz
        go_wp2_with fail
        go_roundg (2 - (i + 1))
        case measure => omega
        case rel => exact ⟨i + 1, rfl, by go_num, by omega, hbr3⟩
    · have HBR := Lib.hid (HBW.out.trans (hbr.mono HBW.out.size))
      clear hbr
      go_wp2_with fail
      refine (lives_any _).mono ?_
      rintro e w9 ⟨rfl, hb9⟩
      go_wp2_with fail
      go_ret
      exact ⟨rfl, HBR.out.trans (hb9.mono HBR.out.size)⟩
end Go.Proofs.Ythagkljenbhbdaa
