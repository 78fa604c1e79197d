/-
  The walk of the law RupMore: it returns true.
-/
import Derived.Test.YthagkljenbhbdaaRLaw1
import Derived.Test.YthagkljenbhbdaaOwnF
import Derived.Test.YthagkljenbhbdaaRTheory2
namespace Go.Proofs.Ythagkljenbhbdaa
open Go Go.RowKit

theorem Blk.grown {w w' : World} {g : Nat} {e : TypeId} {vs : List Value} {row : Option Nat} (hg : w.grownBy w' row) (h : Blk w g e vs) (hne : some g ≠ row) : Blk w' g e vs := by
  have hlt := h.lt
  unfold Blk at *
  rw [hg.block g hlt hne]; exact h
theorem Blk.rdv1 {w : World} {g : Nat} {e : TypeId} {u : Value} (h : Blk w g e [u]) : RdV w (.slice (some ⟨g, 0, none⟩) 1 1) [u] := h.rdv (by simp)
theorem lit0 (w : World) (base : Nat) (e : TypeId) (h : base ≤ w.heap.size) : OwnS (w.alloc (.cells #[] e)) base e (.slice (some ⟨w.heap.size, 0, none⟩) 0 0) [] := OwnS.lit w base e [] h (Nat.zero_le _)
theorem lit0' (w : World) (o : Obj) (e : TypeId) : OwnS ((w.alloc o).alloc (.cells #[] e)) w.heap.size e (.slice (some ⟨w.heap.size + 1, 0, none⟩) 0 0) [] := by
  have h := lit0 (w.alloc o) w.heap.size e (by simp)
  simpa using h
theorem lit1 (w : World) (u : Value) (e : TypeId) : RdV (w.alloc (.cells #[u] e)) (.slice (some ⟨w.heap.size, 0, none⟩) 1 1) [u] := (Blk.new' (vs := [u]) (e := e) rfl).rdv1
theorem lit1b (w : World) (u : Value) (e : TypeId) : RdV ((w.alloc (.cells #[] e)).alloc (.cells #[u] e)).drew (.slice (some ⟨w.heap.size + 1, 0, none⟩) 1 1) [u] := (Blk.drew (Blk.new' (vs := [u]) (e := e) (by simp))).rdv1
theorem lit1c (w : World) (u : Value) (e : TypeId) : RdV ((w.alloc (.cells #[u] e)).alloc (.cells #[] e)).drew (.slice (some ⟨w.heap.size, 0, none⟩) 1 1) [u] := (Blk.drew (Blk.old (Blk.new' (vs := [u]) (e := e) rfl) _)).rdv1
theorem fresh1b (w : World) (u : Value) (e : TypeId) : Fresh ((w.alloc (.cells #[] e)).alloc (.cells #[u] e)).drew (.slice (some ⟨w.heap.size, 0, none⟩) 0 0) :=
  Fresh.empty (e := e) (fr := (0, 0)) (Blk.drew (Blk.old (Blk.new' (vs := []) (e := e) rfl) _))
theorem fresh1c (w : World) (u : Value) (e : TypeId) : Fresh ((w.alloc (.cells #[u] e)).alloc (.cells #[] e)).drew (.slice (some ⟨w.heap.size + 1, 0, none⟩) 0 0) :=
  Fresh.empty (e := e) (fr := (0, 0)) (Blk.drew (Blk.new' (vs := []) (e := e) (by simp)))
theorem Reads.take {α : Type} {R : World → Value → α → Prop} {w : World} {vs : List Value} {xs : List α} (h : Reads R w vs xs) (k : Nat) : Reads R w (vs.take k) (xs.take k) := by
  obtain ⟨h1, h2⟩ := h
  refine ⟨by simp [h1], fun j hj hj' => ?_⟩
  rw [List.getElem_take, List.getElem_take]
  simp only [List.length_take] at hj hj'
  exact h2 j (by omega) (by omega)
theorem Reads.drop {α : Type} {R : World → Value → α → Prop} {w : World} {vs : List Value} {xs : List α} (h : Reads R w vs xs) (k : Nat) : Reads R w (vs.drop k) (xs.drop k) := by
  obtain ⟨h1, h2⟩ := h
  refine ⟨by simp [h1], fun j hj hj' => ?_⟩
  rw [List.getElem_drop, List.getElem_drop]
  simp only [List.length_drop] at hj hj'
  exact h2 (k + j) (by omega) (by omega)
theorem rev_step (vs : List Value) (k : Nat) (h : k < vs.length) : (vs.drop k).reverse = (vs.drop (k + 1)).reverse ++ [vs[k]] := by
  rw [← List.getElem_cons_drop h, List.reverse_cons]
theorem Reads.reverse {α : Type} {R : World → Value → α → Prop} {w : World} {vs : List Value} {xs : List α} (h : Reads R w vs xs) : Reads R w vs.reverse xs.reverse := by
  obtain ⟨h1, h2⟩ := h
  refine ⟨by simp [h1], fun j hj hj' => ?_⟩
  rw [List.getElem_reverse, List.getElem_reverse]
  simp only [List.length_reverse] at hj hj'
  simp only [h1]
  exact h2 _ _ _
set_option maxRecDepth 100000 in
set_option maxHeartbeats 4000000 in
theorem more_law (l m ks : List Int) (many at_ : Int) (vl vm vk : Value) (w : World) (hl : RdL (IntV .i64) w vl l) (hm : RdL (IntV .i64) w vm m) (hk : RdL (IntV .i64) w vk ks)
    (hli : ∀ x ∈ l, I64 x) (hmi : ∀ x ∈ m, I64 x) (hki : ∀ x ∈ ks, I64 x) (h1 : I64 many) (h2 : I64 at_) :
    Calls Try.prog 5 #[vl, vm, vk, .int .i64 many, .int .i64 at_] w fun e w' => e = .returned (.bool true) ∧ Below w.heap.size w w' := by
  have HD := Lib.hid (drawn_any l m many vl vm w hl hm hli hmi h1)
  have HRK := Lib.hid hk
  have HKI := Lib.hid hki
  have H2 := Lib.hid h2
  obtain ⟨al, capl, rfl, -⟩ := hl
  obtain ⟨am, capm, rfl, -⟩ := hm
  obtain ⟨ak, capk, rfl, -⟩ := hk
  clear hli hmi hki h1 h2
  go_enter Try.func5, Try.ntmps5
  go_wp2_with fail
  refine (HD.out).mono ?_
  rintro e w1 ⟨vc, vp, n, cs, pr, rfl, hn, hc, hp, hgc, hgp, hcl, hpl, hb1⟩
  have hpl2 : (pr ++ [[]]).length ≤ 19 := by simp; omega
  have hpos : 0 < (pr ++ [[]]).length := by simp
  have hgp2 := goodL_empty hgp
  generalize pr ++ [[]] = pf at *
  have HC := Lib.hid hc
  have HP := Lib.hid hp
  have HGC := Lib.hid hgc
  have HGP := Lib.hid hgp2
  obtain ⟨ac, capc, rfl, -⟩ := hc
  obtain ⟨ap, capp, rfl, -⟩ := hp
  clear hgc hgp hgp2 HD hpl
  go_wp2_with fail
  refine (check_any n cs pf _ _ _ HC.out HP.out (by omega) (by omega)).mono ?_
  rintro e w2 ⟨rfl, hb2⟩
  by_cases hz : checkS n cs pf = 0
  · have HZ := Lib.hid hz
    rw [hz]
    clear hz
    have HB12 := Lib.hid hb2
    go_wp2_with fail
    refine (clauses_any n ks _ _ ((HRK.out.below (mono_int _) (hb1.trans (hb2.mono hb1.size))).below (mono_int _) ((Below.refl _ _).alloc (Nat.le_refl _) _)) HKI.out hn).mono ?_
    rintro e w3 ⟨vms, ms, rfl, hrm, hgm, hml, hb3⟩
    obtain ⟨vms, hvm, hrms⟩ := hrm.vals
    obtain ⟨vcs, hvc, hrcs⟩ := HC.out.vals
    have hlm := hrms.1
    have hlc := hrcs.1
    have HVM := Lib.hid hvm
    have HVC := Lib.hid hvc
    have HRM := Lib.hid hrms
    have HRC := Lib.hid hrcs
    have HOM := Lib.hid (reads_oneCell hrms)
    have HOC := Lib.hid (reads_oneCell hrcs)
    have HGM := Lib.hid hgm
    obtain ⟨am, capm, rfl, -⟩ := hrm
    have HOL := Lib.hid ((OwnS.lit w2 w2.heap.size 22 [] (Nat.le_refl _) (Nat.zero_le _)).below hb3)
    have HB23 : Hid (Below w2.heap.size w2 w3) := Lib.hid (((Below.refl _ _).alloc (Nat.le_refl _) _).trans (hb3.mono (by simp)))
    have hsz := HB23.out.size
    have HFr : Hid (Fresh w3 (.slice (some ⟨w2.heap.size, 0, none⟩) 0 0)) := Lib.hid (Fresh.empty (e := 22) (fr := (0, 0)) (by rw [hb3.block _ (by simp)]; show (w2.heap.push _)[w2.heap.size]? = _; simp))
    clear hvm hvc hrms hrcs hgm
    go_wp2_with (first | (at_builtin; refine wpList_extendF elemSlice rfl (.tmp 33) (.tmp 36) rfl w2.heap.size _ [] _ vms rfl rfl HOL.out HVM.out HOM.out (by simp only [List.length_nil]; omega) (by unfold maxLen; simp only [List.length_nil]; omega) (by omega) ?_; rw [List.nil_append]; intro v4 w4 hown4 hb4 hF4; have hS4 : Below w2.heap.size w2 w4 := HB23.out.trans hb4) | (at_builtin; refine wpList_extendF elemSlice rfl (.tmp 37) (.tmp 38) rfl w2.heap.size _ vms _ vcs rfl rfl hown4 (HVC.out.below (HB12.out.trans (hS4.mono HB12.out.size))) HOC.out (by omega) (by unfold maxLen; omega) hS4.size ?_; intro v5 w5 hown5 hb5 hF5; have hS5 : Below w2.heap.size w2 w5 := hS4.trans hb5))
    obtain ⟨hK4, hfr4⟩ := hF4 w3 (Kept.refl _) HFr.out
    obtain ⟨hK5, -⟩ := hF5 w3 hK4 hfr4
    have HM5 : Hid (RdL (RdL (IntV .i64)) w5 v5 (ms ++ cs)) := Lib.hid (hown5.rdv.rd ((HRM.out.kept (monoK_rdl (monoK_int _)) hK5).append (HRC.out.mono (mono_rdl (mono_int _)) (hb2.trans (hS5.mono hb2.size)))))
    clear hF4 hF5 hK4 hK5 hfr4 hown4 hown5
    have HM1 := Lib.hid (more_check hn.2 HGC.out HGM.out HGP.out (by omega) HZ.out)
    have hmcl : (ms ++ cs).length ≤ 100 := by simp; omega
    generalize ms ++ cs = mc at HM5 HM1 hmcl
    have HT1 := Lib.hid (turned_check hn.2 HGC.out HGP.out (by omega) HZ.out)
    obtain ⟨a5, cap5, rfl, -⟩ := HM5.out
    go_loopg [15, 16] cs.length (fun gh x i wr => ∃ (k : Nat), gh = k ∧ i = .int .i64 ((k : Int) - 1) ∧ k ≤ cs.length ∧ OwnS wr w5.heap.size 22 x ((vcs.drop k).reverse) ∧ Below w5.heap.size w5 wr)
    case atStart => exact ⟨cs.length, rfl, rfl, Nat.le_refl _, by rw [← hlc, List.drop_length]; exact OwnS.nil _ _ _, Below.refl _ _⟩
    case round =>
      obtain ⟨k, hgk, rfl, hkl, hown, hb⟩ := hrel
      have hwr : Below w1.heap.size w1 wr := HB12.out.trans ((hS5.trans (hb.mono hS5.size)).mono HB12.out.size)
      cases k with
      | zero =>
        have HTu : Hid (RdL (RdL (IntV .i64)) wr u15 cs.reverse) := Lib.hid (hown.rdv.rd (by simpa using (HRC.out.mono (mono_rdl (mono_int _)) hwr).reverse))
        clear hown
        have hrl : cs.reverse.length ≤ 100 := by simp; omega
        generalize cs.reverse = rc at HTu HT1 hrl
        obtain ⟨aT, capT, rfl, -⟩ := HTu.out
        have HS5 := Lib.hid hS5
        have HW1R := Lib.hid hwr
        have hbs := hb.size
        have HPW := (HP.out.below (mono_rdl (mono_int _)) hwr)
        obtain ⟨vps, hvps, hrps⟩ := HPW.vals
        have hlp := hrps.1
        have HVP := Lib.hid hvps
        have HRP := Lib.hid hrps
        have HOP := Lib.hid (reads_oneCell hrps)
        clear HPW hvps hrps
        go_wp2_with fail
        refine (around_any at_ pf.length _ H2.out.1 H2.out.2 hpos (by omega)).mono ?_
        rintro e w6 ⟨⟨j, hj, rfl⟩, rfl⟩
        have HTW := Lib.hid (twice_check hn.2 HGC.out HGP.out (by omega) j hj HZ.out)
        obtain ⟨_, _, hev, -, -, hV3⟩ := HVP.out
        simp only [Value.slice.injEq] at hev
        obtain ⟨rfl, -, rfl⟩ := hev
        obtain ⟨bp, offp, rfl, hbl, hcell0⟩ := hV3 j (by omega)
        obtain ⟨au, capu, hu, -⟩ := HRP.out.2 j (by omega) hj
        rw [hu] at hcell0
        have HCE := Lib.hid hcell0
        have HUV : Hid (vps[j]'(by omega) = .slice au pf[j].length capu ∧ RdL (IntV .i64) wr (.slice au pf[j].length capu) pf[j]) := Lib.hid ⟨hu, by rw [← hu]; exact HRP.out.2 j (by omega) hj⟩
        have HVP2 : Hid (RdV wr (.slice (some ⟨bp, offp, none⟩) vps.length capp) vps) := Lib.hid (by rw [hlp]; exact HVP.out)
        have HT : Hid (∀ W, Below wr.heap.size wr W → RdV W (.slice (some ⟨bp, offp, none⟩) j capp) (vps.take j)) := Lib.hid (fun W hW => (HVP2.out.take j (by omega)).below hW)
        have HDr : Hid (∀ W, Below wr.heap.size wr W → RdV W (.slice (if capp = j then some ⟨bp, offp, none⟩ else some ⟨bp, offp + j, none⟩) (pf.length - j) (capp - j)) (vps.drop j)) := Lib.hid (fun W hW => by rw [← hlp]; exact (HVP2.out.drop j (by omega)).below hW)
        have HOT : Hid (∀ u ∈ vps.take j, u.oneCell' = true) := Lib.hid (fun u hu => HOP.out u (List.mem_of_mem_take hu))
        have HOD : Hid (∀ u ∈ vps.drop j, u.oneCell' = true) := Lib.hid (fun u hu => HOP.out u (List.mem_of_mem_drop hu))
        have HK : Hid (∀ W, Below wr.heap.size wr W → Below wr.heap.size wr W ∧ W.cell? ⟨bp, offp + j, none⟩ = some (.slice au pf[j].length capu)) := Lib.hid (fun W hW => ⟨hW, (hW.cell (p := ⟨bp, offp + j, none⟩) (Nat.lt_of_lt_of_le hbl (Nat.le_refl _))).trans HCE.out⟩)
        have hji : (j : Int) < pf.length := by omega
        have htl : (vps.take j).length = j := by simp; omega
        have hdl : (vps.drop j).length = pf.length - j := by simp; omega
        have hcapp : pf.length ≤ capp := by have := HVP.out; obtain ⟨_, _, h1, h2, _⟩ := this; simp only [Value.slice.injEq] at h1; omega
        have HTL := Lib.hid htl
        have HDL := Lib.hid hdl
        have hj1 : (j : Int) ≤ capp := by omega
        have hj2 : (j : Int) ≤ pf.length := by omega
        have hj3 : (pf.length : Int) ≤ capp := by omega
        have hj4 : (0 : Int) ≤ j := by omega
        have hj5 : ¬ capp = j := by omega
        rw [if_neg hj5] at HDr
        generalize hpj : pf[j] = pj at *
        have HPJ := Lib.hid hpj
        clear hcell0 hV3 hu htl hdl hpj
        go_wp2_with fail
        go_region_held3 (fun w' => Below wr.heap.size wr w' ∧ w'.cell? ⟨bp, offp + j, none⟩ = some (.slice au pj.length capu)) ((refine HK.out _ ?_; repeat (first | assumption | exact And.left (by assumption) | exact Below.refl _ _ | refine below_drew' ?_ | refine below_alloc' ?_ _))) (first | (refine step_extendF elemSlice rfl (.tmp 58) (.tmp 61) rfl wr.heap.size (.slice (some ⟨wr.heap.size, 0, none⟩) 0 0) [] _ (vps.take j) rfl rfl (by with_reducible exact (lit0 wr wr.heap.size _ (Nat.le_refl _)).drew) (HT.out _ (by repeat (first | assumption | exact And.left (by assumption) | exact Below.refl _ _ | refine below_drew' ?_ | refine below_alloc' ?_ _))) HOT.out (by have := HTL.out; simp only [List.length_nil]; omega) (by have := HTL.out; unfold maxLen; simp only [List.length_nil]; omega) (by simp <;> omega) ?_; rw [List.nil_append]; intro v7 w7 hown7 hb7 hF7; have hS7 : Below wr.heap.size wr w7 := Below.trans (by repeat (first | assumption | exact And.left (by assumption) | exact Below.refl _ _ | refine below_drew' ?_ | refine below_alloc' ?_ _)) hb7; clear hF7) | (refine step_extendF elemSlice rfl (.tmp 58) (.tmp 61) rfl wr.heap.size (.slice (some ⟨wr.heap.size, 0, none⟩) 0 0) [] _ (vps.take j) rfl rfl (by with_reducible exact ((lit0 wr wr.heap.size _ (Nat.le_refl _)).alloc _).drew) (HT.out _ (by repeat (first | assumption | exact And.left (by assumption) | exact Below.refl _ _ | refine below_drew' ?_ | refine below_alloc' ?_ _))) HOT.out (by have := HTL.out; simp only [List.length_nil]; omega) (by have := HTL.out; unfold maxLen; simp only [List.length_nil]; omega) (by simp <;> omega) ?_; rw [List.nil_append]; intro v7 w7 hown7 hb7 hF7; have hS7 : Below wr.heap.size wr w7 := Below.trans (by repeat (first | assumption | exact And.left (by assumption) | exact Below.refl _ _ | refine below_drew' ?_ | refine below_alloc' ?_ _)) hb7; have HSrc := Lib.hid ((lit1b wr (.slice au pj.length capu) 22).kept (hF7 _ (Kept.refl _) (fresh1b wr (.slice au pj.length capu) 22)).1); clear hF7) | (refine step_extendF elemSlice rfl (.tmp 58) (.tmp 61) rfl wr.heap.size (.slice (some ⟨wr.heap.size + 1, 0, none⟩) 0 0) [] _ (vps.take j) rfl rfl (by with_reducible exact (lit0' wr _ _).drew) (HT.out _ (by repeat (first | assumption | exact And.left (by assumption) | exact Below.refl _ _ | refine below_drew' ?_ | refine below_alloc' ?_ _))) HOT.out (by have := HTL.out; simp only [List.length_nil]; omega) (by have := HTL.out; unfold maxLen; simp only [List.length_nil]; omega) (by simp <;> omega) ?_; rw [List.nil_append]; intro v7 w7 hown7 hb7 hF7; have hS7 : Below wr.heap.size wr w7 := Below.trans (by repeat (first | assumption | exact And.left (by assumption) | exact Below.refl _ _ | refine below_drew' ?_ | refine below_alloc' ?_ _)) hb7; have HSrc := Lib.hid ((lit1c wr (.slice au pj.length capu) 22).kept (hF7 _ (Kept.refl _) (fresh1c wr (.slice au pj.length capu) 22)).1); clear hF7) | (refine step_extendG elemSlice rfl (.tmp 62) (.tmp 67) rfl wr.heap.size v7 (vps.take j) (.slice (some ⟨w7.heap.size, 0, none⟩) 1 1) [.slice au pj.length capu] rfl rfl (by with_reducible exact hown7.alloc _) (by with_reducible exact lit1 _ _ _) (by simp [Value.oneCell']) (by have := HTL.out; simp only [List.length_cons, List.length_nil]; omega) (by have := HTL.out; unfold maxLen; simp only [List.length_cons, List.length_nil]; omega) (Below.size (show Below wr.heap.size wr _ by repeat (first | assumption | exact And.left (by assumption) | exact Below.refl _ _ | refine below_drew' ?_ | refine below_alloc' ?_ _))) ?_; intro v8 w8 hown8 hg8 hb8; have hS8 : Below wr.heap.size wr w8 := Below.trans (show Below wr.heap.size wr _ by repeat (first | assumption | exact And.left (by assumption) | exact Below.refl _ _ | refine below_drew' ?_ | refine below_alloc' ?_ _)) hb8) | (refine step_extendG elemSlice rfl (.tmp 62) (.tmp 67) rfl wr.heap.size v7 (vps.take j) (.slice (some ⟨wr.heap.size + 1, 0, none⟩) 1 1) [.slice au pj.length capu] rfl rfl (by with_reducible exact hown7) (by with_reducible exact HSrc.out) (by simp [Value.oneCell']) (by have := HTL.out; simp only [List.length_cons, List.length_nil]; omega) (by have := HTL.out; unfold maxLen; simp only [List.length_cons, List.length_nil]; omega) (Below.size (show Below wr.heap.size wr _ by repeat (first | assumption | exact And.left (by assumption) | exact Below.refl _ _ | refine below_drew' ?_ | refine below_alloc' ?_ _))) ?_; intro v8 w8 hown8 hg8 hb8; have hS8 : Below wr.heap.size wr w8 := Below.trans (show Below wr.heap.size wr _ by repeat (first | assumption | exact And.left (by assumption) | exact Below.refl _ _ | refine below_drew' ?_ | refine below_alloc' ?_ _)) hb8) | (refine step_extendG elemSlice rfl (.tmp 62) (.tmp 67) rfl wr.heap.size v7 (vps.take j) (.slice (some ⟨wr.heap.size, 0, none⟩) 1 1) [.slice au pj.length capu] rfl rfl (by with_reducible exact hown7) (by with_reducible exact HSrc.out) (by simp [Value.oneCell']) (by have := HTL.out; simp only [List.length_cons, List.length_nil]; omega) (by have := HTL.out; unfold maxLen; simp only [List.length_cons, List.length_nil]; omega) (Below.size (show Below wr.heap.size wr _ by repeat (first | assumption | exact And.left (by assumption) | exact Below.refl _ _ | refine below_drew' ?_ | refine below_alloc' ?_ _))) ?_; intro v8 w8 hown8 hg8 hb8; have hS8 : Below wr.heap.size wr w8 := Below.trans (show Below wr.heap.size wr _ by repeat (first | assumption | exact And.left (by assumption) | exact Below.refl _ _ | refine below_drew' ?_ | refine below_alloc' ?_ _)) hb8) | (refine step_extendG elemSlice rfl (.tmp 68) (.tmp 71) rfl wr.heap.size v8 (vps.take j ++ [.slice au pj.length capu]) (.slice (some ⟨bp, offp + j, none⟩) (pf.length - j) (capp - j)) (vps.drop j) rfl rfl (by with_reducible exact hown8) (HDr.out _ (by repeat (first | assumption | exact And.left (by assumption) | exact Below.refl _ _ | refine below_drew' ?_ | refine below_alloc' ?_ _))) HOD.out (by have := HTL.out; have := HDL.out; simp only [List.length_append, List.length_cons, List.length_nil]; omega) (by have := HTL.out; have := HDL.out; unfold maxLen; simp only [List.length_append, List.length_cons, List.length_nil]; omega) (Below.size (show Below wr.heap.size wr _ by repeat (first | assumption | exact And.left (by assumption) | exact Below.refl _ _ | refine below_drew' ?_ | refine below_alloc' ?_ _))) ?_; intro v9 w9 hown9 hg9 hb9; have hS9 : Below wr.heap.size wr w9 := Below.trans (show Below wr.heap.size wr _ by repeat (first | assumption | exact And.left (by assumption) | exact Below.refl _ _ | refine below_drew' ?_ | refine below_alloc' ?_ _)) hb9))
        all_goals
          have HTw : Hid (RdL (RdL (IntV .i64)) w9 v9 (pf.take j ++ [pj] ++ pf.drop j)) := Lib.hid (hown9.rdv.rd ((((HRP.out.take j).append (Reads.single (HPJ.out ▸ HUV.out.2))).append (HRP.out.drop j)).mono (mono_rdl (mono_int _)) hS9))
          have HM9 := Lib.hid (HM5.out.below (mono_rdl (mono_int _)) (hb.trans (hS9.mono hbs)))
          have HT9 := Lib.hid (HTu.out.below (mono_rdl (mono_int _)) hS9)
          have HP9 := Lib.hid (HP.out.below (mono_rdl (mono_int _)) (HW1R.out.trans (hS9.mono HW1R.out.size)))
          have HC9 := Lib.hid (HC.out.below (mono_rdl (mono_int _)) (HW1R.out.trans (hS9.mono HW1R.out.size)))
          have HWR := Lib.hid (hb1.trans (HW1R.out.mono hb1.size))
          have htw : (pf.take j ++ [pj] ++ pf.drop j).length ≤ 100 := by simp; omega
          generalize pf.take j ++ [pj] ++ pf.drop j = tw at HTw HTW htw
          clear hown9
          obtain ⟨a9, cap9, rfl, -⟩ := HTw.out
          go_wp2_with fail
          refine (check_any n mc pf _ _ _ HM9.out HP9.out (by omega) (by omega)).mono ?_
          rw [HM1.out]
          rintro e w10 ⟨rfl, hb10⟩
          have HT10 := Lib.hid (HT9.out.below (mono_rdl (mono_int _)) hb10)
          have HP10 := Lib.hid (HP9.out.below (mono_rdl (mono_int _)) hb10)
          go_wp2_with fail
          refine (check_any n rc pf _ _ _ HT10.out HP10.out (by omega) (by omega)).mono ?_
          rw [HT1.out]
          rintro e w11 ⟨rfl, hb11⟩
          have hb911 := hb10.trans (hb11.mono hb10.size)
          have HC11 := Lib.hid (HC9.out.below (mono_rdl (mono_int _)) hb911)
          have HW11 := Lib.hid (HTw.out.below (mono_rdl (mono_int _)) hb911)
          go_wp2_with fail
          refine (check_any n cs tw _ _ _ HC11.out HW11.out (by omega) (by omega)).mono ?_
          rw [HTW.out]
          rintro e w12 ⟨rfl, hb12⟩
          go_wp2_with fail
          refine (lives_any _).mono ?_
          rintro e w13 ⟨rfl, hb13⟩
          go_wp2_with fail
          go_ret
          exact ⟨rfl, HWR.out.trans ((hS9.trans ((hb911.trans ((hb12.trans (hb13.mono hb12.size)).mono hb911.size)).mono hS9.size)).mono HWR.out.size)⟩
      | succ k =>
        subst hgk
        have e0 : (((k + 1 : Nat) : Int) - 1) = (k : Int) := by omega
        rw [e0]
        clear e0
        have hk22 : (k : Int) ≤ 22 := by omega
        have hkv : k < vcs.length := by omega
        obtain ⟨_, _, hev, -, -, hV3⟩ := HVC.out
        simp only [Value.slice.injEq] at hev
        obtain ⟨rfl, -, rfl⟩ := hev
        obtain ⟨b, off, rfl, hbl, hcell0⟩ := hV3 k hkv
        have hcell := (hwr.cell (p := ⟨b, off + k, none⟩) hbl).trans hcell0
        obtain ⟨au, cu, hu, -⟩ := HRC.out.2 k hkv (by omega)
        have HS := Lib.hid (rev_step vcs k hkv)
        rw [hu] at hcell HS
        generalize cs[k]'(by omega) = ck at hcell HS
        have HOwn := Lib.hid hown
        obtain ⟨at1, capt1, rfl, -⟩ := hown.rdv
        have HLR := Lib.hid (show (vcs.drop (k + 1)).reverse.length ≤ 22 from by simp; omega)
        have hbs := hb.size
        have HLC := Lib.hid hlc
        clear hcell0 hV3 hown hu hlm
        clear hlc
        go_wp2_with (at_builtin; refine wpList_push elemSlice rfl (.tmp 47) (.tmp 52) rfl w5.heap.size _ _ _ rfl rfl HOwn.out rfl (by have := HLR.out; omega) (by have := HLR.out; unfold maxLen; omega) hbs ?_; intro v6 w6 hown6 _ hb6)
        go_roundg k
        case measure => omega
        case rel => exact ⟨k, rfl, by go_num, by omega, by rw [← HS.out] at hown6; exact hown6, hb.trans hb6⟩
  · have hzb : (checkS n cs pf != 0) = true := by simpa using hz
    have HB2 := Lib.hid (hb1.trans (hb2.mono hb1.size))
    clear hz
    go_wp2_with fail
    refine (lives_any _).mono ?_
    rintro e w13 ⟨rfl, hb13⟩
    go_wp2_with fail
    go_ret
    exact ⟨rfl, HB2.out.trans (hb13.mono HB2.out.size)⟩
end Go.Proofs.Ythagkljenbhbdaa
