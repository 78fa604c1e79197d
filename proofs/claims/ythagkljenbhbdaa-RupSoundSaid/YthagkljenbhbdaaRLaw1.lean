/-
  The walk of the law RupChecks: it returns true.
-/
import Derived.Test.YthagkljenbhbdaaRSpoilt
import Derived.Test.YthagkljenbhbdaaRDrawn
import Derived.Test.YthagkljenbhbdaaRLives
namespace Go.Proofs.Ythagkljenbhbdaa
open Go Go.RowKit

theorem RdL.take {α : Type} {R : World → Value → α → Prop} {w : World} {a : Option Addr} {n cap : Nat} {xs : List α} (h : RdL R w (.slice a n cap) xs) (k : Nat) (hk : k ≤ xs.length) : RdL R w (.slice a k cap) (xs.take k) := by
  obtain ⟨a', cap', hv, h1, h2, h3⟩ := h
  simp only [Value.slice.injEq] at hv
  obtain ⟨rfl, _, rfl⟩ := hv
  have hl : (xs.take k).length = k := by simp; omega
  refine ⟨a, cap, by rw [hl], ⟨by omega, h1.2⟩, h2, fun j hj => ?_⟩
  obtain ⟨b, off, u, ha, hlt, hc, hu⟩ := h3 j (by omega)
  exact ⟨b, off, u, ha, hlt, hc, by simpa using hu⟩
/-- A new block of slices, each of which reads. -/
theorem lit_rd {α : Type} {R : World → Value → α → Prop} (hR : Mono R) {w W : World} {e : TypeId} {arr : Array Value} {n : Nat} (vs : List Value) {xs : List α} (hW : W = w.alloc (.cells arr e)) (ha : arr = vs.toArray) (hn : n = vs.length) (h : Reads R w vs xs) (hl : vs.length ≤ 1000000) : RdL R W (.slice (some ⟨w.heap.size, 0, none⟩) n n) xs := by
  subst hW ha hn
  exact (OwnS.rdv (OwnS.lit w w.heap.size e vs (Nat.le_refl _) (by unfold maxLen; omega))).rd (h.mono hR ((Below.refl _ _).alloc (Nat.le_refl _) _))
theorem lit_ints {w W : World} {e : TypeId} {arr : Array Value} {n : Nat} (zs : List Int) (hW : W = w.alloc (.cells arr e)) (ha : arr = (zs.map (Value.int .i64)).toArray) (hn : n = zs.length) (hl : zs.length ≤ 1000000) : RdL (IntV .i64) W (.slice (some ⟨w.heap.size, 0, none⟩) n n) zs :=
  lit_rd (mono_int .i64) (zs.map (Value.int .i64)) hW ha (by simp [hn]) ⟨by simp, fun j h1 h2 => by simp [IntV]⟩ (by simpa using hl)
/-- The cell of an element, and what it reads as. -/
theorem RdL.at {α : Type} {R : World → Value → α → Prop} {w : World} {g n cap : Nat} {xs : List α} (h : RdL R w (.slice (some ⟨g, 0, none⟩) n cap) xs) : n = xs.length ∧ ∀ j (hj : j < xs.length), ∃ u, g < w.heap.size ∧ w.cell? ⟨g, j, none⟩ = some u ∧ R w u xs[j] := by
  obtain ⟨a, cap', hv, h1, h2, h3⟩ := h
  simp only [Value.slice.injEq] at hv
  obtain ⟨rfl, hn, rfl⟩ := hv
  refine ⟨hn, fun j hj => ?_⟩
  obtain ⟨b, off, u, ha, hlt, hc, hu⟩ := h3 j hj
  simp only [Option.some.injEq, Addr.mk.injEq, and_true] at ha
  obtain ⟨rfl, rfl⟩ := ha
  exact ⟨u, hlt, by simpa using hc, hu⟩
theorem GoodL.i64 {n : Nat} {cs : List (List Int)} (h : GoodL n cs) (hn : n ≤ 5) : ∀ c ∈ cs, ∀ x ∈ c, I64 x := fun c hc x hx => by
  have := (h c hc).2 x hx
  unfold I64; omega
theorem goodL_empty {n : Nat} {pr : List (List Int)} (h : GoodL n pr) : GoodL n (pr ++ [[]]) := goodL_snoc h (goodC_nil n)
theorem GoodL.len4 {n : Nat} {cs : List (List Int)} (h : GoodL n cs) : ∀ c ∈ cs, c.length ≤ 4 := fun c hc => (h c hc).1

set_option maxRecDepth 100000 in
set_option maxHeartbeats 4000000 in
theorem checks_law (l m : List Int) (many at_ how by_ vars : Int) (raw : List (List Int)) (vl vm vr : Value) (w : World) (hl : RdL (IntV .i64) w vl l) (hm : RdL (IntV .i64) w vm m) (hr : RdL (RdL (IntV .i64)) w vr raw)
    (hli : ∀ x ∈ l, I64 x) (hmi : ∀ x ∈ m, I64 x) (h1 : I64 many) (h2 : I64 at_) (h3 : I64 how) (h4 : I64 by_) :
    Calls Try.prog 3 #[vl, vm, .int .i64 many, .int .i64 at_, .int .i64 how, .int .i64 by_, vr, .int .i64 vars] w fun e w' => e = .returned (.bool true) ∧ Below w.heap.size w w' := by
  have HD := Lib.hid (drawn_any l m many vl vm w hl hm hli hmi h1)
  have HR := Lib.hid hr
  have H2 := Lib.hid h2
  have H3 := Lib.hid h3
  have H4 := Lib.hid h4
  obtain ⟨al, capl, rfl, -⟩ := hl
  obtain ⟨am, capm, rfl, -⟩ := hm
  obtain ⟨ar, capr, rfl, ⟨hcapr, -⟩, -⟩ := hr
  clear hli hmi h1 h2 h3 h4
  go_enter Try.func3, Try.ntmps3
  go_wp2_with fail
  refine (HD.out).mono ?_
  rintro e w1 ⟨vc, vp, n, cs, pr, rfl, hn, hc, hp, hgc, hgp, hcl, hpl, hb1⟩
  have hpl2 : (pr ++ [[]]).length ≤ 19 := by simp; omega
  have hgp2 := goodL_empty hgp
  generalize pr ++ [[]] = pf at *
  have HC := Lib.hid hc
  have HP := Lib.hid hp
  have HGC := Lib.hid hgc
  have HGP := Lib.hid hgp2
  obtain ⟨ac, capc, rfl, -⟩ := hc
  obtain ⟨ap, capp, rfl, -⟩ := hp
  clear hgc hgp hgp2 HD hpl
  go_wp2_with fail
  refine (spoilt_any cs 4 at_ how by_ _ _ HC.out H2.out H3.out H4.out (by omega) (by omega) HGC.out.len4 (HGC.out.i64 hn.2)).mono ?_
  rintro e w2 ⟨vx, xs, rfl, hx, hxl, hxw, hxi, hb2⟩
  have HX := Lib.hid hx
  have HXW := Lib.hid hxw
  have HXI := Lib.hid hxi
  have HP2 := Lib.hid (HP.out.below (mono_rdl (mono_int _)) hb2)
  obtain ⟨ax, capx, rfl, -⟩ := hx
  clear hxw hxi
  go_wp2_with fail
  refine (spoilt_any pf 4 by_ at_ how _ _ HP2.out H4.out H2.out H3.out (by omega) (by omega) HGP.out.len4 (HGP.out.i64 hn.2)).mono ?_
  rintro e w3 ⟨vy, ys, rfl, hy, hyl, hyw, hyi, hb3⟩
  have HY := Lib.hid hy
  have HYW := Lib.hid hyw
  have HYI := Lib.hid hyi
  obtain ⟨ay, capy, rfl, -⟩ := hy
  clear hyw hyi
  have HB3 := Lib.hid (hb1.trans ((hb2.trans (hb3.mono hb2.size)).mono hb1.size))
  by_cases hraw : 40 < raw.length
  focus
    have HRS := Lib.hid (HR.out.take 40 (by omega))
    have hq : (raw.take 40).length ≤ 40 := by simp; omega
    go_wp2_with fail
    generalize Value.slice ar 40 capr = vq at HRS ⊢
    generalize raw.take 40 = rs at HRS hq
    clear hraw hcapr
    obtain ⟨aq, capq, rfl, -⟩ := HRS.out
  rotate_left
  focus
    have HRS := HR
    have hq : raw.length ≤ 40 := by omega
    go_wp2_with fail
    generalize Value.slice ar raw.length capr = vq at HRS ⊢
    clear hraw hcapr HR
    generalize hrs : raw = rs at HRS hq ⊢
    clear hrs
    obtain ⟨aq, capq, rfl, -⟩ := HRS.out
  all_goals
    refine (spoilt_any xs 5 by_ how at_ _ _ (HX.out.below (mono_rdl (mono_int _)) hb3) H4.out H3.out H2.out (by omega) (by omega) HXW.out HXI.out).mono ?_
    rintro e w4 ⟨vz, zs, rfl, hz, hzl, -, -, hb4⟩
    have HZ := Lib.hid hz
    have HY4 := Lib.hid (HY.out.below (mono_rdl (mono_int _)) hb4)
    obtain ⟨az, capz, rfl, -⟩ := hz
    have HB4 := Lib.hid (HB3.out.trans (hb4.mono HB3.out.size))
    have HCs := Lib.hid (Reads.cons (HC.out.below (mono_rdl (mono_int _)) (hb2.trans ((hb3.trans (hb4.mono hb3.size)).mono hb2.size))) (Reads.cons (HX.out.below (mono_rdl (mono_int _)) (hb3.trans (hb4.mono hb3.size))) (Reads.cons HZ.out (Reads.cons (HRS.out.below (mono_rdl (mono_int _)) HB4.out) (Reads.cons (RdL.nil w4) (Reads.nil _))))))
    go_wp2_with fail
    refine calls_gen ?_
    intro W hW
    have HWb : Hid (Below w4.heap.size w4 W) := Lib.hid (by rw [hW]; exact (Below.refl _ _).alloc (Nat.le_refl _) _)
    have HLs : Hid (RdL (RdL (RdL (IntV .i64))) W (.slice (some ⟨w4.heap.size, 0, none⟩) 5 5) [cs, xs, zs, rs, []]) := Lib.hid (lit_rd (mono_rdl (mono_rdl (mono_int .i64))) _ hW rfl rfl HCs.out (by simp))
    clear hW
    refine (spoilt_any ys 5 at_ by_ how _ W (HY4.out.below (mono_rdl (mono_int _)) HWb.out) H2.out H4.out H3.out (by omega) (by omega) HYW.out HYI.out).mono ?_
    rintro e w5 ⟨vu, us, rfl, hu, hul, -, -, hb5⟩
    have HU := Lib.hid hu
    obtain ⟨au, capu, rfl, -⟩ := hu
    have HB45 : Hid (Below w4.heap.size w4 w5) := Lib.hid (HWb.out.trans (hb5.mono HWb.out.size))
    have HB5 := Lib.hid (HB4.out.trans (HB45.out.mono HB4.out.size))
    have HLs5 := Lib.hid (HLs.out.below (mono_rdl (mono_rdl (mono_int _))) hb5)
    have HPs := Lib.hid (Reads.cons (HP2.out.below (mono_rdl (mono_int _)) (hb3.trans ((hb4.trans (HB45.out.mono hb4.size)).mono hb3.size))) (Reads.cons (HY4.out.below (mono_rdl (mono_int _)) HB45.out) (Reads.cons HU.out (Reads.cons (HRS.out.below (mono_rdl (mono_int _)) HB5.out) (Reads.cons (RdL.nil w5) (Reads.nil _))))))
    obtain ⟨W1, hW1⟩ : ∃ W1, W1 = w5.alloc (.cells #[.slice ap pf.length capp, .slice ay ys.length capy, .slice au us.length capu, .slice aq rs.length capq, .slice none 0 0] 23) := ⟨_, rfl⟩
    have HPs1 : Hid (RdL (RdL (RdL (IntV .i64))) W1 (.slice (some ⟨w5.heap.size, 0, none⟩) 5 5) [pf, ys, us, rs, []]) := Lib.hid (lit_rd (mono_rdl (mono_rdl (mono_int .i64))) _ hW1 rfl rfl HPs.out (by simp))
    have HB51 : Hid (Below w5.heap.size w5 W1) := Lib.hid (by rw [hW1]; exact (Below.refl _ _).alloc (Nat.le_refl _) _)
    have HW1 := Lib.hid hW1
    clear hW1 HCs HPs
    obtain ⟨W2, hW2⟩ : ∃ W2, W2 = W1.alloc (.cells #[.int .i64 n, .int .i64 (n - 1), .int .i64 (min vars 5000), .int .i64 4096, .int .i64 4097] 3) := ⟨_, rfl⟩
    have HB12 : Hid (Below W1.heap.size W1 W2) := Lib.hid (by rw [hW2]; exact (Below.refl _ _).alloc (Nat.le_refl _) _)
    have hs1 : W1.heap.size = w5.heap.size + 1 := by rw [HW1.out]; simp
    have HN : Hid (RdL (IntV .i64) W2 (.slice (some ⟨w5.heap.size + 1, 0, none⟩) 5 5) [(n : Int), n - 1, min vars 5000, 4096, 4097]) := Lib.hid (by rw [← hs1]; exact lit_ints _ hW2 rfl rfl (by simp))
    have HW2 := Lib.hid hW2
    have HS1 := Lib.hid hs1
    clear hW2 hs1
    go_wp2_with fail
    rw [← HW1.out, ← HW2.out]
    have HB52 : Hid (Below w5.heap.size w5 W2) := Lib.hid (HB51.out.trans (HB12.out.mono HB51.out.size))
    have HBW : Hid (Below w.heap.size w W2) := Lib.hid (HB5.out.trans (HB52.out.mono HB5.out.size))
    have HCW : Hid (RdL (RdL (IntV .i64)) W2 (.slice ac cs.length capc) cs) := Lib.hid (HC.out.below (mono_rdl (mono_int _)) (hb2.trans ((hb3.trans ((hb4.trans ((HB45.out.trans (HB52.out.mono HB45.out.size)).mono hb4.size)).mono hb3.size)).mono hb2.size)))
    have HPW : Hid (RdL (RdL (IntV .i64)) W2 (.slice ap pf.length capp) pf) := Lib.hid (HP2.out.below (mono_rdl (mono_int _)) (hb3.trans ((hb4.trans ((HB45.out.trans (HB52.out.mono HB45.out.size)).mono hb4.size)).mono hb3.size)))
    have HL : Hid (RdL (RdL (RdL (IntV .i64))) W2 (.slice (some ⟨w4.heap.size, 0, none⟩) 5 5) [cs, xs, zs, rs, []]) := Lib.hid (HLs5.out.below (mono_rdl (mono_rdl (mono_int _))) HB52.out)
    have HPF : Hid (RdL (RdL (RdL (IntV .i64))) W2 (.slice (some ⟨w5.heap.size, 0, none⟩) 5 5) [pf, ys, us, rs, []]) := Lib.hid (HPs1.out.below (mono_rdl (mono_rdl (mono_int _))) HB12.out)
    have HLL : Hid (∀ c ∈ [cs, xs, zs, rs, []], c.length ≤ 1000) := Lib.hid (by simp; omega)
    have HPL : Hid (∀ c ∈ [pf, ys, us, rs, []], c.length ≤ 1000) := Lib.hid (by simp; omega)
    have hcl2 : cs.length ≤ 100000 := by omega
    have hpl3 : pf.length ≤ 100000 := by omega
    clear hcl hpl2 hxl hyl hul hzl hq HPs1 HB51 HB12 HB52 HLs HLs5 HB45 HW1 HW2 HS1 HWb hb5 hb4 hb3 hb2 hb1 HC HP HX HY HY4 HZ HU HRS HP2 HXW HXI HYW HYI HB3 HB4 HB5 H2 H3 H4
    generalize [cs, xs, zs, rs, []] = L at HL HLL
    generalize [pf, ys, us, rs, []] = PF at HPF HPL
    generalize [(n : Int), n - 1, min vars 5000, 4096, 4097] = NS at HN
    obtain ⟨hL5, hLa⟩ := HL.out.at
    obtain ⟨hP5, hPa⟩ := HPF.out.at
    obtain ⟨hN5, hNa⟩ := HN.out.at
    have HLA := Lib.hid hLa
    have HPA := Lib.hid hPa
    have HNA := Lib.hid hNa
    have HL5 := Lib.hid hL5
    have HP5 := Lib.hid hP5
    have HN5 := Lib.hid hN5
    clear hLa hPa hNa hL5 hP5 hN5
    go_loopg [25] 5 (fun gh i wr => ∃ (k : Nat), gh = 5 - k ∧ i = .int .i64 k ∧ k ≤ 5 ∧ Below W2.heap.size W2 wr)
    case atStart => exact ⟨0, by omega, rfl, by omega, Below.refl _ _⟩
    case round =>
      obtain ⟨i, rfl, rfl, hi, hbr⟩ := hrel
      by_cases hlt : i < 5
      · obtain ⟨uA, hgA, hcA0, hrA⟩ := HLA.out i (by have := HL5.out; omega)
        have HLEN := Lib.hid (HLL.out _ (List.getElem_mem (show i < L.length by have := HL5.out; omega)))
        obtain ⟨uN, hgN, hcN0, hrN⟩ := HNA.out i (by have := HN5.out; omega)
        generalize L[i] = la at *
        generalize NS[i] = na at *
        have hla := HLEN.out
        unfold IntV at hrN
        subst hrN
        have HRA := Lib.hid hrA
        obtain ⟨aA, capA, rfl, -⟩ := hrA
        obtain ⟨wo, rfl⟩ : ∃ wo : World, wo = wr := ⟨_, rfl⟩
        have hi5 : (i : Int) < 5 := by omega
        have hdi : decide ((i : Int) < 5) = true := by rw [decide_eq_true_eq]; omega
        go_wp2_with fail
        go_loopg [26] 5 (fun gh j wr => ∃ (k : Nat), gh = 5 - k ∧ j = .int .i64 k ∧ k ≤ 5 ∧ Below W2.heap.size W2 wr)
        case atStart => exact ⟨0, by omega, rfl, by omega, hbr⟩
        case round =>
          clear hbr
          obtain ⟨k, rfl, rfl, hk, hbr⟩ := hrel
          by_cases hlt2 : k < 5
          · obtain ⟨uB, hgB, hcB0, hrB⟩ := HPA.out k (by have := HP5.out; omega)
            have HLEN2 := Lib.hid (HPL.out _ (List.getElem_mem (show k < PF.length by have := HP5.out; omega)))
            generalize PF[k] = lb at *
            have hlb := HLEN2.out
            have HRB := Lib.hid hrB
            obtain ⟨aB, capB, rfl, -⟩ := hrB
            have hbs := hbr.size
            have HA : Hid (∀ W, Below wr.heap.size wr W → RdL (RdL (IntV .i64)) W (.slice aA la.length capA) la) := Lib.hid (fun W hW => HRA.out.below (mono_rdl (mono_int _)) (hbr.trans (hW.mono hbs)))
            have HB : Hid (∀ W, Below wr.heap.size wr W → RdL (RdL (IntV .i64)) W (.slice aB lb.length capB) lb) := Lib.hid (fun W hW => HRB.out.below (mono_rdl (mono_int _)) (hbr.trans (hW.mono hbs)))
            have HK : Hid (∀ W, Below wr.heap.size wr W → Below wr.heap.size wr W ∧ W.cell? ⟨w4.heap.size, i, none⟩ = some (.slice aA la.length capA) ∧ W.cell? ⟨w5.heap.size, k, none⟩ = some (.slice aB lb.length capB)) := Lib.hid (fun W hW => ⟨hW, ((hbr.trans (hW.mono hbs)).cell (p := ⟨w4.heap.size, i, none⟩) hgA).trans hcA0, ((hbr.trans (hW.mono hbs)).cell (p := ⟨w5.heap.size, k, none⟩) hgB).trans hcB0⟩)
            clear hcA0 hcB0 hcN0
            go_wp2_with fail
            go_region_held3 (fun w' => Below wr.heap.size wr w' ∧ w'.cell? ⟨w4.heap.size, i, none⟩ = some (.slice aA la.length capA) ∧ w'.cell? ⟨w5.heap.size, k, none⟩ = some (.slice aB lb.length capB)) ((refine HK.out _ ?_; repeat (first | assumption | exact And.left (by assumption) | exact Below.refl _ _ | refine below_drew' ?_ | refine below_alloc' ?_ _))) (first | (go_at_call 12; refine (check_any _ _ _ _ _ _ (HA.out _ (by repeat (first | assumption | exact And.left (by assumption) | exact Below.refl _ _ | refine below_drew' ?_ | refine below_alloc' ?_ _))) (HB.out _ (by repeat (first | assumption | exact And.left (by assumption) | exact Below.refl _ _ | refine below_drew' ?_ | refine below_alloc' ?_ _))) (by omega) (by omega)).mono ?_; rintro e w7 ⟨rfl, hb7⟩; have hS7 : Below wr.heap.size wr w7 := Below.trans (show Below wr.heap.size wr _ by repeat (first | assumption | exact And.left (by assumption) | exact Below.refl _ _ | refine below_drew' ?_ | refine below_alloc' ?_ _)) (hb7.mono (Below.size (show Below wr.heap.size wr _ by repeat (first | assumption | exact And.left (by assumption) | exact Below.refl _ _ | refine below_drew' ?_ | refine below_alloc' ?_ _))))) | (go_at_call 13; refine (rcheck_any _ _ _ _ _ _ (HA.out _ (by repeat (first | assumption | exact And.left (by assumption) | exact Below.refl _ _ | refine below_drew' ?_ | refine below_alloc' ?_ _))) (HB.out _ (by repeat (first | assumption | exact And.left (by assumption) | exact Below.refl _ _ | refine below_drew' ?_ | refine below_alloc' ?_ _))) (by omega) (by omega)).mono ?_; rintro e w8 ⟨rfl, hb8⟩; have hS8 : Below wr.heap.size wr w8 := Below.trans (show Below wr.heap.size wr _ by repeat (first | assumption | exact And.left (by assumption) | exact Below.refl _ _ | refine below_drew' ?_ | refine below_alloc' ?_ _)) (hb8.mono (Below.size (show Below wr.heap.size wr _ by repeat (first | assumption | exact And.left (by assumption) | exact Below.refl _ _ | refine below_drew' ?_ | refine below_alloc' ?_ _))))))
            go_wp2_with fail
            go_roundg (5 - (k + 1))
            case measure => omega
            case rel => exact ⟨k + 1, rfl, by go_num, by omega, hbr.trans (hS8.mono hbs)⟩
          · have hbs := hbr.size
            have HA : Hid (∀ W, Below wr.heap.size wr W → RdL (RdL (IntV .i64)) W (.slice ac cs.length capc) cs) := Lib.hid (fun W hW => HCW.out.below (mono_rdl (mono_int _)) (hbr.trans (hW.mono hbs)))
            have HB : Hid (∀ W, Below wr.heap.size wr W → RdL (RdL (IntV .i64)) W (.slice ap pf.length capp) pf) := Lib.hid (fun W hW => HPW.out.below (mono_rdl (mono_int _)) (hbr.trans (hW.mono hbs)))
            have HK : Hid (∀ W, Below wr.heap.size wr W → Below wr.heap.size wr W ∧ W.cell? ⟨w5.heap.size + 1, i, none⟩ = some (.int .i64 na)) := Lib.hid (fun W hW => ⟨hW, ((hbr.trans (hW.mono hbs)).cell (p := ⟨w5.heap.size + 1, i, none⟩) hgN).trans hcN0⟩)
            clear hcA0 hcN0
            go_wp2_with fail
            go_region_held3 (fun w' => Below wr.heap.size wr w' ∧ w'.cell? ⟨w5.heap.size + 1, i, none⟩ = some (.int .i64 na)) ((refine HK.out _ ?_; repeat (first | assumption | exact And.left (by assumption) | exact Below.refl _ _ | refine below_drew' ?_ | refine below_alloc' ?_ _))) (first | (go_at_call 12; refine (check_any _ _ _ _ _ _ (HA.out _ (by repeat (first | assumption | exact And.left (by assumption) | exact Below.refl _ _ | refine below_drew' ?_ | refine below_alloc' ?_ _))) (HB.out _ (by repeat (first | assumption | exact And.left (by assumption) | exact Below.refl _ _ | refine below_drew' ?_ | refine below_alloc' ?_ _))) (by omega) (by omega)).mono ?_; rintro e w7 ⟨rfl, hb7⟩; have hS7 : Below wr.heap.size wr w7 := Below.trans (show Below wr.heap.size wr _ by repeat (first | assumption | exact And.left (by assumption) | exact Below.refl _ _ | refine below_drew' ?_ | refine below_alloc' ?_ _)) (hb7.mono (Below.size (show Below wr.heap.size wr _ by repeat (first | assumption | exact And.left (by assumption) | exact Below.refl _ _ | refine below_drew' ?_ | refine below_alloc' ?_ _))))) | (go_at_call 13; refine (rcheck_any _ _ _ _ _ _ (HA.out _ (by repeat (first | assumption | exact And.left (by assumption) | exact Below.refl _ _ | refine below_drew' ?_ | refine below_alloc' ?_ _))) (HB.out _ (by repeat (first | assumption | exact And.left (by assumption) | exact Below.refl _ _ | refine below_drew' ?_ | refine below_alloc' ?_ _))) (by omega) (by omega)).mono ?_; rintro e w8 ⟨rfl, hb8⟩; have hS8 : Below wr.heap.size wr w8 := Below.trans (show Below wr.heap.size wr _ by repeat (first | assumption | exact And.left (by assumption) | exact Below.refl _ _ | refine below_drew' ?_ | refine below_alloc' ?_ _)) (hb8.mono (Below.size (show Below wr.heap.size wr _ by repeat (first | assumption | exact And.left (by assumption) | exact Below.refl _ _ | refine below_drew' ?_ | refine below_alloc' ?_ _))))))
            go_wp2_with fail
            go_roundg (5 - (i + 1))
            case measure => omega
            case rel => exact ⟨i + 1, rfl, by go_num, by omega, hbr.trans (hS8.mono hbs)⟩
      · have HBR := Lib.hid (HBW.out.trans (hbr.mono HBW.out.size))
        clear hbr
        go_wp2_with fail
        refine (lives_any _).mono ?_
        rintro e w9 ⟨rfl, hb9⟩
        go_wp2_with fail
        go_ret
        exact ⟨rfl, HBR.out.trans (hb9.mono HBR.out.size)⟩
end Go.Proofs.Ythagkljenbhbdaa
