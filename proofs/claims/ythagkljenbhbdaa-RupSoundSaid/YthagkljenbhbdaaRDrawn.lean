/-
  The walk of the law's generator 'drawn'. What it returns is of a known size and of known literals, and the proof ends with the empty clause; nothing that was in memory before the call is changed.
-/
import Derived.Test.YthagkljenbhbdaaRGen
import Derived.Test.YthagkljenbhbdaaStep
namespace Go.Proofs.Ythagkljenbhbdaa
open Go Go.RowKit

theorem GoodL.lits {n : Nat} {cs : List (List Int)} (h : GoodL n cs) : LitsAll (n + 1) cs := fun c hc x hx => by
  have := (h c hc).2 x hx
  omega
theorem GoodL.wide {n : Nat} {cs : List (List Int)} (h : GoodL n cs) : ∀ c ∈ cs, c.length ≤ 100000 := fun c hc => by
  have := (h c hc).1
  omega
theorem GoodL.append {n : Nat} {cs ds : List (List Int)} (h : GoodL n cs) (k : GoodL n ds) : GoodL n (cs ++ ds) := fun c hc => by
  rcases List.mem_append.1 hc with hc | hc
  · exact h c hc
  · exact k c hc
theorem goodC_nil (n : Nat) : GoodC n [] := ⟨by simp, fun x hx => by simp at hx⟩
theorem goodC_one {n : Nat} {x : Int} (h0 : x ≠ 0) (h1 : -(n : Int) ≤ x) (h2 : x ≤ n) : GoodC n [x] := ⟨by simp, fun y hy => by simp at hy; subst hy; exact ⟨h0, h1, h2⟩⟩
theorem GoodC.lits {n : Nat} {c : List Int} (h : GoodC n c) : Lits (n + 1) c := fun x hx => by
  have := h.2 x hx
  omega

theorem below_alloc' {a w : World} (h : Below a.heap.size a w) (o : Obj) : Below a.heap.size a (w.alloc o) := h.alloc h.size _
theorem below_drew' {a w : World} (h : Below a.heap.size a w) : Below a.heap.size a w.drew := h.drew

theorem conflict_rd {n : Nat} {cs : List (List Int)} (h : GoodL n cs) : LitsAll (n + 1) cs := h.lits

set_option maxRecDepth 100000 in
set_option maxHeartbeats 4000000 in
theorem drawn_any (l m : List Int) (many : Int) (vl vm : Value) (w : World) (hl : RdL (IntV .i64) w vl l) (hm : RdL (IntV .i64) w vm m) (hli : ∀ x ∈ l, I64 x) (hmi : ∀ x ∈ m, I64 x) (hmany : I64 many) :
    Calls Try.prog 10 #[vl, vm, .int .i64 many] w fun e w' => ∃ vc vp n cs pr, e = .returned (.tuple #[.int .i64 (n : Nat), vc, vp]) ∧ (2 ≤ n ∧ n ≤ 5) ∧ RdL (RdL (IntV .i64)) w' vc cs ∧ RdL (RdL (IntV .i64)) w' vp (pr ++ [[]]) ∧ GoodL n cs ∧ GoodL n pr ∧ cs.length ≤ 22 ∧ pr.length ≤ 18 ∧ Below w.heap.size w w' := by
  have HM := Lib.hid hm
  have HMI := Lib.hid hmi
  have HA := Lib.hid (around_any many 4 w hmany.1 hmany.2 (by omega) (by omega))
  have HL := Lib.hid hl
  have HLI := Lib.hid hli
  obtain ⟨al, capl, rfl, -⟩ := hl
  obtain ⟨am, capm, rfl, -⟩ := hm
  clear hli hmi hmany
  go_enter Try.func10, Try.ntmps10
  go_wp2_with fail
  refine (HA.out).mono ?_
  rintro e w1 ⟨⟨r, hr, rfl⟩, rfl⟩
  have hn : 2 ≤ r + 2 ∧ r + 2 ≤ 5 := by omega
  obtain ⟨n, hnr⟩ : ∃ n, n = r + 2 := ⟨_, rfl⟩
  rw [← hnr] at hn
  go_wp2_with fail
  rw [show (2 + (r : Int)) = (n : Int) from by omega]
  clear hnr hr HA
  refine (clauses_any n l _ w HL.out HLI.out hn).mono ?_
  rintro e w2 ⟨vc, cs, rfl, hrc, hgc, hcl, hb2⟩
  go_wp2_with fail
  refine (clauses_any n m _ w2 (HM.out.below (mono_int _) hb2) HMI.out hn).mono ?_
  rintro e w3 ⟨vs, so, rfl, hrs, hgs, hsl, hb3⟩
  have hb := hb2.trans (hb3.mono hb2.size)
  have HRC := Lib.hid (hrc.below (mono_rdl (mono_int _)) hb3)
  have HGC := Lib.hid hgc
  have HGS := Lib.hid hgs
  have HRS := Lib.hid hrs
  have hb0 := hb.size
  obtain ⟨ac, capc, rfl, -⟩ := hrc
  obtain ⟨asx, caps, rfl, s1, s2, s3⟩ := hrs
  have HS3 := Lib.hid s3
  clear hb2 hb3 s1 s2 s3 hgc hgs
  go_wp2_with fail
  go_loopg [11, 13] 8 (fun gh x i wr => ∃ (k : Nat) (pr : List (List Int)), gh = 8 - k ∧ i = .int .i64 k ∧ k ≤ 8 ∧ pr.length ≤ k ∧ OwnL (RdL (IntV .i64)) wr w3.heap.size 22 x pr ∧ Hid (GoodL n pr) ∧ Below w3.heap.size w3 wr)
  case atStart => exact ⟨0, [], by omega, rfl, by omega, by simp, OwnL.nil _ _ _, Lib.hid (fun c hc => by simp at hc), Below.refl _ _⟩
  case round =>
    obtain ⟨k, pr, rfl, rfl, hk, hpl, hown, HG, hbr⟩ := hrel
    have HOwn := Lib.hid hown
    obtain ⟨ap, capp, rfl⟩ := hown.len
    clear hown
    by_cases hgo : k < so.length ∧ k < 8
    · obtain ⟨hg1, hg2⟩ := hgo
      obtain ⟨b, off, u, rfl, hbl, hcell0, hu⟩ := HS3.out k hg1
      have hcell := (hbr.cell (p := ⟨b, off + k, none⟩) hbl).trans hcell0
      have HMem := Lib.hid (List.getElem_mem hg1)
      have HU := Lib.hid hu
      generalize hx : so[k] = c at *
      have HGc := Lib.hid (HGS.out c HMem.out)
      obtain ⟨vs1, hv1, hr1⟩ := (HRC.out.below (mono_rdl (mono_int _)) hbr).vals
      obtain ⟨vs2, hv2, hr2⟩ := HOwn.out.rd.vals
      have hl1 := hr1.1
      have hl2 := hr2.1
      have HV1 := Lib.hid hv1
      have HV2 := Lib.hid hv2
      have HR12 := Lib.hid (hr1.append hr2)
      have HO1 := Lib.hid (reads_oneCell hr1)
      have HO2 := Lib.hid (reads_oneCell hr2)
      have hbrs := hbr.size
      have HK2 : Hid (∀ W, Below wr.heap.size wr W → Below wr.heap.size wr W ∧ W.cell? ⟨b, off + k, none⟩ = some u) := Lib.hid (fun W hW => ⟨hW, (hW.cell (p := ⟨b, off + k, none⟩) (show b < wr.heap.size from Nat.lt_of_lt_of_le hbl hbrs)).trans hcell⟩)
      obtain ⟨au, capu, rfl, -⟩ := hu
      clear hcell0 hx hv1 hv2 hr1 hr2
      go_wp2_with fail
      have hbl3 : b < wr.heap.size := Nat.lt_of_lt_of_le hbl hbrs
      have HUW := Lib.hid (fun W (hW : Below wr.heap.size wr W) => HU.out.below (mono_int _) (hbr.trans (hW.mono hbrs)))
      cases hcf : conflict n (cs ++ pr) (neg c)
      all_goals
        have HCF := Lib.hid hcf
        clear hcf
        go_region_held3 (fun w' => Below wr.heap.size wr w' ∧ w'.cell? ⟨b, off + k, none⟩ = some (.slice au c.length capu)) ((refine HK2.out _ ?_; repeat (first | assumption | exact And.left (by assumption) | exact Below.refl _ _ | refine below_drew' ?_ | refine below_alloc' ?_ _))) (first | (refine step_extend elemSlice rfl (.tmp 36) (.tmp 37) rfl wr.heap.size _ [] _ vs1 rfl rfl (by first | exact (OwnS.lit wr wr.heap.size _ [] (Nat.le_refl _) (Nat.zero_le _)).drew | exact OwnS.lit wr wr.heap.size _ [] (Nat.le_refl _) (Nat.zero_le _)) (HV1.out.below (by repeat (first | assumption | exact And.left (by assumption) | exact Below.refl _ _ | refine below_drew' ?_ | refine below_alloc' ?_ _))) HO1.out (by simp only [List.length_nil]; omega) (by unfold maxLen; simp only [List.length_nil]; omega) (by simp) ?_; rw [List.nil_append]; intro v1 w5 hown5 hb5; have hS5 : Below wr.heap.size wr w5 := Below.trans (by repeat (first | assumption | exact And.left (by assumption) | exact Below.refl _ _ | refine below_drew' ?_ | refine below_alloc' ?_ _)) hb5) | (refine step_extend elemSlice rfl (.tmp 38) (.tmp 39) rfl wr.heap.size _ vs1 _ vs2 rfl rfl (by first | exact hown5 | exact hown5.drew) (HV2.out.below (by repeat (first | assumption | exact And.left (by assumption) | exact Below.refl _ _ | refine below_drew' ?_ | refine below_alloc' ?_ _))) HO2.out (by omega) (by unfold maxLen; omega) (by first | exact hS5.size | exact hS5.drew.size) ?_; intro v2 w6 hown6 hb6; have hS6 : Below wr.heap.size wr w6 := Below.trans (by repeat (first | assumption | exact And.left (by assumption) | exact Below.refl _ _ | refine below_drew' ?_ | refine below_alloc' ?_ _)) hb6) | (go_at_call 26; refine (rfollows_any n (cs ++ pr) c _ _ _ (by first | exact hown6.rdv.rd (HR12.out.mono (mono_rdl (mono_int _)) hS6) | exact hown6.drew.rdv.rd (HR12.out.mono (mono_rdl (mono_int _)) hS6.drew)) (HUW.out _ (by repeat (first | assumption | exact And.left (by assumption) | exact Below.refl _ _ | refine below_drew' ?_ | refine below_alloc' ?_ _))) (by omega) (HGC.out.append HG.out).lits HGc.out.lits (by have := HGc.out.1; omega)).mono ?_; rw [HCF.out]; rintro e w7 ⟨rfl, hb7⟩; have hS7 : Below wr.heap.size wr w7 := Below.trans (show Below wr.heap.size wr _ by repeat (first | assumption | exact And.left (by assumption) | exact Below.refl _ _ | refine below_drew' ?_ | refine below_alloc' ?_ _)) (hb7.mono (by first | exact hS6.size | exact hS6.drew.size))))
      · go_wp2_with fail
        go_roundg (8 - (k + 1))
        case measure => omega
        case rel => exact ⟨k + 1, pr, rfl, by go_num, by omega, by omega, HOwn.out.below hS7, HG, hbr.trans (hS7.mono hbrs)⟩
      · have hcell7 := (HK2.out _ hS7).2
        have HO7 := Lib.hid (HOwn.out.below hS7)
        have HE7 := Lib.hid (StR.of_old (E := 22) (mono_rdl (mono_int .i64)) HU.out (hbr.trans (hS7.mono hbrs)))
        have hone7 : (Value.slice au c.length capu).oneCell' = true := rfl
        have hbs7 := hS7.size
        go_wp2_with (at_builtin; refine wpList_pushL elemSlice rfl (.tmp 46) (.tmp 51) rfl w3.heap.size _ pr _ c rfl rfl HO7.out HE7.out hone7 (by omega) (by unfold maxLen; omega) (by omega) ?_; intro v' w8 hown8 _ hb8)
        go_roundg (8 - (k + 1))
        case measure => omega
        case rel => exact ⟨k + 1, pr ++ [c], rfl, by go_num, by omega, by simp; omega, hown8, Lib.hid (goodL_snoc HG.out HGc.out), (hbr.trans (hS7.mono hbrs)).trans hb8⟩
    · have hnot : ¬ (k < so.length ∧ k < 8) := hgo
      by_cases hg1 : k < so.length
      all_goals
        try have hg2 : ¬ k < 8 := by omega
        clear hgo hnot
        go_wp2_with fail
        go_loopg [11, 14] 5 (fun gh x i w4 => ∃ (t : Nat) (pr : List (List Int)), gh = 6 - t ∧ i = .int .i64 t ∧ 1 ≤ t ∧ t ≤ n + 1 ∧ pr.length ≤ 8 + 2 * (t - 1) ∧ OwnL (RdL (IntV .i64)) w4 w3.heap.size 22 x pr ∧ Hid (GoodL n pr) ∧ Below w3.heap.size w3 w4)
        case atStart => exact ⟨1, pr, by omega, rfl, by omega, by omega, by omega, HOwn.out, HG, hbr⟩
        case round =>
          clear hbr HG HOwn hpl hk hg1
          obtain ⟨t, pr2, rfl, rfl, ht1, ht2, hpl, hown, HG, hbr⟩ := hrel
          have HOwn := Lib.hid hown
          obtain ⟨ap2, capp2, rfl⟩ := hown.len
          clear hown
          by_cases htn : t ≤ n
          · have hbrs := hbr.size
            go_wp2_with fail
            go_loopg [11, 15] 2 (fun gh x i w5 => ∃ (s : Int) (pr3 : List (List Int)), gh = ((3 - s) / 2).toNat ∧ i = .int .i64 s ∧ (s = -1 ∨ s = 1 ∨ s = 3) ∧ (pr3.length : Int) ≤ 8 + 2 * (t - 1) + (s + 1) / 2 ∧ OwnL (RdL (IntV .i64)) w5 w3.heap.size 22 x pr3 ∧ Hid (GoodL n pr3) ∧ Below w3.heap.size w3 w5)
            case atStart => exact ⟨-1, pr2, by omega, rfl, .inl rfl, by omega, HOwn.out, HG, hbr⟩
            case round =>
              clear hbr HG HOwn hpl hbrs
              obtain ⟨s, pr3, rfl, rfl, hs, hpl, hown, HG, hbr⟩ := hrel
              have HOwn := Lib.hid hown
              obtain ⟨ap3, capp3, rfl⟩ := hown.len
              clear hown
              have hbrs := hbr.size
              rcases (show s = 3 ∨ (s = -1 ∨ s = 1) from by omega) with hs3 | hs2
              · subst hs3
                clear hs
                go_wp2_with fail
                go_roundg (6 - (t + 1))
                case measure => omega
                case rel => exact ⟨t + 1, pr3, rfl, by go_num, by omega, by omega, by omega, HOwn.out, HG, hbr⟩
              · clear hs
                obtain ⟨vs1, hv1, hr1⟩ := (HRC.out.below (mono_rdl (mono_int _)) hbr).vals
                obtain ⟨vs2, hv2, hr2⟩ := HOwn.out.rd.vals
                have hl1 := hr1.1
                have hl2 := hr2.1
                have HV1 := Lib.hid hv1
                have HV2 := Lib.hid hv2
                have HR12 := Lib.hid (hr1.append hr2)
                have HO1 := Lib.hid (reads_oneCell hr1)
                have HO2 := Lib.hid (reads_oneCell hr2)
                clear hv1 hv2 hr1 hr2
                have HA : Hid (Below wr.heap.size wr (wr.alloc (.cells #[] 22))) := Lib.hid ((Below.refl _ _).alloc (Nat.le_refl _) _)
                rcases hs2 with rfl | rfl
                · go_wp2_with (first | (at_builtin; refine wpList_extend elemSlice rfl (.tmp 63) (.tmp 64) rfl wr.heap.size _ [] _ vs1 rfl rfl (OwnS.lit wr wr.heap.size _ [] (Nat.le_refl _) (Nat.zero_le _)) (HV1.out.below HA.out) HO1.out (by simp only [List.length_nil]; omega) (by unfold maxLen; simp only [List.length_nil]; omega) (by simp) ?_; rw [List.nil_append]; intro v1 w5 hown5 _ hb5; have hS5 : Below wr.heap.size wr w5 := HA.out.trans hb5) | (at_builtin; refine wpList_extend elemSlice rfl (.tmp 65) (.tmp 66) rfl wr.heap.size _ vs1 _ vs2 rfl rfl hown5 (HV2.out.below hS5) HO2.out (by omega) (by unfold maxLen; omega) hS5.size ?_; intro v2 w6 hown6 _ hb6; have hS6 : Below wr.heap.size wr w6 := hS5.trans hb6))
                  have hS6a : Below wr.heap.size wr (w6.alloc (.cells #[.int .i64 (-(t : Int))] 3)) := hS6.alloc hS6.size _
                  refine (rfollows_any n (cs ++ pr3) [-(t : Int)] _ _ _ ((hown6.alloc _).rdv.rd (HR12.out.mono (mono_rdl (mono_int _)) hS6a)) (OwnS.rdInts (zs := [-(t : Int)]) (OwnS.lit w6 wr.heap.size 3 [.int .i64 (-(t : Int))] hS6.size (by unfold maxLen; simp))) (by omega) (HGC.out.append HG.out).lits (goodC_one (n := n) (by omega) (by omega) (by omega)).lits (by simp)).mono ?_
                  generalize conflict n (cs ++ pr3) (neg [-(t : Int)]) = bb
                  rintro e w7 ⟨rfl, hb7⟩
                  have hS7 : Below wr.heap.size wr w7 := hS6a.trans (hb7.mono hS6a.size)
                  have hbs7 := hS7.size
                  have HO7 := Lib.hid (HOwn.out.below hS7)
                  clear hS6a hown6
                  cases bb
                  · go_wp2_with fail
                    go_roundg (((3 - (1)) / 2 : Int).toNat)
                    case measure => omega
                    case rel => exact ⟨1, pr3, rfl, by go_num, by omega, by omega, HO7.out, HG, hbr.trans (hS7.mono hbrs)⟩
                  · have HO8 := Lib.hid (HO7.out.below ((Below.refl _ w7).alloc (Nat.le_refl _) (.cells #[.int .i64 (-(t : Int))] 3)))
                    have HE8 := Lib.hid (StR.of_own (OwnS.lit w7 wr.heap.size 3 [.int .i64 (-(t : Int))] hbs7 (by unfold maxLen; simp)) (by decide) (Reads.ints w3.heap.size 22 .i64 _ [-(t : Int)]))
                    go_wp2_with (at_builtin; refine wpList_pushL elemSlice rfl (.tmp 73) (.tmp 78) rfl w3.heap.size _ pr3 _ [-(t : Int)] rfl (by simp [Act.eval]) HO8.out HE8.out rfl (by omega) (by unfold maxLen; omega) (by simp; omega) ?_; intro v' w8 hown8 _ hb8)
                    go_roundg (((3 - (1)) / 2 : Int).toNat)
                    case measure => omega
                    case rel => exact ⟨1, pr3 ++ [[-(t : Int)]], rfl, by go_num, by omega, by simp; omega, hown8, Lib.hid (goodL_snoc HG.out (goodC_one (by omega) (by omega) (by omega))), ((hbr.trans (hS7.mono hbrs)).trans ((Below.refl _ _).alloc (by omega) _)).trans hb8⟩
                · go_wp2_with (first | (at_builtin; refine wpList_extend elemSlice rfl (.tmp 63) (.tmp 64) rfl wr.heap.size _ [] _ vs1 rfl rfl (OwnS.lit wr wr.heap.size _ [] (Nat.le_refl _) (Nat.zero_le _)) (HV1.out.below HA.out) HO1.out (by simp only [List.length_nil]; omega) (by unfold maxLen; simp only [List.length_nil]; omega) (by simp) ?_; rw [List.nil_append]; intro v1 w5 hown5 _ hb5; have hS5 : Below wr.heap.size wr w5 := HA.out.trans hb5) | (at_builtin; refine wpList_extend elemSlice rfl (.tmp 65) (.tmp 66) rfl wr.heap.size _ vs1 _ vs2 rfl rfl hown5 (HV2.out.below hS5) HO2.out (by omega) (by unfold maxLen; omega) hS5.size ?_; intro v2 w6 hown6 _ hb6; have hS6 : Below wr.heap.size wr w6 := hS5.trans hb6))
                  have hS6a : Below wr.heap.size wr (w6.alloc (.cells #[.int .i64 ((t : Int))] 3)) := hS6.alloc hS6.size _
                  refine (rfollows_any n (cs ++ pr3) [(t : Int)] _ _ _ ((hown6.alloc _).rdv.rd (HR12.out.mono (mono_rdl (mono_int _)) hS6a)) (OwnS.rdInts (zs := [(t : Int)]) (OwnS.lit w6 wr.heap.size 3 [.int .i64 ((t : Int))] hS6.size (by unfold maxLen; simp))) (by omega) (HGC.out.append HG.out).lits (goodC_one (n := n) (by omega) (by omega) (by omega)).lits (by simp)).mono ?_
                  generalize conflict n (cs ++ pr3) (neg [(t : Int)]) = bb
                  rintro e w7 ⟨rfl, hb7⟩
                  have hS7 : Below wr.heap.size wr w7 := hS6a.trans (hb7.mono hS6a.size)
                  have hbs7 := hS7.size
                  have HO7 := Lib.hid (HOwn.out.below hS7)
                  clear hS6a hown6
                  cases bb
                  · go_wp2_with fail
                    go_roundg (((3 - (3)) / 2 : Int).toNat)
                    case measure => omega
                    case rel => exact ⟨3, pr3, rfl, by go_num, by omega, by omega, HO7.out, HG, hbr.trans (hS7.mono hbrs)⟩
                  · have HO8 := Lib.hid (HO7.out.below ((Below.refl _ w7).alloc (Nat.le_refl _) (.cells #[.int .i64 ((t : Int))] 3)))
                    have HE8 := Lib.hid (StR.of_own (OwnS.lit w7 wr.heap.size 3 [.int .i64 ((t : Int))] hbs7 (by unfold maxLen; simp)) (by decide) (Reads.ints w3.heap.size 22 .i64 _ [(t : Int)]))
                    go_wp2_with (at_builtin; refine wpList_pushL elemSlice rfl (.tmp 73) (.tmp 78) rfl w3.heap.size _ pr3 _ [(t : Int)] rfl (by simp [Act.eval]) HO8.out HE8.out rfl (by omega) (by unfold maxLen; omega) (by simp; omega) ?_; intro v' w8 hown8 _ hb8)
                    go_roundg (((3 - (3)) / 2 : Int).toNat)
                    case measure => omega
                    case rel => exact ⟨3, pr3 ++ [[(t : Int)]], rfl, by go_num, by omega, by simp; omega, hown8, Lib.hid (goodL_snoc HG.out (goodC_one (by omega) (by omega) (by omega))), ((hbr.trans (hS7.mono hbrs)).trans ((Below.refl _ _).alloc (by omega) _)).trans hb8⟩
          · have HP := Lib.hid HOwn.out
            go_wp2_with (at_builtin; refine wpList_pushL elemSlice rfl (.tmp 82) (.tmp 83) rfl w3.heap.size _ pr2 _ [] rfl rfl HP.out (StR.nil _) rfl (by omega) (by unfold maxLen; omega) hbr.size ?_; intro v' w8 hown8 _ hb8)
            have hbf := hbr.trans hb8
            have HF1 := Lib.hid (HRC.out.below (mono_rdl (mono_int _)) hbf)
            have HF2 := Lib.hid hown8.rd
            clear hown8
            go_ret3
            exact ⟨_, _, n, cs, pr2, rfl, hn, HF1.out, HF2.out, HGC.out, HG.out, hcl, by omega, hb.trans (hbf.mono hb0)⟩
end Go.Proofs.Ythagkljenbhbdaa
