/-
  The walk of the reference's Spoilt: some list of lists, of at most one clause more, each of at most one literal more; nothing that was in memory before the call is changed.
-/
import Derived.Test.YthagkljenbhbdaaRGen
import Derived.Test.YthagkljenbhbdaaStep
namespace Go.Proofs.Ythagkljenbhbdaa
open Go Go.RowKit

theorem own_pos {w : World} {base : Nat} {e : TypeId} {v : Value} {xs : List Value} (h : OwnS w base e v xs) (hp : 0 < xs.length) : ∃ g cap, v = .slice (some ⟨g, 0, none⟩) xs.length cap ∧ base ≤ g ∧ g < w.heap.size := by
  rcases h.shape with ⟨_, rfl⟩ | ⟨g, cap, hv, hb, hg, _⟩
  · simp at hp
  · exact ⟨g, cap, hv, hb, hg⟩
theorem spoilt_set {ls : List (List Int)} {k B : Nat} {c : List Int} (h : ∀ d ∈ ls, d.length ≤ B) (hc : c.length ≤ B + 1) : ∀ d ∈ ls.set k c, d.length ≤ B + 1 := by
  intro d hd
  rcases List.mem_or_eq_of_mem_set hd with hd | rfl
  · have := h d hd; omega
  · exact hc
theorem spoilt_set64 {ls : List (List Int)} {k : Nat} {c : List Int} (h : ∀ d ∈ ls, ∀ x ∈ d, I64 x) (hc : ∀ x ∈ c, I64 x) : ∀ d ∈ ls.set k c, ∀ x ∈ d, I64 x := by
  intro d hd
  rcases List.mem_or_eq_of_mem_set hd with hd | rfl
  · exact h d hd
  · exact hc
theorem rdInts_rdv {w : World} {v : Value} {c : List Int} (h : RdL (IntV .i64) w v c) : RdV w v (ints c) := by
  obtain ⟨vs, h1, h2⟩ := h.vals
  have : vs = ints c := by
    apply List.ext_getElem
    · rw [ints_len]; exact h2.1
    · intro j h3 h4
      have := h2.2 j h3 (by rw [ints_len] at h4; exact h4)
      unfold IntV at this
      simpa [ints] using this
  rw [← this]; exact h1
theorem ints_one (c : List Int) : ∀ u ∈ ints c, u.oneCell' = true := by
  intro u hu
  simp only [ints, List.mem_map] at hu
  obtain ⟨x, _, rfl⟩ := hu
  rfl
theorem own_int {w : World} {base g n cap : Nat} {e : TypeId} {c : List Int} {j : Nat} {x : Int} {hj : j < c.length} (h : OwnS w base e (.slice (some ⟨g, 0, none⟩) n cap) (ints c)) (hx : c[j] = x) : w.cell? ⟨g, j, none⟩ = some (.int .i64 x) := by
  rw [h.cell j (by rw [ints_len]; exact hj)]
  simp [ints, hx]
theorem Reads.erase {α : Type} {R : World → Value → α → Prop} {w : World} {vs : List Value} {xs : List α} (h : Reads R w vs xs) (k : Nat) : Reads R w (vs.eraseIdx k) (xs.eraseIdx k) := by
  obtain ⟨h1, h2⟩ := h
  refine ⟨by simp only [List.length_eraseIdx, h1], fun j hj hj' => ?_⟩
  rw [List.getElem_eraseIdx, List.getElem_eraseIdx]
  split
  · exact h2 j _ _
  · exact h2 (j + 1) _ _
theorem Reads.set {α : Type} {R : World → Value → α → Prop} {w : World} {vs : List Value} {xs : List α} {u : Value} {x : α} (h : Reads R w vs xs) (k : Nat) (hu : R w u x) : Reads R w (vs.set k u) (xs.set k x) := by
  obtain ⟨h1, h2⟩ := h
  refine ⟨by simp only [List.length_set, h1], fun j hj hj' => ?_⟩
  rw [List.getElem_set, List.getElem_set]
  split
  · exact hu
  · exact h2 j (by simpa using hj) (by simpa using hj')

set_option maxRecDepth 100000 in
set_option maxHeartbeats 4000000 in
theorem spoilt_any (ls : List (List Int)) (B : Nat) (at_ how by_ : Int) (v : Value) (w : World) (hv : RdL (RdL (IntV .i64)) w v ls) (_h1 : I64 at_) (_h2 : I64 how) (h3 : I64 by_) (hn : ls.length ≤ 1000) (hB : B ≤ 1000) (hw : ∀ c ∈ ls, c.length ≤ B) (hi : ∀ c ∈ ls, ∀ x ∈ c, I64 x) :
    Calls Try.prog 11 #[v, .int .i64 at_, .int .i64 how, .int .i64 by_] w fun e w' => ∃ v' cs, e = .returned v' ∧ RdL (RdL (IntV .i64)) w' v' cs ∧ cs.length ≤ ls.length + 1 ∧ (∀ c ∈ cs, c.length ≤ B + 1) ∧ (∀ c ∈ cs, ∀ x ∈ c, I64 x) ∧ Below w.heap.size w w' := by
  obtain ⟨vs, hvv, hr⟩ := hv.vals
  have HV := Lib.hid hvv
  have HR := Lib.hid hr
  have hl := hr.1
  have HO := Lib.hid (reads_oneCell hr)
  have HW := Lib.hid hw
  have HI := Lib.hid hi
  have h3 := h3
  unfold I64 at h3
  obtain ⟨a, cap, rfl, -⟩ := hv
  have hvn : vs.length ≤ 1000 := by omega
  have HLn := Lib.hid hl
  clear hvv hr hw hi hl
  by_cases hz : vs.length = 0
  · have hzb : ((vs.length : Int) == 0) = true := by rw [hz]; rfl
    have HZ := Lib.hid hz
    clear hz
    go_enter Try.func11, Try.ntmps11
    go_wp2_with (at_builtin; refine wpList_extend elemSlice rfl (.tmp 12) (.tmp 13) rfl w.heap.size _ [] _ vs rfl rfl (OwnS.lit w w.heap.size _ [] (Nat.le_refl _) (Nat.zero_le _)) (HV.out.below ((Below.refl _ _).alloc (Nat.le_refl _) _)) HO.out (by simp only [List.length_nil]; omega) (by unfold maxLen; simp only [List.length_nil]; omega) (by simp) ?_; rw [List.nil_append]; intro v1 w1 hown1 _ hb1; have hbw1 : Below w.heap.size w w1 := ((Below.refl _ _).alloc (Nat.le_refl _) _).trans hb1; have HOwn1 := Lib.hid hown1; obtain ⟨a1, cap1, rfl, -⟩ := OwnS.rdv hown1; clear hown1)
    have hI := (OwnS.rdInts (k := .i64) (zs := [by_]) (OwnS.lit w1 w.heap.size 3 [.int .i64 by_] hbw1.size (by unfold maxLen; simp))).below (mono_int _) ((Below.refl _ _).alloc (Nat.le_refl _) (.cells #[.slice (some ⟨w1.heap.size, 0, none⟩) 1 1] 22))
    have hO := OwnS.lit (w1.alloc (.cells #[.int .i64 by_] 3)) w.heap.size 22 [.slice (some ⟨w1.heap.size, 0, none⟩) 1 1] (by have := hbw1.size; simp; omega) (by unfold maxLen; simp)
    have HRd := Lib.hid ((OwnS.rdv hO).rd (Reads.single hI))
    have hbf : Below w.heap.size w ((w1.alloc (.cells #[.int .i64 by_] 3)).alloc (.cells #[.slice (some ⟨w1.heap.size, 0, none⟩) 1 1] 22)) := (hbw1.alloc hbw1.size _).alloc (by have := hbw1.size; simp; omega) _
    clear hI hO
    go_ret
    refine ⟨_, [[by_]], rfl, by simpa using HRd.out, by simp, by simp, ?_, hbf⟩
    intro c hc x hx
    simp at hc
    subst hc
    simp at hx
    subst hx
    exact h3
  · have hzb : ((vs.length : Int) == 0) = false := by rw [beq_eq_false_iff_ne]; omega
    have hk := tmod_mod at_ vs.length (by omega)
    have hk1 := Int.emod_nonneg (at_.tmod vs.length) (show (vs.length : Int) ≠ 0 by omega)
    have hk2 := Int.emod_lt_of_pos (at_.tmod vs.length) (show (0 : Int) < vs.length by omega)
    obtain ⟨k, hkk⟩ := Int.eq_ofNat_of_zero_le hk1
    have hq := tmod_mod how 6 (by omega)
    have hpos : 0 < vs.length := by omega
    clear hz
    have hkl : k < vs.length := by omega
    have hkl2 : k < ls.length := by have := HLn.out; omega
    obtain ⟨u, hu⟩ : ∃ u, vs[k] = u := ⟨_, rfl⟩
    obtain ⟨c, hc⟩ : ∃ c, ls[k] = c := ⟨_, rfl⟩
    have hcm : c ∈ ls := by rw [← hc]; exact List.getElem_mem hkl2
    have hru : RdL (IntV .i64) w u c := by rw [← hu, ← hc]; exact HR.out.2 k hkl hkl2
    have hcw := HW.out c hcm
    have HCI := Lib.hid (HI.out c hcm)
    have HRU := Lib.hid hru
    obtain ⟨au, capu, hue, -⟩ := hru
    rw [hue] at hu HRU
    have hone : (Value.slice au c.length capu).oneCell' = true := rfl
    clear hc hcm hue
    rcases (show how.tmod 6 % 6 = 0 ∨ how.tmod 6 % 6 = 1 ∨ how.tmod 6 % 6 = 2 ∨ how.tmod 6 % 6 = 3 ∨ how.tmod 6 % 6 = 4 ∨ how.tmod 6 % 6 = 5 from by omega) with hm | hm | hm | hm | hm | hm
    · go_enter Try.func11, Try.ntmps11
      go_wp2_with (at_builtin; refine wpList_extend elemSlice rfl (.tmp 12) (.tmp 13) rfl w.heap.size _ [] _ vs rfl rfl (OwnS.lit w w.heap.size _ [] (Nat.le_refl _) (Nat.zero_le _)) (HV.out.below ((Below.refl _ _).alloc (Nat.le_refl _) _)) HO.out (by simp only [List.length_nil]; omega) (by unfold maxLen; simp only [List.length_nil]; omega) (by simp) ?_; rw [List.nil_append]; intro v1 w1 hown1 _ hb1; have hbw1 : Below w.heap.size w w1 := ((Below.refl _ _).alloc (Nat.le_refl _) _).trans hb1; have HOwn1 := Lib.hid hown1; obtain ⟨a1, cap1, rfl, -⟩ := OwnS.rdv hown1; clear hown1)
      have hkl : k < vs.length := by omega
      refine (without_any vs k _ w1 (OwnS.rdv HOwn1.out) HO.out hkl (by omega)).mono ?_
      rintro e w2 ⟨v2, rfl, hown2, hb2⟩
      have hbw2 := hbw1.trans (hb2.mono hbw1.size)
      have HRd := Lib.hid (hown2.rdv.rd ((HR.out.erase k).mono (mono_rdl (mono_int _)) hbw2))
      clear hown2
      go_wp2_with fail
      go_ret
      refine ⟨_, ls.eraseIdx k, rfl, HRd.out, ?_, fun c hc => ?_, fun c hc => HI.out c (List.mem_of_mem_eraseIdx hc), hbw2⟩
      · rw [List.length_eraseIdx]; split <;> omega
      · have := HW.out c (List.mem_of_mem_eraseIdx hc)
        omega
    · have HCV := Lib.hid (rdInts_rdv HRU.out)
      have hci : (ints c).length = c.length := ints_len c
      go_enter Try.func11, Try.ntmps11
      go_wp2_with (first | (at_builtin; refine wpList_extend elemSlice rfl (.tmp 12) (.tmp 13) rfl w.heap.size _ [] _ vs rfl rfl (OwnS.lit w w.heap.size _ [] (Nat.le_refl _) (Nat.zero_le _)) (HV.out.below ((Below.refl _ _).alloc (Nat.le_refl _) _)) HO.out (by simp only [List.length_nil]; omega) (by unfold maxLen; simp only [List.length_nil]; omega) (by simp) ?_; rw [List.nil_append]; intro v1 w1 hown1 _ hb1; have hbw1 : Below w.heap.size w w1 := ((Below.refl _ _).alloc (Nat.le_refl _) _).trans hb1; have HOwn1 := Lib.hid hown1; obtain ⟨g, cap1, rfl, hbg, hgl⟩ := own_pos hown1 hpos; have hcell1 := OwnS.cell hown1 k hkl; have hfree1 := OwnS.free hown1 k; rw [hu] at hcell1; clear hown1) | (at_builtin; refine wpList_extend elemInt rfl (.tmp 44) (.tmp 48) rfl w1.heap.size _ [] _ (ints c) rfl rfl (OwnS.lit w1 w1.heap.size _ [] (Nat.le_refl _) (Nat.zero_le _)) (HCV.out.below (hbw1.alloc hbw1.size _)) (ints_one c) (by simp only [List.length_nil]; omega) (by unfold maxLen; simp only [List.length_nil]; omega) (by simp) ?_; rw [List.nil_append]; intro v2 w2 hown2 _ hb2; have hb12 : Below w1.heap.size w1 w2 := ((Below.refl _ _).alloc (Nat.le_refl _) _).trans hb2) | (at_builtin; refine wpList_push elemInt rfl (.tmp 49) (.tmp 51) rfl w1.heap.size _ (ints c) _ rfl rfl hown2 rfl (by omega) (by unfold maxLen; omega) hb12.size ?_; intro v3 w3 hown3 _ hb3; have hb13 : Below w1.heap.size w1 w3 := hb12.trans hb3; have HOwn3 := Lib.hid hown3; obtain ⟨a3, cap3, rfl, -⟩ := OwnS.rdv hown3; have hcell3 := OwnS.cell (HOwn1.out.below hb13) k hkl; have hfree3 := OwnS.free (HOwn1.out.below hb13) k; clear hown3 hown2))
      have hbw3 := hbw1.trans (hb13.mono hbw1.size)
      have HO3 := Lib.hid (HOwn1.out.below hb13)
      have hst := OwnS.stored HO3.out k (.slice a3 (ints c ++ [Value.int .i64 by_]).length cap3)
      have hk3 : OwnS (w3.setCell ⟨g, k, none⟩ (.slice a3 (ints c ++ [Value.int .i64 by_]).length cap3)) w1.heap.size 3 (.slice a3 (ints c ++ [Value.int .i64 by_]).length cap3) (ints (c ++ [by_])) := by
        rw [ints_snoc]
        exact HOwn3.out.kept (grown_set (Below.refl _ _) g k _) (.inr (fun e => by have := HOwn3.out.own_ge g e; omega))
      have hbwF := hbw3.trans hst.2
      have HRd := Lib.hid (hst.1.rdv.rd ((HR.out.mono (mono_rdl (mono_int _)) hbwF).set k (OwnS.rdInts (k := .i64) hk3)))
      clear hst hk3
      rw [show (ints c ++ [Value.int .i64 by_]).length = c.length + 1 from by simp [ints]] at HRd hbwF
      go_ret
      refine ⟨_, ls.set k (c ++ [by_]), rfl, by simpa using HRd.out, by simp, spoilt_set HW.out (by simp; omega), spoilt_set64 HI.out (fun x hx => ?_), hbwF⟩
      rcases List.mem_append.1 hx with hx | hx
      · exact HCI.out x hx
      · simp at hx; subst hx; exact h3
    · by_cases hc0 : c.length = 0
      · go_enter Try.func11, Try.ntmps11
        go_wp2_with (at_builtin; refine wpList_extend elemSlice rfl (.tmp 12) (.tmp 13) rfl w.heap.size _ [] _ vs rfl rfl (OwnS.lit w w.heap.size _ [] (Nat.le_refl _) (Nat.zero_le _)) (HV.out.below ((Below.refl _ _).alloc (Nat.le_refl _) _)) HO.out (by simp only [List.length_nil]; omega) (by unfold maxLen; simp only [List.length_nil]; omega) (by simp) ?_; rw [List.nil_append]; intro v1 w1 hown1 _ hb1; have hbw1 : Below w.heap.size w w1 := ((Below.refl _ _).alloc (Nat.le_refl _) _).trans hb1; have HOwn1 := Lib.hid hown1; obtain ⟨g, cap1, rfl, hbg, hgl⟩ := own_pos hown1 hpos; have hcell1 := OwnS.cell hown1 k hkl; have hfree1 := OwnS.free hown1 k; rw [hu] at hcell1; clear hown1)
        have HRd := Lib.hid ((OwnS.rdv HOwn1.out).rd (HR.out.mono (mono_rdl (mono_int _)) hbw1))
        go_ret
        exact ⟨_, ls, rfl, HRd.out, by simp, fun d hd => by have := HW.out d hd; omega, HI.out, hbw1⟩
      · obtain ⟨_, _, he0, _, _, h30⟩ := HRU.out
        obtain ⟨b, off, _, hau, _⟩ := h30 0 (by omega)
        simp only [Value.slice.injEq] at he0
        rw [← he0.1] at hau
        subst hau
        have hdv := (rdInts_rdv HRU.out).drop 1 (by rw [ints_len]; omega)
        rw [ints_len, show (ints c).drop 1 = ints (c.drop 1) from by simp [ints]] at hdv
        have HDV := Lib.hid (hdv.rd (R := IntV .i64) (xs := c.drop 1) ⟨by simp [ints], fun j _ _ => by simp [IntV, ints]⟩)
        clear hdv he0 h30
        go_enter Try.func11, Try.ntmps11
        go_wp2_with (at_builtin; refine wpList_extend elemSlice rfl (.tmp 12) (.tmp 13) rfl w.heap.size _ [] _ vs rfl rfl (OwnS.lit w w.heap.size _ [] (Nat.le_refl _) (Nat.zero_le _)) (HV.out.below ((Below.refl _ _).alloc (Nat.le_refl _) _)) HO.out (by simp only [List.length_nil]; omega) (by unfold maxLen; simp only [List.length_nil]; omega) (by simp) ?_; rw [List.nil_append]; intro v1 w1 hown1 _ hb1; have hbw1 : Below w.heap.size w w1 := ((Below.refl _ _).alloc (Nat.le_refl _) _).trans hb1; have HOwn1 := Lib.hid hown1; obtain ⟨g, cap1, rfl, hbg, hgl⟩ := own_pos hown1 hpos; have hcell1 := OwnS.cell hown1 k hkl; have hfree1 := OwnS.free hown1 k; rw [hu] at hcell1; clear hown1)
        · have HD : Hid (RdL (IntV .i64) w (.slice (some ⟨b, off, none⟩) (c.length - 1) 0) (c.drop 1)) := Lib.hid (by have hx := HDV.out; rw [if_pos (by first | rfl | assumption), show capu - 1 = 0 from by omega] at hx; simpa using hx)
          have hst := OwnS.stored HOwn1.out k (.slice (some ⟨b, off, none⟩) (c.length - 1) 0)
          have hbw2 := hbw1.trans hst.2
          have HRd := Lib.hid (hst.1.rdv.rd ((HR.out.set k HD.out).mono (mono_rdl (mono_int _)) hbw2))
          clear hst
          go_ret
          exact ⟨_, rfl, ls.set k (c.drop 1), by simpa using HRd.out, by simp, spoilt_set HW.out (by simp; omega), spoilt_set64 HI.out (fun x hx => HCI.out x (List.mem_of_mem_drop hx)), hbw2⟩
        · have HD : Hid (RdL (IntV .i64) w (.slice (some ⟨b, off + 1, none⟩) (c.length - 1) (capu - 1)) (c.drop 1)) := Lib.hid (by have hx := HDV.out; rw [if_neg (by assumption)] at hx; exact hx)
          have hst := OwnS.stored HOwn1.out k (.slice (some ⟨b, off + 1, none⟩) (c.length - 1) (capu - 1))
          have hbw2 := hbw1.trans hst.2
          have HRd := Lib.hid (hst.1.rdv.rd ((HR.out.set k HD.out).mono (mono_rdl (mono_int _)) hbw2))
          clear hst
          go_ret
          exact ⟨_, rfl, ls.set k (c.drop 1), by simpa using HRd.out, by simp, spoilt_set HW.out (by simp; omega), spoilt_set64 HI.out (fun x hx => HCI.out x (List.mem_of_mem_drop hx)), hbw2⟩
    · go_enter Try.func11, Try.ntmps11
      go_wp2_with (first | (at_builtin; refine wpList_extend elemSlice rfl (.tmp 12) (.tmp 13) rfl w.heap.size _ [] _ vs rfl rfl (OwnS.lit w w.heap.size _ [] (Nat.le_refl _) (Nat.zero_le _)) (HV.out.below ((Below.refl _ _).alloc (Nat.le_refl _) _)) HO.out (by simp only [List.length_nil]; omega) (by unfold maxLen; simp only [List.length_nil]; omega) (by simp) ?_; rw [List.nil_append]; intro v1 w1 hown1 _ hb1; have hbw1 : Below w.heap.size w w1 := ((Below.refl _ _).alloc (Nat.le_refl _) _).trans hb1; have HOwn1 := Lib.hid hown1; obtain ⟨g, cap1, rfl, hbg, hgl⟩ := own_pos hown1 hpos; have hcell1 := OwnS.cell hown1 k hkl; have hfree1 := OwnS.free hown1 k; rw [hu] at hcell1; clear hown1) | (at_builtin; refine wpList_push elemSlice rfl (.tmp 72) (.tmp 77) rfl w.heap.size _ vs _ rfl rfl HOwn1.out hone (by omega) (by unfold maxLen; omega) hbw1.size ?_; intro v2 w2 hown2 _ hb2))
      have hbw2 := hbw1.trans hb2
      have HRd := Lib.hid (hown2.rdv.rd ((HR.out.snoc HRU.out).mono (mono_rdl (mono_int _)) hbw2))
      clear hown2
      go_ret
      refine ⟨_, ls ++ [c], rfl, HRd.out, by simp, fun d hd => ?_, fun d hd => ?_, hbw2⟩
      · rcases List.mem_append.1 hd with hd | hd
        · have := HW.out d hd; omega
        · simp at hd; subst hd; omega
      · rcases List.mem_append.1 hd with hd | hd
        · exact HI.out d hd
        · simp at hd; subst hd; exact HCI.out
    · go_enter Try.func11, Try.ntmps11
      go_wp2_with (at_builtin; refine wpList_extend elemSlice rfl (.tmp 12) (.tmp 13) rfl w.heap.size _ [] _ vs rfl rfl (OwnS.lit w w.heap.size _ [] (Nat.le_refl _) (Nat.zero_le _)) (HV.out.below ((Below.refl _ _).alloc (Nat.le_refl _) _)) HO.out (by simp only [List.length_nil]; omega) (by unfold maxLen; simp only [List.length_nil]; omega) (by simp) ?_; rw [List.nil_append]; intro v1 w1 hown1 _ hb1; have hbw1 : Below w.heap.size w w1 := ((Below.refl _ _).alloc (Nat.le_refl _) _).trans hb1; have HOwn1 := Lib.hid hown1; obtain ⟨g, cap1, rfl, hbg, hgl⟩ := own_pos hown1 hpos; have hcell1 := OwnS.cell hown1 k hkl; have hfree1 := OwnS.free hown1 k; rw [hu] at hcell1; clear hown1)
      have hst := OwnS.stored HOwn1.out k (.slice none 0 0)
      have hbw2 := hbw1.trans hst.2
      have HRd := Lib.hid (hst.1.rdv.rd ((HR.out.set k (RdL.nil w)).mono (mono_rdl (mono_int _)) hbw2))
      clear hst
      go_ret
      exact ⟨_, ls.set k [], rfl, by simpa using HRd.out, by simp, spoilt_set HW.out (by simp), spoilt_set64 HI.out (by simp), hbw2⟩
    · have HCV := Lib.hid (rdInts_rdv HRU.out)
      have hci : (ints c).length = c.length := ints_len c
      by_cases hc0 : c.length < 1
      · go_enter Try.func11, Try.ntmps11
        go_wp2_with (first | (at_builtin; refine wpList_extend elemSlice rfl (.tmp 12) (.tmp 13) rfl w.heap.size _ [] _ vs rfl rfl (OwnS.lit w w.heap.size _ [] (Nat.le_refl _) (Nat.zero_le _)) (HV.out.below ((Below.refl _ _).alloc (Nat.le_refl _) _)) HO.out (by simp only [List.length_nil]; omega) (by unfold maxLen; simp only [List.length_nil]; omega) (by simp) ?_; rw [List.nil_append]; intro v1 w1 hown1 _ hb1; have hbw1 : Below w.heap.size w w1 := ((Below.refl _ _).alloc (Nat.le_refl _) _).trans hb1; have HOwn1 := Lib.hid hown1; obtain ⟨g, cap1, rfl, hbg, hgl⟩ := own_pos hown1 hpos; have hcell1 := OwnS.cell hown1 k hkl; have hfree1 := OwnS.free hown1 k; rw [hu] at hcell1; clear hown1) | (at_builtin; refine wpList_extend elemInt rfl (.tmp 86) (.tmp 90) rfl w1.heap.size _ [] _ (ints c) rfl rfl (OwnS.lit w1 w1.heap.size _ [] (Nat.le_refl _) (Nat.zero_le _)) (HCV.out.below (hbw1.alloc hbw1.size _)) (ints_one c) (by simp only [List.length_nil]; omega) (by unfold maxLen; simp only [List.length_nil]; omega) (by simp) ?_; rw [List.nil_append]; intro v2 w2 hown2 _ hb2; have hb12 : Below w1.heap.size w1 w2 := ((Below.refl _ _).alloc (Nat.le_refl _) _).trans hb2; have HOwn2 := Lib.hid hown2; obtain ⟨a2, cap2, rfl, -⟩ := OwnS.rdv hown2; have hcell2 := OwnS.cell (HOwn1.out.below hb12) k hkl; have hfree2 := OwnS.free (HOwn1.out.below hb12) k; clear hown2))
        have HO3 := Lib.hid (HOwn1.out.below hb12)
        have hst := OwnS.stored HO3.out k (.slice a2 (ints c).length cap2)
        have hbwF := (hbw1.trans (hb12.mono hbw1.size)).trans hst.2
        have HRd := Lib.hid (hst.1.rdv.rd ((HR.out.mono (mono_rdl (mono_int _)) hbwF).set k (OwnS.rdInts (k := .i64) (HOwn2.out.kept (grown_set (Below.refl _ _) g k _) (.inr (fun e => by have := HOwn2.out.own_ge g e; omega))))))
        clear hst
        rw [hci] at HRd hbwF
        go_ret
        exact ⟨_, ls.set k c, rfl, by simpa using HRd.out, by simp, spoilt_set HW.out (by omega), spoilt_set64 HI.out HCI.out, hbwF⟩
      · have hj := tmod_mod by_ c.length (by omega)
        have hj1 := Int.emod_nonneg (by_.tmod c.length) (show (c.length : Int) ≠ 0 by omega)
        have hj2 := Int.emod_lt_of_pos (by_.tmod c.length) (show (0 : Int) < c.length by omega)
        obtain ⟨j, hjj⟩ := Int.eq_ofNat_of_zero_le hj1
        have hjl : j < c.length := by omega
        obtain ⟨x, hx⟩ : ∃ x, c[j] = x := ⟨_, rfl⟩
        have hx64 := HCI.out x (by rw [← hx]; exact List.getElem_mem hjl)
        unfold I64 at hx64
        have HX := Lib.hid hx
        clear hx
        go_enter Try.func11, Try.ntmps11
        go_wp2_with (first | (at_builtin; refine wpList_extend elemSlice rfl (.tmp 12) (.tmp 13) rfl w.heap.size _ [] _ vs rfl rfl (OwnS.lit w w.heap.size _ [] (Nat.le_refl _) (Nat.zero_le _)) (HV.out.below ((Below.refl _ _).alloc (Nat.le_refl _) _)) HO.out (by simp only [List.length_nil]; omega) (by unfold maxLen; simp only [List.length_nil]; omega) (by simp) ?_; rw [List.nil_append]; intro v1 w1 hown1 _ hb1; have hbw1 : Below w.heap.size w w1 := ((Below.refl _ _).alloc (Nat.le_refl _) _).trans hb1; have HOwn1 := Lib.hid hown1; obtain ⟨g, cap1, rfl, hbg, hgl⟩ := own_pos hown1 hpos; have hcell1 := OwnS.cell hown1 k hkl; have hfree1 := OwnS.free hown1 k; rw [hu] at hcell1; clear hown1) | (at_builtin; refine wpList_extend elemInt rfl (.tmp 86) (.tmp 90) rfl w1.heap.size _ [] _ (ints c) rfl rfl (OwnS.lit w1 w1.heap.size _ [] (Nat.le_refl _) (Nat.zero_le _)) (HCV.out.below (hbw1.alloc hbw1.size _)) (ints_one c) (by simp only [List.length_nil]; omega) (by unfold maxLen; simp only [List.length_nil]; omega) (by simp) ?_; rw [List.nil_append]; intro v2 w2 hown2 _ hb2; have hb12 : Below w1.heap.size w1 w2 := ((Below.refl _ _).alloc (Nat.le_refl _) _).trans hb2; have HOwn2 := Lib.hid hown2; obtain ⟨g2, cap2, rfl, hbg2, hgl2⟩ := own_pos hown2 (by omega); have hcell2 := OwnS.cell (HOwn1.out.below hb12) k hkl; have hfree2 := OwnS.free (HOwn1.out.below hb12) k; have hcj := own_int hown2 HX.out; have hfj := OwnS.free hown2 j; clear hown2))
        have hs2 := OwnS.stored HOwn2.out j (.int .i64 (wrap64 (-x)))
        rw [show (ints c).set j (.int .i64 (wrap64 (-x))) = ints (c.set j (wrap64 (-x))) from by simp [ints], hci] at hs2
        have HO3 := Lib.hid ((HOwn1.out.below hb12).kept (grown_set (Below.refl _ w2) g2 j (.int .i64 (wrap64 (-x)))) (.inr (fun e => by simp [Value.ownBlock] at e; omega)))
        have hst := OwnS.stored HO3.out k (.slice (some ⟨g2, 0, none⟩) c.length cap2)
        have hbwF := ((hbw1.trans (hb12.mono hbw1.size)).trans (hs2.2.mono hbw1.size)).trans hst.2
        have HRd := Lib.hid (hst.1.rdv.rd ((HR.out.mono (mono_rdl (mono_int _)) hbwF).set k (OwnS.rdInts (k := .i64) (hs2.1.kept (grown_set (Below.refl _ _) g k _) (.inr (fun e => by simp [Value.ownBlock] at e; omega))))))
        clear hst hs2
        go_ret
        refine ⟨_, ls.set k (c.set j (wrap64 (-x))), rfl, by simpa using HRd.out, by simp, spoilt_set HW.out (by simp; omega), spoilt_set64 HI.out (fun y hy => ?_), hbwF⟩
        rcases List.mem_or_eq_of_mem_set hy with hy | rfl
        · exact HCI.out y hy
        · unfold I64 wrap64; omega
end Go.Proofs.Ythagkljenbhbdaa
