/-
  The walks of package rup's thin, Core and Trim with their closures: they return what RSpec2 says; nothing that was in memory before the call is changed.
-/
import Derived.Test.YthagkljenbhbdaaRCheck
import Derived.Test.YthagkljenbhbdaaRSpec2
import Derived.Test.YthagkljenbhbdaaShelfI
namespace Go.Proofs.Ythagkljenbhbdaa
open Go Go.RowKit

theorem enters_thin1 : Enters Try.prog 51 := fun args w => by kernel_rfl
theorem enters_core1 : Enters Try.prog 33 := fun args w => by kernel_rfl
theorem enters_trim1 : Enters Try.prog 34 := fun args w => by kernel_rfl

set_option maxRecDepth 100000 in
set_option maxHeartbeats 1000000 in
theorem thin1_any (l : List (List Int)) (is : List Int) (v vl : Value) (g : Nat) (w : World) (hg : w.cell? ⟨g, 0, none⟩ = some vl) (hgl : g < w.heap.size) (hl : RdL (RdL (IntV .i64)) w vl l) (hv : RdL (IntV .i64) w v is)
    (hin : ∀ i ∈ is, 0 ≤ i ∧ i < l.length) (hn : is.length ≤ 100000) :
    Calls Try.prog 51 #[v, .pointer (some ⟨g, 0, none⟩)] w fun e w' => ∃ v', e = .returned v' ∧ RdL (RdL (IntV .i64)) w' v' (pick l is) ∧ Below w.heap.size w w' := by
  obtain ⟨a, cap, rfl, h1, h2, h3⟩ := hv
  obtain ⟨al, capl, rfl, l1, l2, l3⟩ := hl
  have hlm : l.length ≤ 9223372036854775807 := by unfold maxLen at l2; omega
  have HG := Lib.hid hg
  have HV := Lib.hid h3
  have HL := Lib.hid l3
  have HI := Lib.hid hin
  clear h1 h2 h3 l1 l2 l3 hin hg
  go_enter Try.func51, Try.ntmps51
  go_wp2_with fail
  go_loopg [4, 9] is.length (fun gh x i wr => ∃ (k : Nat) (vs : List Value), gh = is.length - k ∧ k ≤ is.length ∧ i = .int .i64 k ∧ OwnS wr w.heap.size 22 x vs ∧ Reads (RdL (IntV .i64)) w vs (pick l (is.take k)) ∧ Below w.heap.size w wr ∧ vs.length = k)
  case atStart => exact ⟨0, [], by omega, by omega, rfl, OwnS.nil _ _ _, Reads.nil _, Below.refl _ _, rfl⟩
  case round =>
    obtain ⟨k, vs, rfl, hk, rfl, hown, hr, hb, hvl⟩ := hrel
    by_cases hlt : k < is.length
    · obtain ⟨b, off, u, rfl, hbl, hcell0, hu⟩ := HV.out k hlt
      have hcell := (hb.cell (p := ⟨b, off + k, none⟩) hbl).trans hcell0
      unfold IntV at hu
      subst hu
      have hi := HI.out _ (List.getElem_mem hlt)
      obtain ⟨t, ht⟩ := Int.eq_ofNat_of_zero_le hi.1
      have htl : t < l.length := by omega
      have HS := Lib.hid (pick_snoc l is k hlt t htl ht)
      rw [ht] at hcell
      obtain ⟨b2, off2, u2, rfl, hbl2, hcell20, hu2⟩ := HL.out t htl
      have hcell2 := (hb.cell (p := ⟨b2, off2 + t, none⟩) hbl2).trans hcell20
      have hgc := (hb.cell (p := ⟨g, 0, none⟩) hgl).trans HG.out
      have hone := rdl_oneCell hu2
      have HU := Lib.hid hu2
      have HOwn := Lib.hid hown
      have HRd := Lib.hid hr
      obtain ⟨au, capu, rfl, _⟩ := hu2
      clear hcell0 hcell20 hi ht hown hr
      have hbs := hb.size
      go_wp2_with (at_builtin; refine wpList_push elemSlice rfl (.tmp 13) (.tmp 18) rfl w.heap.size _ vs _ rfl rfl HOwn.out hone (by omega) (by unfold maxLen; omega) hbs ?_; intro v' w5 hown5 _ hb5)
      go_roundg (is.length - (k + 1))
      case measure => omega
      case rel => exact ⟨k + 1, vs ++ [_], rfl, by omega, by go_num, hown5, by rw [HS.out]; exact HRd.out.snoc HU.out, hb.trans hb5, by simp; omega⟩
    · obtain rfl : k = is.length := by omega
      rw [List.take_length] at hr
      have HR := Lib.hid (hown.rdv.rd (hr.mono (mono_rdl (mono_int _)) hb))
      clear hown hr
      go_wp2_with fail
      go_ret
      exact ⟨_, rfl, HR.out, hb⟩

theorem core1_any (N : Nat) (cs pr : List (List Int)) (vc vp : Value) (g1 g2 : Nat) (w : World) (h1 : w.cell? ⟨g1, 0, none⟩ = some (.int .i64 N)) (h2 : w.cell? ⟨g2, 0, none⟩ = some vp) (hc : RdL (RdL (IntV .i64)) w vc cs) (hp : RdL (RdL (IntV .i64)) w vp pr)
    (hN : N ≤ 100000) (hcl : LitsAll (N + 1) cs) (hpl : LitsAll (N + 1) pr) (hcn : cs.length ≤ 100000) (hpn : pr.length ≤ 100000) (hwide : ∀ c ∈ pr, c.length ≤ 100000) :
    Calls Try.prog 33 #[vc, .pointer (some ⟨g1, 0, none⟩), .pointer (some ⟨g2, 0, none⟩)] w fun e w' => e = .returned (.bool (provesS N cs pr)) ∧ Below w.heap.size w w' := by
  have HC := Lib.hid (proves_any N cs pr vc vp w hc hp hN hcl hpl hcn hpn hwide)
  clear hc hp hcl hpl hwide
  go_enter Try.func33, Try.ntmps33
  go_wp2_with (go_at_call 29; refine (HC.out).mono ?_; rintro e w2 ⟨rfl, hb2⟩)
  go_ret
  exact ⟨rfl, hb2⟩
theorem trim1_any (N : Nat) (cs pr : List (List Int)) (vc vp : Value) (g1 g2 : Nat) (w : World) (h1 : w.cell? ⟨g1, 0, none⟩ = some (.int .i64 N)) (h2 : w.cell? ⟨g2, 0, none⟩ = some vc) (hc : RdL (RdL (IntV .i64)) w vc cs) (hp : RdL (RdL (IntV .i64)) w vp pr)
    (hN : N ≤ 100000) (hcl : LitsAll (N + 1) cs) (hpl : LitsAll (N + 1) pr) (hcn : cs.length ≤ 100000) (hpn : pr.length ≤ 100000) (hwide : ∀ c ∈ pr, c.length ≤ 100000) :
    Calls Try.prog 34 #[vp, .pointer (some ⟨g1, 0, none⟩), .pointer (some ⟨g2, 0, none⟩)] w fun e w' => e = .returned (.bool (provesS N cs pr)) ∧ Below w.heap.size w w' := by
  have HC := Lib.hid (proves_any N cs pr vc vp w hc hp hN hcl hpl hcn hpn hwide)
  clear hc hp hcl hpl hwide
  go_enter Try.func34, Try.ntmps34
  go_wp2_with (go_at_call 29; refine (HC.out).mono ?_; rintro e w2 ⟨rfl, hb2⟩)
  go_ret
  exact ⟨rfl, hb2⟩

set_option maxRecDepth 100000 in
set_option maxHeartbeats 2000000 in
theorem thin_any {F : FuncId} (c1 c2 : Value) (good : List (List Int) → Bool) (l : List (List Int)) (m0 : Nat) (vl : Value) (w : World) (hF : Enters Try.prog F) (hl : RdL (RdL (IntV .i64)) w vl l) (hm : m0 ≤ l.length) (hn : l.length ≤ 100000)
    (hp : ∀ r u w', Below w.heap.size w w' → RdL (RdL (IntV .i64)) w' u r → (∀ c ∈ r, c ∈ l) → r.length ≤ l.length → Calls Try.prog F #[u, c1, c2] w' fun e w'' => e = .returned (.bool (good r)) ∧ Below w'.heap.size w' w'') :
    Calls Try.prog 32 #[vl, .int .i64 ((m0 : Int) - 1), .func (.func F) #[] #[c1, c2]] w fun e w' => ∃ v', e = .returned v' ∧ RdL (IntV .i64) w' v' (thinS good l m0 (idx l.length)) ∧ Below w.heap.size w w' := by
  have HRL := Lib.hid hl
  obtain ⟨al, capl, rfl, l1, l2, l3⟩ := hl
  have HP := Lib.hid hp
  have hT := enters_thin1
  unfold Enters at hF hT
  clear l1 l2 l3 hp
  have hbx : Below w.heap.size w (w.alloc (.cells #[.slice al l.length capl] 23)) := (Below.refl _ _).alloc (Nat.le_refl _) _
  have hbxc : (w.alloc (.cells #[.slice al l.length capl] 23)).cell? ⟨w.heap.size, 0, none⟩ = some (.slice al l.length capl) := by simp
  obtain ⟨wb, hwb⟩ : ∃ wb, wb = w.alloc (.cells #[.slice al l.length capl] 23) := ⟨_, rfl⟩
  have hsz : wb.heap.size = w.heap.size + 1 := by rw [hwb]; simp
  rw [← hwb] at hbx hbxc
  go_enter Try.func32, Try.ntmps32
  go_wp2_with (rw [← hwb]; at_make; refine wpList_makeN elemInt rfl _ _ rfl wb.heap.size _ _ _ _ l.length rfl rfl rfl rfl (by omega) (by unfold maxLen; omega) (Nat.le_refl _) ?_; intro w2 hown2 hb2)
  rw [hsz] at hown2 hb2
  have hb2' : Below (w.heap.size + 1) wb w2 := hb2
  have hstart : OwnS w2 (w.heap.size + 1) 3 (.slice (some ⟨w.heap.size + 1, 0, none⟩) l.length l.length) (ints (fillTo l.length 0)) := by rw [fillTo_zero]; simpa [ints] using hown2
  clear hown2 hb2
  go_loopg [17] l.length (fun gh i wr => ∃ j : Nat, gh = l.length - j ∧ j ≤ l.length ∧ i = .int .i64 j ∧ OwnS wr (w.heap.size + 1) 3 (.slice (some ⟨w.heap.size + 1, 0, none⟩) l.length l.length) (ints (fillTo l.length j)) ∧ Below (w.heap.size + 1) wb wr)
  case atStart => exact ⟨0, by omega, by omega, rfl, hstart, hb2'⟩
  case round =>
    clear hstart hb2'
    obtain ⟨j, rfl, hj, rfl, hown3, hb3⟩ := hrel
    by_cases hjt : j < l.length
    · have hst := OwnS.stored hown3 j (.int .i64 j)
      have hst2 : (ints (fillTo l.length j)).set j (.int .i64 j) = ints (fillTo l.length (j + 1)) := by rw [← fillTo_step]; simp [ints]
      rw [hst2] at hst
      have HST := Lib.hid hst
      have hcj := OwnS.cell hown3 j (by rw [ints_len, fillTo_len]; exact hjt)
      have hfj := OwnS.free hown3 j
      generalize (ints (fillTo l.length j))[j]'_ = old at hcj
      clear hst hst2 hown3
      go_wp2_with fail
      go_roundg (l.length - (j + 1))
      case measure => omega
      case rel => exact ⟨j + 1, rfl, by omega, by go_num, HST.out.1, hb3.trans HST.out.2⟩
    · obtain rfl : j = l.length := by omega
      rw [fillTo_all] at hown3
      have hrd : RdL (IntV .i64) wr (.slice (some ⟨w.heap.size + 1, 0, none⟩) l.length l.length) (idx l.length) := OwnS.rdInts hown3
      clear hown3
      go_wp2_with fail
      go_loopg [7, 10] m0 (fun gh x i w2 => ∃ (m : Nat) (left : List Int), gh = m ∧ m ≤ left.length ∧ left.length ≤ l.length ∧ i = .int .i64 ((m : Int) - 1) ∧ RdL (IntV .i64) w2 x left ∧ Below (w.heap.size + 1) wb w2 ∧ Hid (∀ i ∈ left, 0 ≤ i ∧ i < l.length) ∧ Hid (thinS good l m0 (idx l.length) = thinS good l m left))
      case atStart => exact ⟨m0, idx l.length, rfl, by rw [idx_len]; exact hm, by rw [idx_len]; omega, rfl, hrd, hb3, Lib.hid (fun i hi => idx_mem hi), Lib.hid rfl⟩
      case round =>
        clear hrd hb3
        obtain ⟨m, left, hgm, hml, hll, rfl, hrd, hb, HM, HS⟩ := hrel
        have hbw : Below w.heap.size w wr := hbx.trans (hb.mono (by omega))
        cases m with
        | zero =>
          have HR := Lib.hid hrd
          clear hrd
          go_wp2_with fail
          go_ret
          exact ⟨_, rfl, by rw [HS.out]; exact HR.out, hbw⟩
        | succ m =>
          rw [show (((m + 1 : Nat) : Int) - 1) = (m : Int) from by omega]
          have hmi : (m : Int) ≤ 100000 := by omega
          subst hgm
          have HRd := Lib.hid hrd
          clear hrd
          have hle := hb.size
          rw [hsz] at hle
          go_wp2_with fail
          refine (cloneInts_any _ left _ HRd.out (by omega)).mono ?_
          rintro e w4 ⟨v4, rfl, hown4, hb4⟩
          go_wp2_with fail
          refine (deleteInts_any v4 left m w4 hown4 (by omega)).mono ?_
          rintro e w5 ⟨v5, rfl, hrd5, hb5⟩
          have hb45 : Below wr.heap.size wr w5 := hb4.trans hb5
          have hbox5 : w5.cell? ⟨w.heap.size, 0, none⟩ = some (.slice al l.length capl) := ((hb.trans (hb45.mono hle)).cell (p := ⟨w.heap.size, 0, none⟩) (show w.heap.size < w.heap.size + 1 by omega)).trans hbxc
          have hbw5 : Below w.heap.size w w5 := hbw.trans (hb45.mono (by omega))
          have hle5 := hb45.size
          have HRL5 := Lib.hid (HRL.out.below (mono_rdl (mono_int _)) hbw5)
          have HM5 := Lib.hid (all_erase HM.out m)
          have hll5 : (left.eraseIdx m).length = left.length - 1 := List.length_eraseIdx_of_lt (by omega)
          have HB5 := Lib.hid hbox5
          have HR5 := Lib.hid hrd5
          clear hown4 hb4 hb5 hrd5 hbox5
          go_wp2_with fail
          refine (thin1_any l (left.eraseIdx m) v5 _ w.heap.size w5 HB5.out (by omega) HRL5.out HR5.out HM5.out (by omega)).mono ?_
          rintro e w6 ⟨v6, rfl, hrd6, hb6⟩
          have hbw6 : Below w.heap.size w w6 := hbw5.trans (hb6.mono (by omega))
          have hle6 := hb6.size
          have HG := Lib.hid (HP.out _ v6 w6 hbw6 hrd6 (pick_mem HM5.out) (by rw [pick_len]; omega))
          clear hrd6
          cases hgood : good (pick l (left.eraseIdx m))
          · have HN := Lib.hid (HS.out.trans (thinS_no hgood))
            rw [hgood] at HG
            clear hgood
            go_wp2_with fail
            refine (HG.out).mono ?_
            rintro e w7 ⟨rfl, hb7⟩
            go_wp2_with fail
            go_roundg m
            case measure => omega
            case rel => exact ⟨m, left, rfl, by omega, hll, by go_num, HRd.out.below (mono_int _) ((hb45.trans (hb6.mono hle5)).trans (hb7.mono (by omega))), hb.trans (((hb45.trans (hb6.mono hle5)).trans (hb7.mono (by omega))).mono hle), HM, HN⟩
          · have HN := Lib.hid (HS.out.trans (thinS_yes hgood))
            rw [hgood] at HG
            clear hgood
            go_wp2_with fail
            refine (HG.out).mono ?_
            rintro e w7 ⟨rfl, hb7⟩
            go_wp2_with fail
            go_roundg m
            case measure => omega
            case rel => exact ⟨m, left.eraseIdx m, rfl, by omega, by omega, by go_num, HR5.out.below (mono_int _) (hb6.trans (hb7.mono hle6)), hb.trans (((hb45.trans (hb6.mono hle5)).trans (hb7.mono (by omega))).mono hle), HM5, HN⟩
end Go.Proofs.Ythagkljenbhbdaa
