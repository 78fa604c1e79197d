/-
  The walks of package rup's 'right' (are the clauses right?) with the library's ContainsFunc and IndexFunc, called with a closure. Nothing that was in memory is changed.
-/
import Derived.Test.YthagkljenbhbdaaRConf
namespace Go.Proofs.Ythagkljenbhbdaa
open Go Go.RowKit

/-- A function with a body: a call of it enters it. -/
def Enters (P : Program) (F : FuncId) : Prop := ∀ (args : Array Value) (w : World), (callFunc F args).run P w = .ok (.enter F args) w
theorem enters_46 : Enters Try.prog 46 := fun args w => by kernel_rfl

def idxFunc {α : Type} (p : α → Bool) (es : List α) : Int := match es.findIdx? p with | some i => i | none => -1
theorem idxFunc_hit {α : Type} {p : α → Bool} {es : List α} {k : Nat} (h : k < es.length) (hk : p es[k] = true) (hb : ∀ j (hj : j < k), p (es[j]'(by omega)) = false) : idxFunc p es = k := by
  have : es.findIdx? p = some k := by
    rw [List.findIdx?_eq_some_iff_getElem]
    exact ⟨h, hk, fun j hj => by simp [hb j hj]⟩
  unfold idxFunc; rw [this]
theorem idxFunc_miss {α : Type} {p : α → Bool} {es : List α} (hb : ∀ j (hj : j < es.length), p es[j] = false) : idxFunc p es = -1 := by
  have : es.findIdx? p = none := by
    rw [List.findIdx?_eq_none_iff]
    intro x hx
    obtain ⟨j, hj, rfl⟩ := List.getElem_of_mem hx
    exact hb j hj
  unfold idxFunc; rw [this]
theorem idxFunc_ge {α : Type} (p : α → Bool) (es : List α) : (decide (0 ≤ idxFunc p es)) = es.any p := by
  unfold idxFunc
  cases h : es.findIdx? p with
  | none =>
    rw [List.findIdx?_eq_none_iff] at h
    have : es.any p = false := by rw [List.any_eq_false]; intro x hx; simp [h x hx]
    rw [this]; rfl
  | some i =>
    rw [List.findIdx?_eq_some_iff_getElem] at h
    obtain ⟨hi, hp, _⟩ := h
    have : es.any p = true := by rw [List.any_eq_true]; exact ⟨es[i], List.getElem_mem hi, hp⟩
    rw [this]; simp
theorem idxFunc_bd {α : Type} (p : α → Bool) (es : List α) : -1 ≤ idxFunc p es ∧ idxFunc p es < es.length + 1 := by
  unfold idxFunc
  cases h : es.findIdx? p with
  | none => simp; omega
  | some i =>
    rw [List.findIdx?_eq_some_iff_getElem] at h
    obtain ⟨hi, _⟩ := h
    simp; omega

set_option maxRecDepth 100000 in
theorem indexInts_any {F : FuncId} (c : Value) (p : Int → Bool) (zs : List Int) (v : Value) (w : World) (hF : Enters Try.prog F) (hv : RdL (IntV .i64) w v zs)
    (hp : ∀ x ∈ zs, ∀ w', Below w.heap.size w w' → Calls Try.prog F #[.int .i64 x, c] w' fun e w'' => e = .returned (.bool (p x)) ∧ Below w'.heap.size w' w'') :
    Calls Try.prog 54 #[v, .func (.func F) #[] #[c]] w fun e w' => e = .returned (.int .i64 (idxFunc p zs)) ∧ Below w.heap.size w w' := by
  obtain ⟨a, cap, rfl, hv1, hv2, hv3⟩ := hv
  have hvm : zs.length ≤ 9223372036854775807 := by unfold maxLen at hv2; omega
  have HV := Lib.hid hv3
  have HP := Lib.hid hp
  unfold Enters at hF
  clear hv1 hv2 hv3 hp
  go_enter Try.func54, Try.ntmps54
  go_wp2_with fail
  go_loopg [8] zs.length (fun gh i wr => ∃ k : Nat, gh = zs.length - k ∧ k ≤ zs.length ∧ i = .int .i64 k ∧ Below w.heap.size w wr ∧ Hid (∀ j (hj : j < k) (hj2 : j < zs.length), p zs[j] = false))
  case atStart => exact ⟨0, by omega, by omega, rfl, Below.refl _ _, Lib.hid (fun j hj => by omega)⟩
  case round =>
    obtain ⟨k, rfl, hk, rfl, hb, HB⟩ := hrel
    by_cases hlt : k < zs.length
    · obtain ⟨b, off, u, rfl, hbl, hcell0, hu⟩ := HV.out k hlt
      have hcell := (hb.cell (p := ⟨b, off + k, none⟩) hbl).trans hcell0
      have HC := Lib.hid (HP.out zs[k] (List.getElem_mem hlt) wr hb)
      have HX := Lib.hid (rfl : zs[k] = zs[k])
      clear hcell0
      unfold IntV at hu
      subst hu
      generalize hx : zs[k] = x at *
      have HE := Lib.hid hx
      clear hx
      cases hpx : p x
      all_goals
        rw [hpx] at HC
        have HPX := Lib.hid hpx
        clear hpx
        go_wp2_with (refine (HC.out).mono ?_; rintro e w2 ⟨rfl, hb2⟩)
      · go_roundg (zs.length - (k + 1))
        case measure => omega
        case rel => exact ⟨k + 1, rfl, by omega, by go_num, hb.trans (hb2.mono hb.size), Lib.hid (fun j hj hj2 => by
          rcases Nat.lt_or_ge j k with h | h
          · exact HB.out j h hj2
          · obtain rfl : j = k := by omega
            rw [HE.out]; exact HPX.out)⟩
      · go_ret
        exact ⟨ret_int (idxFunc_hit hlt (by rw [HE.out]; exact HPX.out) (fun j hj => HB.out j hj (by omega))).symm, hb.trans (hb2.mono hb.size)⟩
    · obtain rfl : k = zs.length := by omega
      go_wp2_with fail
      go_ret
      exact ⟨ret_int (idxFunc_miss (fun j hj => HB.out j hj hj)).symm, hb⟩

set_option maxRecDepth 100000 in
theorem indexLists_any {F : FuncId} (c : Value) (p : List Int → Bool) (zs : List (List Int)) (v : Value) (w : World) (hF : Enters Try.prog F) (hv : RdL (RdL (IntV .i64)) w v zs)
    (hp : ∀ x ∈ zs, ∀ u w', Below w.heap.size w w' → RdL (IntV .i64) w' u x → Calls Try.prog F #[u, c] w' fun e w'' => e = .returned (.bool (p x)) ∧ Below w'.heap.size w' w'') :
    Calls Try.prog 53 #[v, .func (.func F) #[] #[c]] w fun e w' => e = .returned (.int .i64 (idxFunc p zs)) ∧ Below w.heap.size w w' := by
  obtain ⟨a, cap, rfl, hv1, hv2, hv3⟩ := hv
  have hvm : zs.length ≤ 9223372036854775807 := by unfold maxLen at hv2; omega
  have HV := Lib.hid hv3
  have HP := Lib.hid hp
  unfold Enters at hF
  clear hv1 hv2 hv3 hp
  go_enter Try.func53, Try.ntmps53
  go_wp2_with fail
  go_loopg [8] zs.length (fun gh i wr => ∃ k : Nat, gh = zs.length - k ∧ k ≤ zs.length ∧ i = .int .i64 k ∧ Below w.heap.size w wr ∧ Hid (∀ j (hj : j < k) (hj2 : j < zs.length), p zs[j] = false))
  case atStart => exact ⟨0, by omega, by omega, rfl, Below.refl _ _, Lib.hid (fun j hj => by omega)⟩
  case round =>
    obtain ⟨k, rfl, hk, rfl, hb, HB⟩ := hrel
    by_cases hlt : k < zs.length
    · obtain ⟨b, off, u, rfl, hbl, hcell0, hu⟩ := HV.out k hlt
      have hcell := (hb.cell (p := ⟨b, off + k, none⟩) hbl).trans hcell0
      have hu' : RdL (IntV .i64) wr u zs[k] := RdL.below (mono_int _) hu hb
      have HC := Lib.hid (HP.out zs[k] (List.getElem_mem hlt) u wr hb hu')
      have HX := Lib.hid (rfl : zs[k] = zs[k])
      clear hcell0 hu hu'
      generalize hx : zs[k] = x at *
      have HE := Lib.hid hx
      clear hx
      cases hpx : p x
      all_goals
        rw [hpx] at HC
        have HPX := Lib.hid hpx
        clear hpx
        go_wp2_with (refine (HC.out).mono ?_; rintro e w2 ⟨rfl, hb2⟩)
      · go_roundg (zs.length - (k + 1))
        case measure => omega
        case rel => exact ⟨k + 1, rfl, by omega, by go_num, hb.trans (hb2.mono hb.size), Lib.hid (fun j hj hj2 => by
          rcases Nat.lt_or_ge j k with h | h
          · exact HB.out j h hj2
          · obtain rfl : j = k := by omega
            rw [HE.out]; exact HPX.out)⟩
      · go_ret
        exact ⟨ret_int (idxFunc_hit hlt (by rw [HE.out]; exact HPX.out) (fun j hj => HB.out j hj (by omega))).symm, hb.trans (hb2.mono hb.size)⟩
    · obtain rfl : k = zs.length := by omega
      go_wp2_with fail
      go_ret
      exact ⟨ret_int (idxFunc_miss (fun j hj => HB.out j hj hj)).symm, hb⟩

theorem containsInts_any {F : FuncId} (c : Value) (p : Int → Bool) (zs : List Int) (v : Value) (w : World) (hF : Enters Try.prog F) (hv : RdL (IntV .i64) w v zs)
    (hp : ∀ x ∈ zs, ∀ w', Below w.heap.size w w' → Calls Try.prog F #[.int .i64 x, c] w' fun e w'' => e = .returned (.bool (p x)) ∧ Below w'.heap.size w' w'') :
    Calls Try.prog 40 #[v, .func (.func F) #[] #[c]] w fun e w' => e = .returned (.bool (zs.any p)) ∧ Below w.heap.size w w' := by
  have HC := Lib.hid (indexInts_any c p zs v w hF hv hp)
  have hg := Lib.hid (idxFunc_ge p zs)
  clear hF hv hp
  go_enter Try.func40, Try.ntmps40
  go_wp2_with (go_at_call 54; refine (HC.out).mono ?_; rintro e w2 ⟨rfl, hb2⟩)
  go_ret
  exact ⟨ret_bool hg.out, hb2⟩
theorem containsLists_any {F : FuncId} (c : Value) (p : List Int → Bool) (zs : List (List Int)) (v : Value) (w : World) (hF : Enters Try.prog F) (hv : RdL (RdL (IntV .i64)) w v zs)
    (hp : ∀ x ∈ zs, ∀ u w', Below w.heap.size w w' → RdL (IntV .i64) w' u x → Calls Try.prog F #[u, c] w' fun e w'' => e = .returned (.bool (p x)) ∧ Below w'.heap.size w' w'') :
    Calls Try.prog 38 #[v, .func (.func F) #[] #[c]] w fun e w' => e = .returned (.bool (zs.any p)) ∧ Below w.heap.size w w' := by
  have HC := Lib.hid (indexLists_any c p zs v w hF hv hp)
  have hg := Lib.hid (idxFunc_ge p zs)
  clear hF hv hp
  go_enter Try.func38, Try.ntmps38
  go_wp2_with (go_at_call 53; refine (HC.out).mono ?_; rintro e w2 ⟨rfl, hb2⟩)
  go_ret
  exact ⟨ret_bool hg.out, hb2⟩

theorem right11_any (N n : Int) (b : Nat) (w : World) (hc : w.cell? ⟨b, 0, none⟩ = some (.int .i64 N)) (hN : 0 ≤ N ∧ N ≤ 1000000) :
    Calls Try.prog 47 #[.int .i64 n, .pointer (some ⟨b, 0, none⟩)] w fun e w' => e = .returned (.bool (badLit N n)) ∧ w = w' := by
  by_cases h1 : n = 0
  · have e : badLit N n = true := by simp [badLit, h1]
    rw [e]
    clear e
    subst h1
    go_enter Try.func47, Try.ntmps47
    go_wp2
    go_ret
    exact ⟨rfl, rfl⟩
  · have h1' : (n == 0) = false := by simpa using h1
    by_cases h2 : N < n
    · have e : badLit N n = true := by simp [badLit, h2]
      rw [e]
      clear e h1
      go_enter Try.func47, Try.ntmps47
      go_wp2
      go_ret
      exact ⟨rfl, rfl⟩
    · have e : badLit N n = decide (n < -N) := by simp [badLit, h1', h2]
      rw [e]
      clear e h1
      go_enter Try.func47, Try.ntmps47
      go_wp2
      all_goals
        go_ret
        exact ⟨ret_bool (by simp [*]), rfl⟩
theorem enters_47 : Enters Try.prog 47 := fun args w => by kernel_rfl
theorem right1_any (N : Int) (c : List Int) (v : Value) (b : Nat) (w : World) (hc : w.cell? ⟨b, 0, none⟩ = some (.int .i64 N)) (hN : 0 ≤ N ∧ N ≤ 1000000) (hv : RdL (IntV .i64) w v c) :
    Calls Try.prog 46 #[v, .pointer (some ⟨b, 0, none⟩)] w fun e w' => e = .returned (.bool (badClause N c)) ∧ Below w.heap.size w w' := by
  have HV := Lib.hid hv
  have hlt : b < w.heap.size := by
    rcases Nat.lt_or_ge b w.heap.size with h | h
    · exact h
    · simp [World.cell?, Array.getElem?_eq_none h] at hc
  obtain ⟨a, cap, rfl, hv1, hv2, hv3⟩ := hv
  have hvm : c.length ≤ 9223372036854775807 := by unfold maxLen at hv2; omega
  have HC := Lib.hid (containsInts_any (.pointer (some ⟨b, 0, none⟩)) (badLit N) c _ w enters_47 HV.out (fun x _ w' hb => (right11_any N x b w' ((hb.cell (p := ⟨b, 0, none⟩) hlt).trans hc) hN).mono fun e w'' ⟨he, hw⟩ => ⟨he, hw ▸ Below.refl _ _⟩))
  clear hv1 hv2 hv3 HV hlt
  by_cases hl : 4096 < c.length
  · have e : badClause N c = true := by simp [badClause, hl]
    rw [e]
    clear e
    go_enter Try.func46, Try.ntmps46
    go_wp2_with fail
    go_ret
    exact ⟨rfl, Below.refl _ _⟩
  · have e : badClause N c = c.any (badLit N) := by simp [badClause, hl]
    rw [e]
    clear e
    have hd : Hid (decide ((4096 : Int) < (c.length : Int)) = false) := Lib.hid (by rw [decide_eq_false_iff_not]; omega)
    go_enter Try.func46, Try.ntmps46
    go_wp2_with (go_at_call 40; refine (HC.out).mono ?_; rintro e w2 ⟨rfl, hb2⟩)
    go_ret
    exact ⟨ret_bool (by rw [hd.out]; rfl), hb2⟩
theorem right_any (N : Int) (cs : List (List Int)) (v : Value) (w : World) (hN : 0 ≤ N ∧ N ≤ 1000000) (hv : RdL (RdL (IntV .i64)) w v cs) :
    Calls Try.prog 28 #[.int .i64 N, v] w fun e w' => e = .returned (.bool (rightS N cs)) ∧ Below w.heap.size w w' := by
  have hv' : RdL (RdL (IntV .i64)) (w.alloc (.cells #[.int .i64 N] 3)) v cs := hv.below (mono_rdl (mono_int _)) ((Below.refl _ _).alloc (Nat.le_refl _) _)
  have HC := Lib.hid (containsLists_any (.pointer (some ⟨w.heap.size, 0, none⟩)) (badClause N) cs v _ enters_46 hv' (fun x _ u w' hb hu => right1_any N x u w.heap.size w' ((hb.cell (p := ⟨w.heap.size, 0, none⟩) (by simp)).trans (by simp)) hN hu))
  clear hv hv'
  go_enter Try.func28, Try.ntmps28
  go_wp2_with (go_at_call 38; refine (HC.out).mono ?_; rintro e w2 ⟨rfl, hb2⟩)
  go_ret
  exact ⟨rfl, ((Below.refl _ _).alloc (Nat.le_refl _) _).trans (hb2.mono (by simp))⟩
end Go.Proofs.Ythagkljenbhbdaa
