/-
  The disk's Rot: plain words. No condition of its own.
-/
import Derived.Test.YtghdanpigohnjaaD6
namespace Go.Proofs.Ytghdanpigohnjaa
open Go
def maskS (c : Nat) : UInt8 := 1 <<< UInt8.ofNat (c % 8)
theorem mask0 : ∀ (n : Fin 256) (c : Fin 8), ((UInt8.ofNat n.val ^^^ (1 <<< UInt8.ofNat c.val)) ^^^ (1 <<< UInt8.ofNat c.val)) = UInt8.ofNat n.val ∧ UInt8.ofNat n.val ^^^ (1 <<< UInt8.ofNat c.val) ≠ UInt8.ofNat n.val ∧ xorI .i64 (n.val : Int) ((UInt8.ofNat n.val ^^^ (1 <<< UInt8.ofNat c.val)).toNat : Int) = IntKind.i64.wrap (1 * 2 ^ (min c.val 64)) := by decide +kernel
theorem mask_all (x : UInt8) (c : Nat) : ((x ^^^ maskS c) ^^^ maskS c) = x ∧ x ^^^ maskS c ≠ x ∧ xorI .i64 (x.toNat : Int) ((x ^^^ maskS c).toNat : Int) = IntKind.i64.wrap (1 * 2 ^ (min (c % 8) 64)) := by
  have := mask0 ⟨x.toNat, x.toNat_lt⟩ ⟨c % 8, Nat.mod_lt _ (by omega)⟩
  simpa [maskS] using this
theorem xor_self0 : ∀ n : Fin 256, xorI .i64 (n.val : Int) (n.val : Int) = 0 := by decide +kernel
theorem xor_self8 (x : UInt8) : xorI .i64 (x.toNat : Int) (x.toNat : Int) = 0 := xor_self0 ⟨x.toNat, x.toNat_lt⟩
theorem rotB_eq {b : By} {c : Nat} (hb : b.length = 64) (hc : c < 512) : rotB b c = b.set (c / 8) (b[c / 8]'(by omega) ^^^ maskS c) := by
  have h : c / 8 < b.length := by omega
  rw [rotB, maskS, getElem!_pos b (c / 8) h]
theorem rotB_rotB {b : By} {c : Nat} (hb : b.length = 64) (hc : c < 512) : rotB (rotB b c) c = b := by
  have h : c / 8 < b.length := by omega
  rw [rotB_eq (b := rotB b c) (by rw [rotB_len]; exact hb) hc]
  simp only [rotB_eq hb hc, List.getElem_set_self, List.set_set]
  rw [(mask_all _ _).1, List.set_getElem_self]
theorem rotB_ne {b : By} {c : Nat} (hb : b.length = 64) (hc : c < 512) : b ≠ rotB b c := by
  have h : c / 8 < b.length := by omega
  intro e
  have h1 := congrArg (fun l : By => l[c / 8]?) e
  simp only [rotB_eq hb hc, List.getElem?_set_self h, List.getElem?_eq_getElem h, Option.some.injEq] at h1
  exact (mask_all _ c).2.1 h1.symm
theorem rotB_get {b : By} {c k : Nat} (hb : b.length = 64) (hc : c < 512) (hk : k < 64) : (rotB b c)[k]? = some (if k = c / 8 then b[k]'(by omega) ^^^ maskS c else b[k]'(by omega)) := by
  have h : c / 8 < b.length := by omega
  rw [rotB_eq hb hc]
  by_cases e : k = c / 8
  · subst e
    rw [List.getElem?_set_self h, if_pos rfl]
  · rw [List.getElem?_set_ne (by omega), if_neg e, List.getElem?_eq_getElem (by omega)]
/-- Rot twice. -/
theorem rot_twice {D : DK} (h : D.ok) {t c : Nat} (ht : t < D.bl.length) (hc : c < 512) : (rotS D t c).2 = 0 ∧ (rotS D t c).1.bl = D.bl.set t (rotB D.bl[t] c) ∧ (rotS (rotS D t c).1 t c).2 = 0 ∧ (rotS (rotS D t c).1 t c).1.bl = D.bl := by
  have h64 := h.1 _ (List.getElem_mem ht)
  have e : rotS D t c = ({ D with bl := D.bl.set t (rotB D.bl[t] c) }, 0) := by
    rw [rotS, if_neg (by omega)]
    simp [List.getD, ht]
  have e2 : rotS { D with bl := D.bl.set t (rotB D.bl[t] c) } t c = ({ D with bl := D.bl }, 0) := by
    rw [rotS, if_neg (by simp; omega)]
    simp only [Int.toNat_natCast, List.getD, List.getElem?_set_self ht, Option.getD_some, rotB_rotB h64 hc, List.set_set, List.set_getElem_self]
  rw [e]
  simp only [e2]
  exact ⟨trivial, trivial, trivial, trivial⟩
theorem rot_bad {D : DK} {t c : Int} (h : t < 0 ∨ t ≥ D.bl.length ∨ c < 0 ∨ c ≥ 512) : rotS D t c = (D, 1) := by rw [rotS, if_pos h]
end Go.Proofs.Ytghdanpigohnjaa
