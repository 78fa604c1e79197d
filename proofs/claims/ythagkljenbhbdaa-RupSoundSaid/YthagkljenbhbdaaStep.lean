/-
  'append(out, src...)' at a step of a region that draws its order, in the words of OwnS. No condition of its own.
-/
import Derived.Test.YthagkljenbhbdaaOwnL
import Derived.Deep.AppendLies
namespace Go.Proofs.Ythagkljenbhbdaa
open Go Go.RowKit

theorem OwnS.drew {w : World} {base : Nat} {e : TypeId} {v : Value} {xs : List Value} (h : OwnS w base e v xs) : OwnS w.drew base e v xs := h.below ((Below.refl _ w).drew)
section
variable {P : Program} {T E : TypeId} {z : Value} {bytes : Nat} {ops : Array Oper} {o : Oper} {a : Act} {K : Act → World → Prop} {Q : Exit → Act → World → Prop} {D : Prop}
theorem run_extend (KT : ElemT P T E z bytes) {w : World} (ty : TypeId) (base : Nat) (v : Value) (xs : List Value) (src : Value) (ys : List Value) (hown : OwnS w base E v xs) (hsrc : RdV w src ys) (hone : ∀ u ∈ ys, u.oneCell' = true)
    (hlen : (xs.length + ys.length) * bytes ≤ 140737488355328) (hmax : xs.length + ys.length ≤ maxLen) (hbase : base ≤ w.heap.size) :
    ∃ v' w', (Builtin.append_ #[T, T] ty #[v, src]).run P w = .ok v' w' ∧ OwnS w' base E v' (xs ++ ys) ∧ Below base w w' := by
  obtain ⟨i, hi, hz0, hz1, hz2⟩ := info_parts KT.info
  obtain ⟨ad, cap, rfl, h1, h2, h3⟩ := hsrc
  cases ad with
  | none =>
    have : ys = [] := by
      cases ys with
      | nil => rfl
      | cons y ys => obtain ⟨b, off, ha, _⟩ := h3 0 (by simp); cases ha
    subst this
    have hc0 := h1.2 rfl
    subst hc0
    have hrun := run_append_owned_none (P := P) (w := w) base T ty E i 1 KT.under hi v xs.length xs hown
    exact ⟨v, w, hrun, by simpa [OwnS] using hown, Below.refl _ _⟩
  | some ad =>
    obtain ⟨v', w', hr, hown', hg, _⟩ := run_append_own_at (P := P) w base T ty E i z 1 bytes KT.under hi hz0 hz1 hz2 (by rw [KT.zone]; rfl) (by decide) v xs.length xs hown ad ys.length cap ys (by simp) (by
      intro j u hj
      obtain ⟨hjl, rfl⟩ := List.getElem?_eq_some_iff.1 hj
      obtain ⟨b, off, ha, _, hc⟩ := h3 j hjl
      simp only [Option.some.injEq] at ha
      subst ha
      rw [Addr.add_lit]; exact hc) hone hmax hlen hbase
    exact ⟨v', w', hr, by simpa [OwnS] using hown', (Below.refl base w).grown hg hbase (OwnS.own_ge hown)⟩
theorem run_extendG (KT : ElemT P T E z bytes) {w : World} (ty : TypeId) (base : Nat) (v : Value) (xs : List Value) (src : Value) (ys : List Value) (hown : OwnS w base E v xs) (hsrc : RdV w src ys) (hone : ∀ u ∈ ys, u.oneCell' = true)
    (hlen : (xs.length + ys.length) * bytes ≤ 140737488355328) (hmax : xs.length + ys.length ≤ maxLen) (hbase : base ≤ w.heap.size) :
    ∃ v' w', (Builtin.append_ #[T, T] ty #[v, src]).run P w = .ok v' w' ∧ OwnS w' base E v' (xs ++ ys) ∧ w.grownBy w' v.ownBlock ∧ Below base w w' := by
  obtain ⟨i, hi, hz0, hz1, hz2⟩ := info_parts KT.info
  obtain ⟨ad, cap, rfl, h1, h2, h3⟩ := hsrc
  cases ad with
  | none =>
    have : ys = [] := by
      cases ys with
      | nil => rfl
      | cons y ys => obtain ⟨b, off, ha, _⟩ := h3 0 (by simp); cases ha
    subst this
    have hc0 := h1.2 rfl
    subst hc0
    have hrun := run_append_owned_none (P := P) (w := w) base T ty E i 1 KT.under hi v xs.length xs hown
    exact ⟨v, w, hrun, by simpa [OwnS] using hown, World.grownBy.refl _ _, Below.refl _ _⟩
  | some ad =>
    obtain ⟨v', w', hr, hown', hg, _⟩ := run_append_own_at (P := P) w base T ty E i z 1 bytes KT.under hi hz0 hz1 hz2 (by rw [KT.zone]; rfl) (by decide) v xs.length xs hown ad ys.length cap ys (by simp) (by
      intro j u hj
      obtain ⟨hjl, rfl⟩ := List.getElem?_eq_some_iff.1 hj
      obtain ⟨b, off, ha, _, hc⟩ := h3 j hjl
      simp only [Option.some.injEq] at ha
      subst ha
      rw [Addr.add_lit]; exact hc) hone hmax hlen hbase
    exact ⟨v', w', hr, by simpa [OwnS] using hown', hg, (Below.refl base w).grown hg hbase (OwnS.own_ge hown)⟩
/-- At a step of a region that draws; what has changed is told by the row. -/
theorem step_extendG (KT : ElemT P T E z bytes) {w : World} (hgd : o.guard = none) (s x : Operand) (ho : o.op = .call { callee := .builtin .append, args := #[s, x], argTypes := #[T, T] })
    (base : Nat) (v : Value) (xs : List Value) (src : Value) (ys : List Value) (hs : a.eval s = v) (hx : a.eval x = src) (hown : OwnS w base E v xs) (hsrc : RdV w src ys) (hone : ∀ u ∈ ys, u.oneCell' = true)
    (hlen : (xs.length + ys.length) * bytes ≤ 140737488355328) (hmax : xs.length + ys.length ≤ maxLen) (hbase : base ≤ w.heap.size)
    (h : ∀ v' w', OwnS w' base E v' (xs ++ ys) → w.grownBy w' v.ownBlock → Below base w w' → K (a.put o.dst v') w') :
    if Region.wanted o (yielded ops a.tmps) = true then Oper.wp P o a w K Q else D := by
  have hw : Region.wanted o (yielded ops a.tmps) = true := by simp [Region.wanted, hgd]
  rw [if_pos hw]
  obtain ⟨v', w', hr, h2, h3, h4⟩ := run_extendG (P := P) KT o.type base v xs src ys hown hsrc hone hlen hmax hbase
  unfold Oper.wp execOp
  simp only [ho, resolve, invoke, builtin, Sem.run_bind, Sem.run_pure, Result.andThen_ok, List.map_toArray, List.map_cons, List.map_nil, hs, hx, hr]
  exact h v' w' h2 h3 h4
/-- At a step of a region that draws. -/
theorem step_extend (KT : ElemT P T E z bytes) {w : World} (hgd : o.guard = none) (s x : Operand) (ho : o.op = .call { callee := .builtin .append, args := #[s, x], argTypes := #[T, T] })
    (base : Nat) (v : Value) (xs : List Value) (src : Value) (ys : List Value) (hs : a.eval s = v) (hx : a.eval x = src) (hown : OwnS w base E v xs) (hsrc : RdV w src ys) (hone : ∀ u ∈ ys, u.oneCell' = true)
    (hlen : (xs.length + ys.length) * bytes ≤ 140737488355328) (hmax : xs.length + ys.length ≤ maxLen) (hbase : base ≤ w.heap.size)
    (h : ∀ v' w', OwnS w' base E v' (xs ++ ys) → Below base w w' → K (a.put o.dst v') w') :
    if Region.wanted o (yielded ops a.tmps) = true then Oper.wp P o a w K Q else D := by
  have hw : Region.wanted o (yielded ops a.tmps) = true := by simp [Region.wanted, hgd]
  rw [if_pos hw]
  obtain ⟨v', w', hr, h2, h3⟩ := run_extend (P := P) KT o.type base v xs src ys hown hsrc hone hlen hmax hbase
  unfold Oper.wp execOp
  simp only [ho, resolve, invoke, builtin, Sem.run_bind, Sem.run_pure, Result.andThen_ok, List.map_toArray, List.map_cons, List.map_nil, hs, hx, hr]
  exact h v' w' h2 h3
end
end Go.Proofs.Ythagkljenbhbdaa
