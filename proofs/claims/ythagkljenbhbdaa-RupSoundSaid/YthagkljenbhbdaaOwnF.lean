/-
  'Kept w0 w': every cell that was there in w0 holds in w what it held; 'Fresh w0 v': the own slice v lies where w0 had no cell. Appends to such a slice keep w0's cells. No condition of its own.
-/
import Derived.Test.YthagkljenbhbdaaOwnL
import Derived.Maps.AppendAt
namespace Go.Proofs.Ythagkljenbhbdaa
open Go Go.RowKit

structure Kept (w w' : World) : Prop where
  size : w.heap.size ≤ w'.heap.size
  cell : ∀ p v, w.cell? p = some v → w'.cell? p = some v
theorem Kept.refl (w : World) : Kept w w := ⟨Nat.le_refl _, fun _ _ h => h⟩
theorem Kept.trans {w w2 w' : World} (h : Kept w w2) (k : Kept w2 w') : Kept w w' := ⟨Nat.le_trans h.size k.size, fun p v hp => k.cell p v (h.cell p v hp)⟩
theorem cell_lt {w : World} {p : Addr} {v : Value} (h : w.cell? p = some v) : p.block < w.heap.size := by
  rcases Nat.lt_or_ge p.block w.heap.size with hlt | hge
  · exact hlt
  · simp [World.cell?, Array.getElem?_eq_none hge] at h
theorem Kept.of_below {w w' : World} (h : Below w.heap.size w w') : Kept w w' := ⟨h.size, fun p _ hp => (h.cell (p := p) (cell_lt hp)).trans hp⟩
def MonoK {α : Type} (R : World → Value → α → Prop) : Prop := ∀ w w' v x, Kept w w' → R w v x → R w' v x
theorem monoK_int (k : IntKind) : MonoK (IntV k) := fun _ _ _ _ _ h => h
theorem monoK_rdl {α : Type} {R : World → Value → α → Prop} (hR : MonoK R) : MonoK (RdL R) := by
  intro w w' v xs hk ⟨a, cap, hv, h1, h2, hc⟩
  refine ⟨a, cap, hv, h1, h2, fun j h => ?_⟩
  obtain ⟨b, off, u, ha, hlt, hcell, hu⟩ := hc j h
  exact ⟨b, off, u, ha, Nat.lt_of_lt_of_le hlt hk.size, hk.cell _ _ hcell, hR w w' u _ hk hu⟩
theorem RdL.kept {α : Type} {R : World → Value → α → Prop} (hR : MonoK R) {w w' : World} {v : Value} {xs : List α} (h : RdL R w v xs) (hk : Kept w w') : RdL R w' v xs := monoK_rdl hR w w' v xs hk h
theorem Reads.kept {α : Type} {R : World → Value → α → Prop} (hR : MonoK R) {w w' : World} {vs : List Value} {xs : List α} (h : Reads R w vs xs) (hk : Kept w w') : Reads R w' vs xs :=
  ⟨h.1, fun j h1 h2 => hR w w' _ _ hk (h.2 j h1 h2)⟩
theorem RdV.kept {w w' : World} {v : Value} {vs : List Value} (h : RdV w v vs) (hk : Kept w w') : RdV w' v vs := by
  obtain ⟨a, cap, rfl, h1, h2, h3⟩ := h
  refine ⟨a, cap, rfl, h1, h2, fun j hj => ?_⟩
  obtain ⟨b, off, ha, hlt, hc⟩ := h3 j hj
  exact ⟨b, off, ha, Nat.lt_of_lt_of_le hlt hk.size, hk.cell _ _ hc⟩
/-- The own slice lies where there was no cell. -/
def Fresh (w0 : World) (v : Value) : Prop := ∀ k, v.ownBlock = some k → ∀ j s, w0.cell? ⟨k, j, s⟩ = none
theorem Fresh.none {w0 : World} {n c : Nat} : Fresh w0 (.slice Option.none n c) := fun k h => by simp [Value.ownBlock] at h
theorem Fresh.ge {w0 : World} {v : Value} (h : ∀ k, v.ownBlock = some k → w0.heap.size ≤ k) : Fresh w0 v := fun k hk j s => by
  simp [World.cell?, Array.getElem?_eq_none (h k hk)]
theorem Fresh.empty {w0 : World} {g n c : Nat} {o : Option Nat} {e : TypeId} {fr : Nat × Nat} (h : w0.heap[g]? = some (.cells #[] e fr)) : Fresh w0 (.slice (some ⟨g, 0, o⟩) n c) := fun k hk j s => by
  simp [Value.ownBlock] at hk
  subst hk
  simp [World.cell?, h]
theorem Kept.grown {w0 w w' : World} {v : Value} (h : Kept w0 w) (hf : Fresh w0 v) (hg : w.grownBy w' v.ownBlock) : Kept w0 w' :=
  ⟨Nat.le_trans h.size hg.size, fun p u hp => by
    have hlt := cell_lt hp
    have hb : w'.heap[p.block]? = w.heap[p.block]? := hg.block p.block (Nat.lt_of_lt_of_le hlt h.size) (fun e => by
      have := hf p.block e.symm p.off p.spot
      rw [show (⟨p.block, p.off, p.spot⟩ : Addr) = p from rfl, hp] at this
      cases this)
    exact (World.cell?_of_block hb).trans (h.cell p u hp)⟩
theorem Kept.setCell {w0 w : World} {x : Value} {g j : Nat} {n c : Nat} (h : Kept w0 w) (hf : Fresh w0 (.slice (some ⟨g, 0, none⟩) n c)) : Kept w0 (w.setCell ⟨g, j, none⟩ x) :=
  h.grown hf ⟨rfl, rfl, rfl, by simp, fun k _ hne => Below.heap_setCell w ⟨g, j, none⟩ x k (fun e => hne (by simp [Value.ownBlock, e]))⟩
section
variable {P : Program} {T E : TypeId} {z : Value} {bytes : Nat} {ops : Array Oper} {rest : List Oper} {o : Oper} {a : Act} {Q : Exit → Act → World → Prop} {K : Act → World → Prop} {D : Prop}
theorem run_extendF (KT : ElemT P T E z bytes) {w : World} (ty : TypeId) (base : Nat) (v : Value) (xs : List Value) (src : Value) (ys : List Value) (hown : OwnS w base E v xs) (hsrc : RdV w src ys) (hone : ∀ u ∈ ys, u.oneCell' = true)
    (hlen : (xs.length + ys.length) * bytes ≤ 140737488355328) (hmax : xs.length + ys.length ≤ maxLen) (hbase : base ≤ w.heap.size) :
    ∃ v' w', (Builtin.append_ #[T, T] ty #[v, src]).run P w = .ok v' w' ∧ OwnS w' base E v' (xs ++ ys) ∧ Below base w w' ∧ ∀ w0, Kept w0 w → Fresh w0 v → Kept w0 w' ∧ Fresh w0 v' := by
  obtain ⟨i, hi, hz0, hz1, hz2⟩ := info_parts KT.info
  obtain ⟨ad, cap, rfl, h1, h2, h3⟩ := hsrc
  cases ad with
  | none =>
    have : ys = [] := by
      cases ys with
      | nil => rfl
      | cons y ys => obtain ⟨b, off, ha, _⟩ := h3 0 (by simp); cases ha
    subst this
    have hc0 := h1.2 rfl
    subst hc0
    have hrun := run_append_owned_none (P := P) (w := w) base T ty E i 1 KT.under hi v xs.length xs hown
    exact ⟨v, w, hrun, by simpa [OwnS] using hown, Below.refl _ _, fun _ hk hf => ⟨hk, hf⟩⟩
  | some ad =>
    obtain ⟨v', w', hr, hown', hg, _, hat⟩ := run_append_own_at (P := P) w base T ty E i z 1 bytes KT.under hi hz0 hz1 hz2 (by rw [KT.zone]; rfl) (by decide) v xs.length xs hown ad ys.length cap ys (by simp) (by
      intro j u hj
      obtain ⟨hjl, rfl⟩ := List.getElem?_eq_some_iff.1 hj
      obtain ⟨b, off, ha, _, hc⟩ := h3 j hjl
      simp only [Option.some.injEq] at ha
      subst ha
      rw [Addr.add_lit]; exact hc) hone hmax hlen hbase
    refine ⟨v', w', hr, by simpa [OwnS] using hown', (Below.refl base w).grown hg hbase (OwnS.own_ge hown), fun w0 hk hf => ⟨hk.grown hf hg, ?_⟩⟩
    rcases hat with h | h
    · intro k hk2; rw [h] at hk2; exact hf k hk2
    · exact Fresh.ge (fun k hk2 => by rw [h] at hk2; simp at hk2; have := hk.size; omega)
/-- 'append(out, src...)'. -/
theorem wpList_extendF (KT : ElemT P T E z bytes) {w : World} (hgd : o.guard = none) (s x : Operand) (ho : o.op = .call { callee := .builtin .append, args := #[s, x], argTypes := #[T, T] })
    (base : Nat) (v : Value) (xs : List Value) (src : Value) (ys : List Value) (hs : a.eval s = v) (hx : a.eval x = src) (hown : OwnS w base E v xs) (hsrc : RdV w src ys) (hone : ∀ u ∈ ys, u.oneCell' = true)
    (hlen : (xs.length + ys.length) * bytes ≤ 140737488355328) (hmax : xs.length + ys.length ≤ maxLen) (hbase : base ≤ w.heap.size)
    (h : ∀ v' w', OwnS w' base E v' (xs ++ ys) → Below base w w' → (∀ w0, Kept w0 w → Fresh w0 v → Kept w0 w' ∧ Fresh w0 v') → wpList P ops Q rest (a.put o.dst v') w') :
    wpList P ops Q (o :: rest) a w := by
  refine wpList_plain hgd fun K hK => ?_
  obtain ⟨v', w', hr, h2, h3, h4⟩ := run_extendF (P := P) KT o.type base v xs src ys hown hsrc hone hlen hmax hbase
  unfold Oper.wp execOp
  simp only [ho, resolve, invoke, builtin, Sem.run_bind, Sem.run_pure, Result.andThen_ok, List.map_toArray, List.map_cons, List.map_nil, hs, hx, hr]
  exact hK _ _ (h v' w' h2 h3 h4)
/-- At a step of a region that draws. -/
theorem step_extendF (KT : ElemT P T E z bytes) {w : World} (hgd : o.guard = none) (s x : Operand) (ho : o.op = .call { callee := .builtin .append, args := #[s, x], argTypes := #[T, T] })
    (base : Nat) (v : Value) (xs : List Value) (src : Value) (ys : List Value) (hs : a.eval s = v) (hx : a.eval x = src) (hown : OwnS w base E v xs) (hsrc : RdV w src ys) (hone : ∀ u ∈ ys, u.oneCell' = true)
    (hlen : (xs.length + ys.length) * bytes ≤ 140737488355328) (hmax : xs.length + ys.length ≤ maxLen) (hbase : base ≤ w.heap.size)
    (h : ∀ v' w', OwnS w' base E v' (xs ++ ys) → Below base w w' → (∀ w0, Kept w0 w → Fresh w0 v → Kept w0 w' ∧ Fresh w0 v') → K (a.put o.dst v') w') :
    if Region.wanted o (yielded ops a.tmps) = true then Oper.wp P o a w K Q else D := by
  have hw : Region.wanted o (yielded ops a.tmps) = true := by simp [Region.wanted, hgd]
  rw [if_pos hw]
  obtain ⟨v', w', hr, h2, h3, h4⟩ := run_extendF (P := P) KT o.type base v xs src ys hown hsrc hone hlen hmax hbase
  unfold Oper.wp execOp
  simp only [ho, resolve, invoke, builtin, Sem.run_bind, Sem.run_pure, Result.andThen_ok, List.map_toArray, List.map_cons, List.map_nil, hs, hx, hr]
  exact h v' w' h2 h3 h4
/-- At a step of a region that draws, guarded or not. -/
theorem step_extendW (KT : ElemT P T E z bytes) {w : World} (hw : Region.wanted o (yielded ops a.tmps) = true) (s x : Operand) (ho : o.op = .call { callee := .builtin .append, args := #[s, x], argTypes := #[T, T] })
    (base : Nat) (v : Value) (xs : List Value) (src : Value) (ys : List Value) (hs : a.eval s = v) (hx : a.eval x = src) (hown : OwnS w base E v xs) (hsrc : RdV w src ys) (hone : ∀ u ∈ ys, u.oneCell' = true)
    (hlen : (xs.length + ys.length) * bytes ≤ 140737488355328) (hmax : xs.length + ys.length ≤ maxLen) (hbase : base ≤ w.heap.size)
    (h : ∀ v' w', OwnS w' base E v' (xs ++ ys) → Below base w w' → (∀ w0, Kept w0 w → Fresh w0 v → Kept w0 w' ∧ Fresh w0 v') → K (a.put o.dst v') w') :
    if Region.wanted o (yielded ops a.tmps) = true then Oper.wp P o a w K Q else D := by
  rw [if_pos hw]
  obtain ⟨v', w', hr, h2, h3, h4⟩ := run_extendF (P := P) KT o.type base v xs src ys hown hsrc hone hlen hmax hbase
  unfold Oper.wp execOp
  simp only [ho, resolve, invoke, builtin, Sem.run_bind, Sem.run_pure, Result.andThen_ok, List.map_toArray, List.map_cons, List.map_nil, hs, hx, hr]
  exact h v' w' h2 h3 h4
end
end Go.Proofs.Ythagkljenbhbdaa
