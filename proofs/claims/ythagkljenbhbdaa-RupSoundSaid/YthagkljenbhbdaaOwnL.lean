/-
  Lists of lists that a call builds: 'OwnL R w base E v xs': a slice of the call's own whose elements read as xs, and go on to read so whatever is written into blocks of that element type at or above 'base' ('Chg'). No condition of its own.
-/
import Derived.Test.YthagkljenbhbdaaRd
namespace Go.Proofs.Ythagkljenbhbdaa
open Go Go.RowKit

/-- Only blocks of element type E, at or above base, have changed; and there may be new ones. -/
structure Chg (base : Nat) (E : TypeId) (w w' : World) : Prop where
  os : w'.os = w.os
  tape : w'.tape = w.tape
  output : w'.output = w.output
  size : w.heap.size ≤ w'.heap.size
  block : ∀ k, k < w.heap.size → (k < base ∨ ∀ c fr, w.heap[k]? ≠ some (.cells c E fr)) → w'.heap[k]? = w.heap[k]?
theorem Chg.refl (base : Nat) (E : TypeId) (w : World) : Chg base E w w := ⟨rfl, rfl, rfl, Nat.le_refl _, fun _ _ _ => rfl⟩
theorem Chg.trans {base : Nat} {E : TypeId} {w w2 w' : World} (h : Chg base E w w2) (k : Chg base E w2 w') : Chg base E w w' :=
  ⟨k.os.trans h.os, k.tape.trans h.tape, k.output.trans h.output, Nat.le_trans h.size k.size, fun i hi ho => by
    have h1 := h.block i hi ho
    rw [← h1]
    refine k.block i (Nat.lt_of_lt_of_le hi h.size) ?_
    rcases ho with ho | ho
    · exact .inl ho
    · exact .inr (fun c fr => by rw [h1]; exact ho c fr)⟩
theorem Chg.of_below {base : Nat} {E : TypeId} {w w' : World} (h : Below w.heap.size w w') : Chg base E w w' :=
  ⟨h.os, h.tape, h.output, h.size, fun k hk _ => h.block k hk⟩
theorem Chg.below {base : Nat} {E : TypeId} {w w' : World} (h : Chg base E w w') (hb : base ≤ w.heap.size) : Below base w w' :=
  ⟨h.os, h.tape, h.output, h.size, fun k hk => h.block k (Nat.lt_of_lt_of_le hk hb) (.inl hk)⟩
theorem Chg.of_grown {base : Nat} {E : TypeId} {w w' : World} {v : Value} {xs : List Value} (h : w.grownBy w' v.ownBlock) (hv : OwnS w base E v xs) : Chg base E w w' := by
  refine ⟨h.os, h.tape, h.output, h.size, fun k hk ho => h.block k hk ?_⟩
  intro e
  obtain ⟨hl, hc⟩ := hv
  rcases hc with ⟨rfl, _⟩ | ⟨g, cap, cur, rfl, hbg, hg, _⟩
  · cases e
  · simp only [Value.ownBlock, Option.some.injEq] at e
    subst e
    rcases ho with ho | ho
    · omega
    · exact ho _ _ hg
theorem Chg.alloc {base : Nat} {E : TypeId} (w : World) (o : Obj) : Chg base E w (w.alloc o) := Chg.of_below ((Below.refl _ _).alloc (Nat.le_refl _) _)

/-- What stays so under such changes. -/
def StR {α : Type} (base : Nat) (E : TypeId) (R : World → Value → α → Prop) (w : World) (u : Value) (x : α) : Prop := ∀ w', Chg base E w w' → R w' u x
theorem StR.chg {α : Type} {base : Nat} {E : TypeId} {R : World → Value → α → Prop} {w w2 : World} {u : Value} {x : α} (h : StR base E R w u x) (hc : Chg base E w w2) : StR base E R w2 u x := fun w' k => h w' (hc.trans k)
theorem StR.now {α : Type} {base : Nat} {E : TypeId} {R : World → Value → α → Prop} {w : World} {u : Value} {x : α} (h : StR base E R w u x) : R w u x := h w (Chg.refl _ _ _)
/-- What read in the world at the start, whose size base is, reads so still. -/
theorem StR.of_old {α : Type} {E : TypeId} {R : World → Value → α → Prop} (hR : Mono R) {w0 w : World} {u : Value} {x : α} (h : R w0 u x) (hb : Below w0.heap.size w0 w) : StR w0.heap.size E R w u x :=
  fun w' k => hR w0 w' u x (hb.trans (k.below hb.size)) h
/-- A slice of the call's own, of another element type. -/
theorem StR.of_own {α : Type} {base b2 : Nat} {E E2 : TypeId} {R : World → Value → α → Prop} {w : World} {u : Value} {us : List Value} {xs : List α} (h : OwnS w b2 E2 u us) (hne : E2 ≠ E) (hr : Reads (StR base E R) w us xs) : StR base E (RdL R) w u xs := by
  intro w' k
  have h' : OwnS w' b2 E2 u us := by
    obtain ⟨hl, hc⟩ := h
    refine ⟨hl, ?_⟩
    rcases hc with hc | ⟨g, cap, cur, rfl, hbg, hg, rest⟩
    · exact .inl hc
    · refine .inr ⟨g, cap, cur, rfl, hbg, ?_, rest⟩
      have hlt : g < w.heap.size := by
        rcases Nat.lt_or_ge g w.heap.size with hlt | hge
        · exact hlt
        · simp [Array.getElem?_eq_none hge] at hg
      rw [k.block g hlt (.inr (fun c fr e => by rw [hg] at e; simp at e; exact hne e.2.1))]; exact hg
  exact h'.rdv.rd ⟨hr.1, fun j h1 h2 => hr.2 j h1 h2 w' k⟩
theorem Reads.ints (base : Nat) (E : TypeId) (k : IntKind) (w : World) (l : List Int) : Reads (StR base E (IntV k)) w (l.map (Value.int k)) l :=
  ⟨by simp, fun j h1 h2 => fun _ _ => by simp [IntV]⟩
theorem StR.nil {α : Type} {base : Nat} {E : TypeId} {R : World → Value → α → Prop} (w : World) : StR base E (RdL R) w (.slice none 0 0) ([] : List α) := fun w' _ => RdL.nil w'
theorem Reads.chg {α : Type} {base : Nat} {E : TypeId} {R : World → Value → α → Prop} {w w2 : World} {vs : List Value} {xs : List α} (h : Reads (StR base E R) w vs xs) (hc : Chg base E w w2) : Reads (StR base E R) w2 vs xs :=
  ⟨h.1, fun j h1 h2 => (h.2 j h1 h2).chg hc⟩

/-- A list of the call's own, its elements read. -/
def OwnL {α : Type} (R : World → Value → α → Prop) (w : World) (base : Nat) (E : TypeId) (v : Value) (xs : List α) : Prop := ∃ vs, OwnS w base E v vs ∧ Reads (StR base E R) w vs xs
theorem OwnL.nil {α : Type} {R : World → Value → α → Prop} (w : World) (base : Nat) (E : TypeId) : OwnL R w base E (.slice none 0 0) ([] : List α) := ⟨[], OwnS.nil _ _ _, Reads.nil _⟩
theorem OwnL.empty {α : Type} {R : World → Value → α → Prop} (w : World) (base : Nat) (E : TypeId) (hb : base ≤ w.heap.size) : OwnL R (w.alloc (.cells #[] E)) base E (.slice (some ⟨w.heap.size, 0, none⟩) 0 0) ([] : List α) :=
  ⟨[], OwnS.lit w base E [] hb (Nat.zero_le _), Reads.nil _⟩
theorem OwnL.below {α : Type} {R : World → Value → α → Prop} {w w' : World} {base : Nat} {E : TypeId} {v : Value} {xs : List α} (h : OwnL R w base E v xs) (hb : Below w.heap.size w w') : OwnL R w' base E v xs := by
  obtain ⟨vs, h1, h2⟩ := h
  exact ⟨vs, h1.below hb, h2.chg (Chg.of_below hb)⟩
theorem OwnL.rd {α : Type} {R : World → Value → α → Prop} {w : World} {base : Nat} {E : TypeId} {v : Value} {xs : List α} (h : OwnL R w base E v xs) : RdL R w v xs := by
  obtain ⟨vs, h1, h2⟩ := h
  exact h1.rdv.rd ⟨h2.1, fun j a b => (h2.2 j a b).now⟩
theorem OwnL.len {α : Type} {R : World → Value → α → Prop} {w : World} {base : Nat} {E : TypeId} {v : Value} {xs : List α} (h : OwnL R w base E v xs) : ∃ a cap, v = .slice a xs.length cap := by
  obtain ⟨a, cap, hv, _⟩ := h.rd
  exact ⟨a, cap, hv⟩

section
variable {P : Program} {T E : TypeId} {z : Value} {bytes : Nat} {ops : Array Oper} {rest : List Oper} {o : Oper} {a : Act} {Q : Exit → Act → World → Prop} {α : Type} {R : World → Value → α → Prop}
/-- 'out = append(out, x)'. -/
theorem wpList_pushL (K : ElemT P T E z bytes) {w1 : World} (hgd : o.guard = none) (s x : Operand) (ho : o.op = .call { callee := .builtin .append, args := #[s, x], argTypes := #[T, T] })
    (base : Nat) (v : Value) (xs : List α) (u : Value) (y : α) (hs : a.eval s = v) (hx : a.eval x = .slice (some ⟨w1.heap.size, 0, none⟩) 1 1) (hown : OwnL R w1 base E v xs) (hy : StR base E R w1 u y) (hu : u.oneCell' = true)
    (hlen : (xs.length + 1) * bytes ≤ 140737488355328) (hmax : xs.length + 1 ≤ maxLen) (hbase : base ≤ w1.heap.size)
    (h : ∀ v' w', OwnL R w' base E v' (xs ++ [y]) → Chg base E w1 w' → Below base w1 w' → wpList P ops Q rest (a.put o.dst v') w') :
    wpList P ops Q (o :: rest) a (w1.alloc (.cells #[u] E)) := by
  obtain ⟨vs, h1, h2⟩ := hown
  have hl := h2.1
  refine wpList_push K hgd s x ho base v vs u hs hx h1 hu (by rw [hl]; exact hlen) (by rw [hl]; exact hmax) hbase fun v' w' hown' hg hb => ?_
  have hc : Chg base E w1 w' := (Chg.alloc w1 _).trans (Chg.of_grown hg (h1.alloc _))
  exact h v' w' ⟨vs ++ [u], hown', (h2.chg hc).snoc (hy.chg hc)⟩ hc hb
/-- 'append(out, src...)'. -/
theorem wpList_extendL (K : ElemT P T E z bytes) {w : World} (hgd : o.guard = none) (s x : Operand) (ho : o.op = .call { callee := .builtin .append, args := #[s, x], argTypes := #[T, T] })
    (base : Nat) (v : Value) (xs : List α) (src : Value) (us : List Value) (ys : List α) (hs : a.eval s = v) (hx : a.eval x = src) (hown : OwnL R w base E v xs) (hsrc : RdV w src us) (hr : Reads (StR base E R) w us ys) (hone : ∀ u ∈ us, u.oneCell' = true)
    (hlen : (xs.length + ys.length) * bytes ≤ 140737488355328) (hmax : xs.length + ys.length ≤ maxLen) (hbase : base ≤ w.heap.size)
    (h : ∀ v' w', OwnL R w' base E v' (xs ++ ys) → Chg base E w w' → Below base w w' → wpList P ops Q rest (a.put o.dst v') w') :
    wpList P ops Q (o :: rest) a w := by
  obtain ⟨vs, h1, h2⟩ := hown
  have hl := h2.1
  have hl2 := hr.1
  refine wpList_extend K hgd s x ho base v vs src us hs hx h1 hsrc hone (by rw [hl, hl2]; exact hlen) (by rw [hl, hl2]; exact hmax) hbase fun v' w' hown' hg hb => ?_
  have hc : Chg base E w w' := Chg.of_grown hg h1
  exact h v' w' ⟨vs ++ us, hown', (h2.chg hc).append (hr.chg hc)⟩ hc hb
end
/-- A list that read at the start: its cells, and that they read so still. -/
theorem RdL.stable {α : Type} {E : TypeId} {R : World → Value → α → Prop} (hR : Mono R) {w0 w : World} {v : Value} {xs : List α} (h : RdL R w0 v xs) (hb : Below w0.heap.size w0 w) : ∃ us, RdV w v us ∧ Reads (StR w0.heap.size E R) w us xs := by
  obtain ⟨us, h1, h2⟩ := h.vals
  exact ⟨us, h1.below hb, h2.1, fun j a b => StR.of_old hR (h2.2 j a b) hb⟩
end Go.Proofs.Ythagkljenbhbdaa
