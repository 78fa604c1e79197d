/-
  Slices of one-cell elements, for whatever program: 'OwnS': a slice of the call's own that reads as a list (it may be appended to, written into); 'RdS': a slice that reads as a list. The laws of append and make in these words. No condition of its own.
-/
import Derived.WalkKit
import Derived.WalkSpells
import Derived.Lib.Hide
namespace Go.Proofs.Ythagkljenbhbdaa
open Go Go.RowKit

/-- What the program's tables say of a slice type T of one-cell elements E: its zero value and its bytes. -/
structure ElemT (P : Program) (T E : TypeId) (z : Value) (bytes : Nat) : Prop where
  under : P.underlying T = some (.slice E)
  info : (P.info? E).map (fun i => (i.zero, i.size, i.bytes)) = some (some z, 1, bytes)
  zone : z.cells = #[z]

/-- A slice of the call's own (its block is at or above 'base') that reads as the list. -/
def OwnS (w : World) (base : Nat) (e : TypeId) (v : Value) (xs : List Value) : Prop := w.ownsRow base e 1 v xs.length xs

theorem OwnS.nil (w : World) (base : Nat) (e : TypeId) : OwnS w base e (.slice none 0 0) [] := World.ownsRow_nil w base e 1
theorem OwnS.lit (w : World) (base : Nat) (e : TypeId) (xs : List Value) (hb : base ≤ w.heap.size) (hm : xs.length ≤ maxLen) :
    OwnS (w.alloc (.cells xs.toArray e)) base e (.slice (some ⟨w.heap.size, 0, none⟩) xs.length xs.length) xs := by
  have h := World.ownsRow_lit (base := base) (e := e) (size := 1) w xs.toArray xs.length hb hm (by simp)
  simpa [OwnS] using h
theorem OwnS.shape {w : World} {base : Nat} {e : TypeId} {v : Value} {xs : List Value} (h : OwnS w base e v xs) :
    (v = .slice none 0 0 ∧ xs = []) ∨ ∃ g cap, v = .slice (some ⟨g, 0, none⟩) xs.length cap ∧ base ≤ g ∧ g < w.heap.size ∧ xs.length ≤ cap ∧ cap ≤ maxLen ∧ (∀ j, j < xs.length → w.cell? ⟨g, j, none⟩ = xs[j]?) ∧ ∀ j, w.frozen? ⟨g, j, none⟩ = false := by
  have h0 := h
  obtain ⟨hl, hc⟩ := h
  rcases hc with ⟨rfl, hn⟩ | ⟨g, cap, cur, rfl, hb, hg, hcap, hmax, hsz, ht⟩
  · exact .inl ⟨rfl, List.length_eq_zero_iff.1 hn⟩
  · refine .inr ⟨g, cap, rfl, hb, ?_, hcap, hmax, fun j hj => World.ownsRow.cellAt h0 j (by omega), fun j => World.ownsRow.frozenAt h0 j⟩
    rcases Nat.lt_or_ge g w.heap.size with hlt | hge
    · exact hlt
    · simp [Array.getElem?_eq_none hge] at hg
theorem OwnS.below {w w' : World} {base : Nat} {e : TypeId} {v : Value} {xs : List Value} (h : OwnS w base e v xs) (hb : Below w.heap.size w w') : OwnS w' base e v xs := by
  obtain ⟨hl, hc⟩ := h
  refine ⟨hl, ?_⟩
  rcases hc with hc | ⟨g, cap, cur, rfl, hbg, hg, rest⟩
  · exact .inl hc
  · refine .inr ⟨g, cap, cur, rfl, hbg, ?_, rest⟩
    have hlt : g < w.heap.size := by
      rcases Nat.lt_or_ge g w.heap.size with hlt | hge
      · exact hlt
      · simp [Array.getElem?_eq_none hge] at hg
    rw [hb.block g hlt]; exact hg
theorem OwnS.alloc {w : World} {base : Nat} {e : TypeId} {v : Value} {xs : List Value} (h : OwnS w base e v xs) (o : Obj) : OwnS (w.alloc o) base e v xs := World.ownsRow.alloc h o
/-- Writes to another row leave it. -/
theorem OwnS.kept {w w' : World} {base : Nat} {e : TypeId} {v : Value} {xs : List Value} {row : Option Nat} (h : OwnS w base e v xs) (hg : w.grownBy w' row) (hne : v.ownBlock = none ∨ v.ownBlock ≠ row) : OwnS w' base e v xs :=
  World.ownsRow.kept h hg hne
theorem OwnS.own_ge {w : World} {base : Nat} {e : TypeId} {v : Value} {xs : List Value} (h : OwnS w base e v xs) : ∀ k, v.ownBlock = some k → base ≤ k := fun k hk => (World.ownsRow.lt h k hk).1

/-- A store into a slice of the call's own. -/
theorem OwnS.stored {w : World} {base g n cap : Nat} {e : TypeId} {xs : List Value} (h : OwnS w base e (.slice (some ⟨g, 0, none⟩) n cap) xs) (j : Nat) (u : Value) :
    OwnS (w.setCell ⟨g, j, none⟩ u) base e (.slice (some ⟨g, 0, none⟩) n cap) (xs.set j u) ∧ Below base w (w.setCell ⟨g, j, none⟩ u) := by
  have hn : n = xs.length := by
    rcases OwnS.shape h with ⟨h', _⟩ | ⟨g', cap', h', _⟩
    · simp at h'
    · simp only [Value.slice.injEq] at h'; exact h'.2.1
  have hb : base ≤ g := h.own_ge g rfl
  unfold OwnS at h ⊢
  rw [List.length_set]
  subst hn
  exact ⟨(World.ownsRow.stored h j u).1, (Below.refl base w).setCell (p := ⟨g, j, none⟩) hb _⟩
theorem OwnS.cell {w : World} {base g n cap : Nat} {e : TypeId} {xs : List Value} (h : OwnS w base e (.slice (some ⟨g, 0, none⟩) n cap) xs) (j : Nat) (hj : j < xs.length) : w.cell? ⟨g, j, none⟩ = some xs[j] := by
  rcases OwnS.shape h with ⟨h', _⟩ | ⟨g', cap', h', _, _, _, _, hc, _⟩
  · simp at h'
  · simp only [Value.slice.injEq, Option.some.injEq, Addr.mk.injEq, and_true] at h'
    obtain ⟨rfl, _⟩ := h'
    rw [hc j hj, List.getElem?_eq_getElem]
theorem OwnS.free {w : World} {base g n cap : Nat} {e : TypeId} {xs : List Value} (h : OwnS w base e (.slice (some ⟨g, 0, none⟩) n cap) xs) (j : Nat) : w.frozen? ⟨g, j, none⟩ = false := by
  rcases OwnS.shape h with ⟨h', _⟩ | ⟨g', cap', h', _, _, _, _, _, hf⟩
  · simp at h'
  · simp only [Value.slice.injEq, Option.some.injEq, Addr.mk.injEq, and_true] at h'
    obtain ⟨rfl, _⟩ := h'
    exact hf j

section
variable {P : Program} {T E : TypeId} {z : Value} {bytes : Nat} {ops : Array Oper} {rest : List Oper} {o : Oper} {a : Act} {Q : Exit → Act → World → Prop}

/-- 'out = append(out, x)', out of the call's own: x lies in the block that was laid for it. -/
theorem wpList_push (K : ElemT P T E z bytes) {w1 : World} (hgd : o.guard = none) (s x : Operand) (ho : o.op = .call { callee := .builtin .append, args := #[s, x], argTypes := #[T, T] })
    (base : Nat) (v : Value) (xs : List Value) (u : Value) (hs : a.eval s = v) (hx : a.eval x = .slice (some ⟨w1.heap.size, 0, none⟩) 1 1) (hown : OwnS w1 base E v xs) (hu : u.oneCell' = true)
    (hlen : (xs.length + 1) * bytes ≤ 140737488355328) (hmax : xs.length + 1 ≤ maxLen) (hbase : base ≤ w1.heap.size)
    (h : ∀ v' w', OwnS w' base E v' (xs ++ [u]) → (w1.alloc (.cells #[u] E)).grownBy w' v.ownBlock → Below base w1 w' → wpList P ops Q rest (a.put o.dst v') w') :
    wpList P ops Q (o :: rest) a (w1.alloc (.cells #[u] E)) := by
  obtain ⟨i, hi, hz0, hz1, hz2⟩ := info_parts K.info
  refine wpList_append_own _ hgd s x T ho base E i z 1 bytes K.under hi hz0 hz1 hz2 (by rw [K.zone]; rfl) (by decide) v xs.length xs hs (OwnS.alloc hown _) ⟨w1.heap.size, 0, none⟩ 1 1 [u] hx rfl ?_ ?_ hmax hlen ?_ ?_
  · intro j y hj
    match j, hj with
    | 0, hj =>
      simp at hj; subst hj
      simp [Addr.add, World.cell?_alloc_new]
  · intro y hy; simp at hy; subst hy; exact hu
  · simp; omega
  · intro v' w' hown' hg _
    refine h v' w' (by simpa [OwnS] using hown') hg ?_
    exact ((Below.refl base w1).alloc hbase _).grown hg (by simp; omega) (OwnS.own_ge hown)
/-- 'make([]T, n)', n a variable: n zero elements of the call's own. -/
theorem wpList_makeN (K : ElemT P T E z bytes) {w : World} (hgd : o.guard = none) (l c : Operand) (hop : o.op = Op.makeSlice T l c)
    (base : Nat) (kl kc : IntKind) (L C : Int) (n : Nat) (hl : a.eval l = .int kl L) (hc : a.eval c = .int kc C) (hL : L = (n : Int)) (hC : C = (n : Int))
    (hb : bytes * n ≤ 281474976710656) (hm : n ≤ maxLen) (hbase : base ≤ w.heap.size)
    (h : ∀ w', OwnS w' base E (.slice (some ⟨w.heap.size, 0, none⟩) n n) (List.replicate n z) → Below w.heap.size w w' → wpList P ops Q rest (a.put o.dst (.slice (some ⟨w.heap.size, 0, none⟩) n n)) w') :
    wpList P ops Q (o :: rest) a w := by
  obtain ⟨i, hi, hz0, hz1, hz2⟩ := info_parts K.info
  refine wpList_make_full w hgd l c T hop base E i z 1 K.under hi hz0 hz1 kl kc L C n hl hc hL hC (by rw [hz2]; exact hb) hm hbase fun w' hown hg => ?_
  refine h w' ?_ ((Below.refl _ _).grown hg (Nat.le_refl _) (fun k hk => by cases hk))
  rw [K.zone, Nat.mul_one, toList_madeCells_one] at hown
  simpa [OwnS] using hown
end
end Go.Proofs.Ythagkljenbhbdaa
