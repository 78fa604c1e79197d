/-
  Slices that are only read, for whatever program: 'RdL R w v as': the slice value v reads in world w as the list as, each element by R. It stays so where nothing below the blocks that are there changes. No condition of its own.
-/
import Derived.Test.YthagkljenbhbdaaOwn
import Derived.Laws.AppendOwnNone
namespace Go.Proofs.Ythagkljenbhbdaa
open Go Go.RowKit

/-- A slice value that reads as a list. -/
def RdL {α : Type} (R : World → Value → α → Prop) (w : World) (v : Value) (as : List α) : Prop :=
  ∃ a cap, v = .slice a as.length cap ∧ (as.length ≤ cap ∧ (a = none → cap = 0)) ∧ cap ≤ maxLen ∧
    ∀ j (h : j < as.length), ∃ b off u, a = some ⟨b, off, none⟩ ∧ b < w.heap.size ∧ w.cell? ⟨b, off + j, none⟩ = some u ∧ R w u as[j]
/-- An integer as a value. -/
def IntV (k : IntKind) (_ : World) (v : Value) (n : Int) : Prop := v = .int k n
/-- What stays as it is where nothing below the blocks that are there changes. -/
def Mono {α : Type} (R : World → Value → α → Prop) : Prop := ∀ w w' v x, Below w.heap.size w w' → R w v x → R w' v x

theorem mono_int (k : IntKind) : Mono (IntV k) := fun _ _ _ _ _ h => h
theorem mono_rdl {α : Type} {R : World → Value → α → Prop} (hR : Mono R) : Mono (RdL R) := by
  intro w w' v as hb ⟨a, cap, hv, h1, h2, hc⟩
  refine ⟨a, cap, hv, h1, h2, fun j h => ?_⟩
  obtain ⟨b, off, u, ha, hlt, hcell, hu⟩ := hc j h
  exact ⟨b, off, u, ha, Nat.lt_of_lt_of_le hlt hb.size, (hb.cell (p := ⟨b, off + j, none⟩) hlt).trans hcell, hR w w' u _ hb hu⟩
theorem RdL.below {α : Type} {R : World → Value → α → Prop} (hR : Mono R) {w w' : World} {v : Value} {as : List α} (h : RdL R w v as) (hb : Below w.heap.size w w') : RdL R w' v as := mono_rdl hR w w' v as hb h

theorem RdL.nil {α : Type} {R : World → Value → α → Prop} (w : World) : RdL R w (.slice none 0 0) ([] : List α) :=
  ⟨none, 0, rfl, ⟨Nat.le_refl _, fun _ => rfl⟩, Nat.zero_le _, fun j h => by simp at h⟩
/-- A slice of the call's own reads as what its cells read as. -/
theorem OwnS.rd {α : Type} {R : World → Value → α → Prop} {w : World} {base : Nat} {e : TypeId} {v : Value} {xs : List Value} {as : List α} (h : OwnS w base e v xs) (hl : xs.length = as.length)
    (hR : ∀ j (h1 : j < xs.length) (h2 : j < as.length), R w xs[j] as[j]) : RdL R w v as := by
  rcases h.shape with ⟨rfl, rfl⟩ | ⟨g, cap, rfl, _, hlt, hcap, hmax, hcell, _⟩
  · have : as = [] := List.length_eq_zero_iff.1 (by simpa using hl.symm)
    subst this; exact RdL.nil w
  · refine ⟨some ⟨g, 0, none⟩, cap, by rw [hl], ⟨by omega, fun h => by cases h⟩, hmax, fun j hj => ?_⟩
    refine ⟨g, 0, xs[j]'(by omega), rfl, hlt, ?_, hR j (by omega) hj⟩
    rw [Nat.zero_add, hcell j (by omega), List.getElem?_eq_getElem]
theorem OwnS.rdInts {w : World} {base : Nat} {e : TypeId} {v : Value} {k : IntKind} {zs : List Int} (h : OwnS w base e v (zs.map (Value.int k))) : RdL (IntV k) w v zs :=
  h.rd (by simp) (fun j h1 h2 => by simp [IntV])

/-- What holds below a bound that is not above the heap's size. -/
theorem RdL.of_start {α : Type} {R : World → Value → α → Prop} (hR : Mono R) {w w' : World} {v : Value} {as : List α} (h : RdL R w v as) (hb : Below w.heap.size w w') : RdL R w' v as := h.below hR hb
/-- The cells of a slice, as they are. -/
def RdV (w : World) (v : Value) (vs : List Value) : Prop :=
  ∃ a cap, v = .slice a vs.length cap ∧ (vs.length ≤ cap ∧ (a = none → cap = 0)) ∧ cap ≤ maxLen ∧ ∀ j (h : j < vs.length), ∃ b off, a = some ⟨b, off, none⟩ ∧ b < w.heap.size ∧ w.cell? ⟨b, off + j, none⟩ = some vs[j]
/-- Each value reads as its counterpart. -/
def Reads {α : Type} (R : World → Value → α → Prop) (w : World) (vs : List Value) (xs : List α) : Prop :=
  vs.length = xs.length ∧ ∀ j (h : j < vs.length) (h' : j < xs.length), R w vs[j] xs[j]
theorem Reads.nil {α : Type} {R : World → Value → α → Prop} (w : World) : Reads R w [] ([] : List α) := ⟨rfl, fun j h => by simp at h⟩
theorem Reads.append {α : Type} {R : World → Value → α → Prop} {w : World} {vs us : List Value} {xs ys : List α} (h : Reads R w vs xs) (k : Reads R w us ys) : Reads R w (vs ++ us) (xs ++ ys) := by
  obtain ⟨h1, h2⟩ := h
  obtain ⟨k1, k2⟩ := k
  refine ⟨by simp [h1, k1], fun j hj hj' => ?_⟩
  by_cases hl : j < vs.length
  · rw [List.getElem_append_left hl, List.getElem_append_left (by omega)]
    exact h2 j hl (by omega)
  · rw [List.getElem_append_right (by omega), List.getElem_append_right (by omega)]
    simp only [h1]
    simp at hj hj'
    exact k2 (j - xs.length) (by omega) (by omega)
theorem Reads.single {α : Type} {R : World → Value → α → Prop} {w : World} {u : Value} {x : α} (h : R w u x) : Reads R w [u] [x] :=
  ⟨rfl, fun j hj hj' => by
    simp at hj
    subst hj; exact h⟩
theorem Reads.snoc {α : Type} {R : World → Value → α → Prop} {w : World} {vs : List Value} {xs : List α} {u : Value} {x : α} (h : Reads R w vs xs) (hu : R w u x) : Reads R w (vs ++ [u]) (xs ++ [x]) :=
  h.append (Reads.single hu)
theorem Reads.mono {α : Type} {R : World → Value → α → Prop} (hR : Mono R) {w w' : World} {vs : List Value} {xs : List α} (h : Reads R w vs xs) (hb : Below w.heap.size w w') : Reads R w' vs xs :=
  ⟨h.1, fun j h1 h2 => hR w w' _ _ hb (h.2 j h1 h2)⟩
theorem RdL.vals {α : Type} {R : World → Value → α → Prop} {w : World} {v : Value} {xs : List α} (h : RdL R w v xs) : ∃ vs, RdV w v vs ∧ Reads R w vs xs := by
  obtain ⟨a, cap, rfl, h1, h2, h3⟩ := h
  by_cases hx : xs.length = 0
  · refine ⟨[], ⟨a, cap, by rw [hx]; rfl, ⟨Nat.zero_le _, h1.2⟩, h2, fun j hj => by simp at hj⟩, ⟨by simp [hx], fun j hj => by simp at hj⟩⟩
  · obtain ⟨b, off, u0, rfl, _⟩ := h3 0 (by omega)
    have hl : ((List.range xs.length).map fun j => (w.cell? ⟨b, off + j, none⟩).getD undef).length = xs.length := by simp
    refine ⟨(List.range xs.length).map fun j => (w.cell? ⟨b, off + j, none⟩).getD undef, ⟨some ⟨b, off, none⟩, cap, by rw [hl], ⟨by rw [hl]; exact h1.1, h1.2⟩, h2, fun j hj => ?_⟩, ⟨hl, fun j hj hj' => ?_⟩⟩
    · obtain ⟨b', off', u, he, hlt, hc, hu⟩ := h3 j (by rw [hl] at hj; exact hj)
      simp only [Option.some.injEq, Addr.mk.injEq, and_true] at he
      obtain ⟨rfl, rfl⟩ := he
      exact ⟨b, off, rfl, hlt, by simp [hc]⟩
    · obtain ⟨b', off', u, he, hlt, hc, hu⟩ := h3 j hj'
      simp only [Option.some.injEq, Addr.mk.injEq, and_true] at he
      obtain ⟨rfl, rfl⟩ := he
      simpa [hc] using hu
theorem RdV.rd {α : Type} {R : World → Value → α → Prop} {w : World} {v : Value} {vs : List Value} {xs : List α} (h : RdV w v vs) (hr : Reads R w vs xs) : RdL R w v xs := by
  obtain ⟨a, cap, rfl, h1, h2, h3⟩ := h
  have hl := hr.1
  refine ⟨a, cap, by rw [hl], ⟨by omega, h1.2⟩, h2, fun j hj => ?_⟩
  obtain ⟨b, off, ha, hlt, hc⟩ := h3 j (by omega)
  exact ⟨b, off, _, ha, hlt, hc, hr.2 j (by omega) hj⟩
theorem RdV.below {w w' : World} {v : Value} {vs : List Value} (h : RdV w v vs) (hb : Below w.heap.size w w') : RdV w' v vs := by
  obtain ⟨a, cap, rfl, h1, h2, h3⟩ := h
  refine ⟨a, cap, rfl, h1, h2, fun j hj => ?_⟩
  obtain ⟨b, off, ha, hlt, hc⟩ := h3 j hj
  exact ⟨b, off, ha, Nat.lt_of_lt_of_le hlt hb.size, (hb.cell (p := ⟨b, off + j, none⟩) hlt).trans hc⟩
theorem OwnS.rdv {w : World} {base : Nat} {e : TypeId} {v : Value} {xs : List Value} (h : OwnS w base e v xs) : RdV w v xs := by
  rcases h.shape with ⟨rfl, rfl⟩ | ⟨g, cap, rfl, _, hlt, hcap, hmax, hcell, _⟩
  · exact ⟨none, 0, rfl, ⟨Nat.le_refl _, fun _ => rfl⟩, Nat.zero_le _, fun j h => by simp at h⟩
  · exact ⟨some ⟨g, 0, none⟩, cap, rfl, ⟨hcap, fun h => by cases h⟩, hmax, fun j hj => ⟨g, 0, rfl, hlt, by rw [Nat.zero_add, hcell j hj, List.getElem?_eq_getElem]⟩⟩

section
variable {P : Program} {T E : TypeId} {z : Value} {bytes : Nat} {ops : Array Oper} {rest : List Oper} {o : Oper} {a : Act} {Q : Exit → Act → World → Prop}
/-- 'append(out, src...)', out of the call's own, src whatever reads. -/
theorem wpList_extend (K : ElemT P T E z bytes) {w : World} (hgd : o.guard = none) (s x : Operand) (ho : o.op = .call { callee := .builtin .append, args := #[s, x], argTypes := #[T, T] })
    (base : Nat) (v : Value) (xs : List Value) (src : Value) (ys : List Value) (hs : a.eval s = v) (hx : a.eval x = src) (hown : OwnS w base E v xs) (hsrc : RdV w src ys) (hone : ∀ u ∈ ys, u.oneCell' = true)
    (hlen : (xs.length + ys.length) * bytes ≤ 140737488355328) (hmax : xs.length + ys.length ≤ maxLen) (hbase : base ≤ w.heap.size)
    (h : ∀ v' w', OwnS w' base E v' (xs ++ ys) → w.grownBy w' v.ownBlock → Below base w w' → wpList P ops Q rest (a.put o.dst v') w') :
    wpList P ops Q (o :: rest) a w := by
  obtain ⟨i, hi, hz0, hz1, hz2⟩ := info_parts K.info
  obtain ⟨ad, cap, rfl, h1, h2, h3⟩ := hsrc
  have done : ∀ v' w', w'.ownsRow base E 1 v' (xs.length + ys.length) (xs ++ ys) → w.grownBy w' v.ownBlock → wpList P ops Q rest (a.put o.dst v') w' := fun v' w' hown' hg =>
    h v' w' (by simpa [OwnS] using hown') hg ((Below.refl base w).grown hg hbase (OwnS.own_ge hown))
  cases ad with
  | none =>
    have : ys = [] := by
      cases ys with
      | nil => rfl
      | cons y ys => obtain ⟨b, off, ha, _⟩ := h3 0 (by simp); cases ha
    subst this
    have hc0 := h1.2 rfl
    subst hc0
    exact wpList_append_own_none hgd s x T ho base E i 1 K.under hi v xs.length xs hs hown hx (done v w (by simpa [OwnS] using hown) (World.grownBy.refl w _))
  | some ad =>
    refine wpList_append_own w hgd s x T ho base E i z 1 bytes K.under hi hz0 hz1 hz2 (by rw [K.zone]; rfl) (by decide) v xs.length xs hs hown ad ys.length cap ys hx (by simp) ?_ hone hmax hlen hbase (fun v' w' hown' hg _ => done v' w' hown' hg)
    intro j u hj
    obtain ⟨hjl, rfl⟩ := List.getElem?_eq_some_iff.1 hj
    obtain ⟨b, off, ha, _, hc⟩ := h3 j hjl
    simp only [Option.some.injEq] at ha
    subst ha
    rw [Addr.add_lit]; exact hc
end
theorem ret_bool {a b : Bool} (h : a = b) : Ending.returned (.bool a) = .returned (.bool b) := by rw [h]
theorem ret_int {k : IntKind} {a b : Int} (h : a = b) : Ending.returned (.int k a) = .returned (.int k b) := by rw [h]
end Go.Proofs.Ythagkljenbhbdaa
