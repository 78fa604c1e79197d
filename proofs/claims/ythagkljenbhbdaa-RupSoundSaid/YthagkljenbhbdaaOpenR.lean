/-
  From an argument's reading in the row to 'RdL': a slice (of slices ..) of one-cell elements reads as a list. No condition of its own.
-/
import Derived.Test.YthagkljenbhbdaaRd
import Derived.Deep.Matrix
import Derived.OpenShut
import Derived.ProofKit
namespace Go.Proofs.Ythagkljenbhbdaa
open Go Go.ChangeShapes Go.WideShapes Go.ChangeAt Go.RowKit Go.Deep

/-- Numbers that Go's int holds. -/
def I64 (x : Int) : Prop := -9223372036854775808 ≤ x ∧ x ≤ 9223372036854775807
/-- A one-cell value of type t reads by R. -/
def Opens {α : Type} (P : Program) (w : World) (t : TypeId) (R : World → Value → α → Prop) : Prop :=
  ∀ (H : Type) (enc : TypeId × Value → H) (n : Nat) (v : Value) (d : DataW H × List MemPlace), DataW.trod enc P w 0 (fun _ => true) true n t [v] = some d → ∃ x, R w v x
def IntB (k : IntKind) (w : World) (v : Value) (x : Int) : Prop := IntV k w v x ∧ (Lit.int k x).wf = true
theorem opens_int {P : Program} {w : World} {t : TypeId} {k : IntKind} (ht : P.underlying t = some (.int k)) : Opens P w t (IntB k) := by
  intro H enc n v d h
  obtain ⟨x, hv, _, hw⟩ := DataW.trod_int ht h
  exact ⟨x, by simpa [IntV] using hv, hw⟩
def BoolV (_ : World) (v : Value) (b : Bool) : Prop := v = .bool b
theorem mono_bool : Mono BoolV := fun _ _ _ _ _ h => h
theorem opens_bool {P : Program} {w : World} {t : TypeId} (ht : P.underlying t = some .bool) : Opens P w t BoolV := by
  intro H enc n v d h
  obtain ⟨x, hv, _⟩ := DataW.trod_bool ht h
  exact ⟨x, by simpa [BoolV] using hv⟩
def StrV (_ : World) (v : Value) (s : List UInt8) : Prop := v = .string ⟨s.toArray⟩ ∧ s.length ≤ maxLen
theorem mono_str : Mono StrV := fun _ _ _ _ _ h => h
theorem opens_str {P : Program} {w : World} {t : TypeId} (ht : P.underlying t = some .string) : Opens P w t StrV := by
  intro H enc n v d h
  obtain ⟨s, hv, _, hl⟩ := DataW.trod_string ht h
  exact ⟨s.data.toList, by simpa using hv, by simpa using hl⟩
theorem opens_slice {α : Type} {P : Program} {w : World} {t e : TypeId} {R : World → Value → α → Prop} [Inhabited α] (ht : P.underlying t = some (.slice e)) (ce : P.cellsOf e = 1) (hR : Opens P w e R) : Opens P w t (RdL R) := by
  intro H enc n v d h
  rcases open_slice1 ht ce h with ⟨h0, _⟩ | ⟨a, len, cap, m, n', V, D, Pl, hv, hb, hl, hm, hmm, rfl, hx⟩
  · simp only [List.cons.injEq, and_true] at h0
    subst h0
    exact ⟨[], RdL.nil w⟩
  · simp only [List.cons.injEq, and_true] at hv
    subst hv
    simp only [if_true] at hmm
    subst hmm
    have key : ∀ i, i < len → ∃ x, R w (V i) x := fun i hi => hR H enc n' (V i) _ (hx i (by omega)).2
    obtain ⟨X, hX⟩ := choose_lt key
    refine ⟨(List.range len).map X, some a, m, by simp, ⟨by simpa using hl, fun h => by cases h⟩, hm, fun j hj => ?_⟩
    have hjl : j < len := by simpa using hj
    have hc := (hx j (by omega)).1
    obtain ⟨b, off, spot⟩ := a
    have hspot : spot = none := by simpa [Addr.add] using World.cell?_spot (hx 0 (by omega)).1
    subst hspot
    rw [Go.WideShapes.add_plain] at hc
    refine ⟨b, off, V j, rfl, ?_, hc, by simpa using hX j hjl⟩
    rcases Nat.lt_or_ge b w.heap.size with h | h
    · exact h
    · simp [World.cell?, Array.getElem?_eq_none h] at hc
/-- An argument that is a slice. -/
theorem Opens.arg {α H : Type} {enc : TypeId × Value → H} {P : Program} {w : World} {t e : TypeId} {R : World → Value → α → Prop} {r : Reach} {b0 : Nat} {v : Value} {d : DataW H} {ps : List MemPlace} (hR : Opens P w t R)
    (ht : P.underlying t = some (.slice e)) (hval : Value.okWide P w r b0 t v) (hd : DataW.Trod enc P w 0 (fun _ => true) true t v d ps) : ∃ x, R w v x := by
  obtain ⟨a, len, cap, rfl⟩ := okWide_slice ht hval
  obtain ⟨fuel, hf⟩ := hd
  exact hR H enc fuel _ _ (by simpa [Value.cells] using hf)

theorem RdL.split {α : Type} {R : World → Value → α → Prop} {Q : α → Prop} {w : World} {v : Value} {xs : List α} (h : RdL (fun w v x => R w v x ∧ Q x) w v xs) : RdL R w v xs ∧ ∀ x ∈ xs, Q x := by
  obtain ⟨a, cap, hv, h1, h2, h3⟩ := h
  refine ⟨⟨a, cap, hv, h1, h2, fun j hj => ?_⟩, fun x hx => ?_⟩
  · obtain ⟨b, off, u, ha, hlt, hc, hu, _⟩ := h3 j hj
    exact ⟨b, off, u, ha, hlt, hc, hu⟩
  · obtain ⟨j, hj, rfl⟩ := List.mem_iff_getElem.1 hx
    obtain ⟨b, off, u, ha, hlt, hc, _, hq⟩ := h3 j hj
    exact hq
theorem RdL.imp {α : Type} {R S : World → Value → α → Prop} {w : World} {v : Value} {xs : List α} (h : RdL R w v xs) (hi : ∀ u x, R w u x → S w u x) : RdL S w v xs := by
  obtain ⟨a, cap, hv, h1, h2, h3⟩ := h
  refine ⟨a, cap, hv, h1, h2, fun j hj => ?_⟩
  obtain ⟨b, off, u, ha, hlt, hc, hu⟩ := h3 j hj
  exact ⟨b, off, u, ha, hlt, hc, hi u _ hu⟩
theorem i64_wf {x : Int} (h : (Lit.int .i64 x).wf = true) : I64 x := bounds_i64 h
theorem RdL.ints {w : World} {v : Value} {xs : List Int} (h : RdL (IntB .i64) w v xs) : RdL (IntV .i64) w v xs ∧ ∀ x ∈ xs, I64 x :=
  ⟨(RdL.split h).1, fun x hx => i64_wf ((RdL.split h).2 x hx)⟩
theorem RdL.rows {w : World} {v : Value} {xs : List (List Int)} (h : RdL (RdL (IntB .i64)) w v xs) : RdL (RdL (IntV .i64)) w v xs ∧ ∀ l ∈ xs, ∀ x ∈ l, I64 x := by
  have h2 : RdL (fun w v x => RdL (IntV .i64) w v x ∧ ∀ y ∈ x, I64 y) w v xs := h.imp fun u x hu => hu.ints
  exact h2.split
end Go.Proofs.Ythagkljenbhbdaa
