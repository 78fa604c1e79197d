/-
  From a law's contract ('it returns true; below the blocks that were there nothing has changed') to the row's 'post': for whatever parameters. No condition of its own. Slices of one-cell elements, for whatever program: 'OwnS': a slice of the call's own that reads as a list (it may be appended to, written into); 'RdS': a slice that reads as a list. The laws of append and make in these words. No condition of its own. Slices that are only read, for whatever program: 'RdL R w v as': the slice value v reads in world w as the list as, each element by R. It stays so where nothing below the blocks that are there changes. No condition of its own. From an argument's reading in the row to 'RdL': a slice (of slices ..) of one-cell elements reads as a list. No condition of its own.
-/
import Derived.Test.YtomameefmobnlaaDoorRows
import Derived.WalkKit
import Derived.ProofKit
import Derived.OpenShut
import Derived.Deep.DeepHandedRow
import Derived.WalkSpells
import Derived.Lib.Hide
import Derived.Laws.AppendOwnNone
import Derived.Deep.Matrix
namespace Go.Proofs.YtomameefmobnlaaDoor
open Go Go.ChangeShapes Go.WideShapes Go.ChangeAt Go.RowKit

theorem own : ownKnob Tryd.prog.godebug = none := by kernel_rfl
theorem laidOut : laidOutB Tryd.prog = true := by kernel_rfl

/-- Arguments read behind the call as before it, where nothing below the old blocks has changed. -/
theorem trodAll_below {H : Type} {enc : TypeId × Value → H} {P : Program} (hl : laidOutB P = true) {W W' : World} (hb : Below W.heap.size W W') :
    ∀ (ts : List TypeId) (vs : List Value) (ds : List (DataW H)) (ps : List MemPlace), (ts.all fun t => P.readableRec t && decide (t < P.types.size)) = true →
      DataW.TrodAll enc P W 0 (fun _ => true) true ts vs ds ps → (∀ x ∈ ps, x.block < W.heap.size) →
      DataW.TrodAll enc P W' 0 (fun b => decide (b < W.heap.size)) true ts vs ds ps
  | [], [], [], _, _, h, _ => h
  | t :: ts, v :: vs, d :: ds, ps, hts, h, hlt => by
    obtain ⟨p, q, h1, h2, rfl⟩ := h
    simp only [List.all_cons, Bool.and_eq_true, decide_eq_true_eq] at hts
    refine ⟨p, q, Below.trod hl hts.1.1 hts.1.2 h1 hb (fun x hx => hlt x (List.mem_append_left _ hx)), ?_, rfl⟩
    exact trodAll_below hl hb ts vs ds q hts.2 h2 (fun x hx => hlt x (List.mem_append_right _ hx))
  | [], _ :: _, _, _, _, h, _ => h.elim
  | [], [], _ :: _, _, _, h, _ => h.elim
  | _ :: _, [], _, _, _, h, _ => h.elim
  | _ :: _, _ :: _, [], _, _, h, _ => h.elim

theorem trodAll_length {H : Type} {enc : TypeId × Value → H} {P : Program} {W : World} {b : Nat} {sp : Nat → Bool} {hd : Bool} :
    ∀ (ts : List TypeId) (vs : List Value) (ds : List (DataW H)) (ps : List MemPlace), DataW.TrodAll enc P W b sp hd ts vs ds ps → ds.length = ts.length
  | [], [], [], _, _ => rfl
  | _ :: ts, _ :: vs, _ :: ds, _, h => by obtain ⟨_, q, _, h2, _⟩ := h; simp [trodAll_length ts vs ds q h2]
  | [], _ :: _, _, _, h => h.elim
  | [], [], _ :: _, _, h => h.elim
  | _ :: _, [], _, _, h => h.elim
  | _ :: _, _ :: _, [], _, h => h.elim

/-- THE LAW's POST: it returned true and below the old blocks nothing has changed. -/
theorem law_post {H : Type} {enc : TypeId × Value → H} {P : Program} {f : Func} {s : ChangeSpec} {W W' : World} {args : Array Value} {ds gs : List (DataW H)} {before : List MemPlace} {tb : TypeId}
    (hW : DataW.Whole enc P f.params.toList s.vars false W args.toList ds gs before) (hv : s.vars = []) (hl : laidOutB P = true)
    (hts : (f.params.toList.all fun t => P.readableRec t && decide (t < P.types.size)) = true) (htb : f.resultTypes = #[tb]) (hub : P.underlying tb = some .bool)
    (hfn : ∀ ds : List (DataW H), ds.length = f.params.toList.length → s.fn H ds = { results := [.lit (.bool true)], args := ds })
    (hb : Below W.heap.size W W') : s.post enc P f false true false false W args (.bool true) W' := by
  have hW0 := hW
  obtain ⟨p, q, hA, hV, rfl, _, _⟩ := hW
  have hlen := trodAll_length _ _ _ _ hA
  have hvars : gs = [] ∧ q = [] := by
    rw [hv] at hV
    cases gs with
    | nil => exact ⟨rfl, by simpa [DataW.TrodVars] using hV⟩
    | cons g gs => simp [DataW.TrodVars] at hV
  obtain ⟨rfl, rfl⟩ := hvars
  have e := hfn ds hlen
  have hlt := hW0.lt
  simp only [List.append_nil] at hW0 hlt
  refine ⟨ds, [], p, [], p, [], hW0, ?_, ?_, ?_, hb.frame _, fun h => by cases h⟩
  · rw [htb]
    simp only [List.append_nil]
    rw [e]
    exact trodAll_mk1 (shut_bool hub true)
  · simp only [List.append_nil]
    rw [e]
    exact trodAll_below hl hb _ _ _ _ hts hA hlt
  · simp only [List.append_nil]
    rw [e, hv]
    simp [DataW.TrodVars]
end Go.Proofs.YtomameefmobnlaaDoor
namespace Go.Proofs.YtomameefmobnlaaDoor
open Go Go.RowKit

/-- What the program's tables say of a slice type T of one-cell elements E: its zero value and its bytes. -/
structure ElemT (P : Program) (T E : TypeId) (z : Value) (bytes : Nat) : Prop where
  under : P.underlying T = some (.slice E)
  info : (P.info? E).map (fun i => (i.zero, i.size, i.bytes)) = some (some z, 1, bytes)
  zone : z.cells = #[z]

/-- A slice of the call's own (its block is at or above 'base') that reads as the list. -/
def OwnS (w : World) (base : Nat) (e : TypeId) (v : Value) (xs : List Value) : Prop := w.ownsRow base e 1 v xs.length xs

theorem OwnS.nil (w : World) (base : Nat) (e : TypeId) : OwnS w base e (.slice none 0 0) [] := World.ownsRow_nil w base e 1
theorem OwnS.lit (w : World) (base : Nat) (e : TypeId) (xs : List Value) (hb : base ≤ w.heap.size) (hm : xs.length ≤ maxLen) :
    OwnS (w.alloc (.cells xs.toArray e)) base e (.slice (some ⟨w.heap.size, 0, none⟩) xs.length xs.length) xs := by
  have h := World.ownsRow_lit (base := base) (e := e) (size := 1) w xs.toArray xs.length hb hm (by simp)
  simpa [OwnS] using h
theorem OwnS.shape {w : World} {base : Nat} {e : TypeId} {v : Value} {xs : List Value} (h : OwnS w base e v xs) :
    (v = .slice none 0 0 ∧ xs = []) ∨ ∃ g cap, v = .slice (some ⟨g, 0, none⟩) xs.length cap ∧ base ≤ g ∧ g < w.heap.size ∧ xs.length ≤ cap ∧ cap ≤ maxLen ∧ (∀ j, j < xs.length → w.cell? ⟨g, j, none⟩ = xs[j]?) ∧ ∀ j, w.frozen? ⟨g, j, none⟩ = false := by
  have h0 := h
  obtain ⟨hl, hc⟩ := h
  rcases hc with ⟨rfl, hn⟩ | ⟨g, cap, cur, rfl, hb, hg, hcap, hmax, hsz, ht⟩
  · exact .inl ⟨rfl, List.length_eq_zero_iff.1 hn⟩
  · refine .inr ⟨g, cap, rfl, hb, ?_, hcap, hmax, fun j hj => World.ownsRow.cellAt h0 j (by omega), fun j => World.ownsRow.frozenAt h0 j⟩
    rcases Nat.lt_or_ge g w.heap.size with hlt | hge
    · exact hlt
    · simp [Array.getElem?_eq_none hge] at hg
theorem OwnS.below {w w' : World} {base : Nat} {e : TypeId} {v : Value} {xs : List Value} (h : OwnS w base e v xs) (hb : Below w.heap.size w w') : OwnS w' base e v xs := by
  obtain ⟨hl, hc⟩ := h
  refine ⟨hl, ?_⟩
  rcases hc with hc | ⟨g, cap, cur, rfl, hbg, hg, rest⟩
  · exact .inl hc
  · refine .inr ⟨g, cap, cur, rfl, hbg, ?_, rest⟩
    have hlt : g < w.heap.size := by
      rcases Nat.lt_or_ge g w.heap.size with hlt | hge
      · exact hlt
      · simp [Array.getElem?_eq_none hge] at hg
    rw [hb.block g hlt]; exact hg
theorem OwnS.alloc {w : World} {base : Nat} {e : TypeId} {v : Value} {xs : List Value} (h : OwnS w base e v xs) (o : Obj) : OwnS (w.alloc o) base e v xs := World.ownsRow.alloc h o
/-- Writes to another row leave it. -/
theorem OwnS.kept {w w' : World} {base : Nat} {e : TypeId} {v : Value} {xs : List Value} {row : Option Nat} (h : OwnS w base e v xs) (hg : w.grownBy w' row) (hne : v.ownBlock = none ∨ v.ownBlock ≠ row) : OwnS w' base e v xs :=
  World.ownsRow.kept h hg hne
theorem OwnS.own_ge {w : World} {base : Nat} {e : TypeId} {v : Value} {xs : List Value} (h : OwnS w base e v xs) : ∀ k, v.ownBlock = some k → base ≤ k := fun k hk => (World.ownsRow.lt h k hk).1

/-- A store into a slice of the call's own. -/
theorem OwnS.stored {w : World} {base g n cap : Nat} {e : TypeId} {xs : List Value} (h : OwnS w base e (.slice (some ⟨g, 0, none⟩) n cap) xs) (j : Nat) (u : Value) :
    OwnS (w.setCell ⟨g, j, none⟩ u) base e (.slice (some ⟨g, 0, none⟩) n cap) (xs.set j u) ∧ Below base w (w.setCell ⟨g, j, none⟩ u) := by
  have hn : n = xs.length := by
    rcases OwnS.shape h with ⟨h', _⟩ | ⟨g', cap', h', _⟩
    · simp at h'
    · simp only [Value.slice.injEq] at h'; exact h'.2.1
  have hb : base ≤ g := h.own_ge g rfl
  unfold OwnS at h ⊢
  rw [List.length_set]
  subst hn
  exact ⟨(World.ownsRow.stored h j u).1, (Below.refl base w).setCell (p := ⟨g, j, none⟩) hb _⟩
theorem OwnS.cell {w : World} {base g n cap : Nat} {e : TypeId} {xs : List Value} (h : OwnS w base e (.slice (some ⟨g, 0, none⟩) n cap) xs) (j : Nat) (hj : j < xs.length) : w.cell? ⟨g, j, none⟩ = some xs[j] := by
  rcases OwnS.shape h with ⟨h', _⟩ | ⟨g', cap', h', _, _, _, _, hc, _⟩
  · simp at h'
  · simp only [Value.slice.injEq, Option.some.injEq, Addr.mk.injEq, and_true] at h'
    obtain ⟨rfl, _⟩ := h'
    rw [hc j hj, List.getElem?_eq_getElem]
theorem OwnS.free {w : World} {base g n cap : Nat} {e : TypeId} {xs : List Value} (h : OwnS w base e (.slice (some ⟨g, 0, none⟩) n cap) xs) (j : Nat) : w.frozen? ⟨g, j, none⟩ = false := by
  rcases OwnS.shape h with ⟨h', _⟩ | ⟨g', cap', h', _, _, _, _, _, hf⟩
  · simp at h'
  · simp only [Value.slice.injEq, Option.some.injEq, Addr.mk.injEq, and_true] at h'
    obtain ⟨rfl, _⟩ := h'
    exact hf j

section
variable {P : Program} {T E : TypeId} {z : Value} {bytes : Nat} {ops : Array Oper} {rest : List Oper} {o : Oper} {a : Act} {Q : Exit → Act → World → Prop}

/-- 'out = append(out, x)', out of the call's own: x lies in the block that was laid for it. -/
theorem wpList_push (K : ElemT P T E z bytes) {w1 : World} (hgd : o.guard = none) (s x : Operand) (ho : o.op = .call { callee := .builtin .append, args := #[s, x], argTypes := #[T, T] })
    (base : Nat) (v : Value) (xs : List Value) (u : Value) (hs : a.eval s = v) (hx : a.eval x = .slice (some ⟨w1.heap.size, 0, none⟩) 1 1) (hown : OwnS w1 base E v xs) (hu : u.oneCell' = true)
    (hlen : (xs.length + 1) * bytes ≤ 140737488355328) (hmax : xs.length + 1 ≤ maxLen) (hbase : base ≤ w1.heap.size)
    (h : ∀ v' w', OwnS w' base E v' (xs ++ [u]) → (w1.alloc (.cells #[u] E)).grownBy w' v.ownBlock → Below base w1 w' → wpList P ops Q rest (a.put o.dst v') w') :
    wpList P ops Q (o :: rest) a (w1.alloc (.cells #[u] E)) := by
  obtain ⟨i, hi, hz0, hz1, hz2⟩ := info_parts K.info
  refine wpList_append_own _ hgd s x T ho base E i z 1 bytes K.under hi hz0 hz1 hz2 (by rw [K.zone]; rfl) (by decide) v xs.length xs hs (OwnS.alloc hown _) ⟨w1.heap.size, 0, none⟩ 1 1 [u] hx rfl ?_ ?_ hmax hlen ?_ ?_
  · intro j y hj
    match j, hj with
    | 0, hj =>
      simp at hj; subst hj
      simp [Addr.add, World.cell?_alloc_new]
  · intro y hy; simp at hy; subst hy; exact hu
  · simp; omega
  · intro v' w' hown' hg _
    refine h v' w' (by simpa [OwnS] using hown') hg ?_
    exact ((Below.refl base w1).alloc hbase _).grown hg (by simp; omega) (OwnS.own_ge hown)
/-- 'make([]T, n)', n a variable: n zero elements of the call's own. -/
theorem wpList_makeN (K : ElemT P T E z bytes) {w : World} (hgd : o.guard = none) (l c : Operand) (hop : o.op = Op.makeSlice T l c)
    (base : Nat) (kl kc : IntKind) (L C : Int) (n : Nat) (hl : a.eval l = .int kl L) (hc : a.eval c = .int kc C) (hL : L = (n : Int)) (hC : C = (n : Int))
    (hb : bytes * n ≤ 281474976710656) (hm : n ≤ maxLen) (hbase : base ≤ w.heap.size)
    (h : ∀ w', OwnS w' base E (.slice (some ⟨w.heap.size, 0, none⟩) n n) (List.replicate n z) → Below w.heap.size w w' → wpList P ops Q rest (a.put o.dst (.slice (some ⟨w.heap.size, 0, none⟩) n n)) w') :
    wpList P ops Q (o :: rest) a w := by
  obtain ⟨i, hi, hz0, hz1, hz2⟩ := info_parts K.info
  refine wpList_make_full w hgd l c T hop base E i z 1 K.under hi hz0 hz1 kl kc L C n hl hc hL hC (by rw [hz2]; exact hb) hm hbase fun w' hown hg => ?_
  refine h w' ?_ ((Below.refl _ _).grown hg (Nat.le_refl _) (fun k hk => by cases hk))
  rw [K.zone, Nat.mul_one, toList_madeCells_one] at hown
  simpa [OwnS] using hown
end
end Go.Proofs.YtomameefmobnlaaDoor
namespace Go.Proofs.YtomameefmobnlaaDoor
open Go Go.RowKit

/-- A slice value that reads as a list. -/
def RdL {α : Type} (R : World → Value → α → Prop) (w : World) (v : Value) (as1 : List α) : Prop :=
  ∃ a cap, v = .slice a as1.length cap ∧ (as1.length ≤ cap ∧ (a = none → cap = 0)) ∧ cap ≤ maxLen ∧
    ∀ j (h : j < as1.length), ∃ b off u, a = some ⟨b, off, none⟩ ∧ b < w.heap.size ∧ w.cell? ⟨b, off + j, none⟩ = some u ∧ R w u as1[j]
/-- An integer as a value. -/
def IntV (k : IntKind) (_ : World) (v : Value) (n : Int) : Prop := v = .int k n
/-- What stays as it is where nothing below the blocks that are there changes. -/
def Mono {α : Type} (R : World → Value → α → Prop) : Prop := ∀ w w' v x, Below w.heap.size w w' → R w v x → R w' v x

theorem mono_int (k : IntKind) : Mono (IntV k) := fun _ _ _ _ _ h => h
theorem mono_rdl {α : Type} {R : World → Value → α → Prop} (hR : Mono R) : Mono (RdL R) := by
  intro w w' v as1 hb ⟨a, cap, hv, h1, h2, hc⟩
  refine ⟨a, cap, hv, h1, h2, fun j h => ?_⟩
  obtain ⟨b, off, u, ha, hlt, hcell, hu⟩ := hc j h
  exact ⟨b, off, u, ha, Nat.lt_of_lt_of_le hlt hb.size, (hb.cell (p := ⟨b, off + j, none⟩) hlt).trans hcell, hR w w' u _ hb hu⟩
theorem RdL.below {α : Type} {R : World → Value → α → Prop} (hR : Mono R) {w w' : World} {v : Value} {as1 : List α} (h : RdL R w v as1) (hb : Below w.heap.size w w') : RdL R w' v as1 := mono_rdl hR w w' v as1 hb h

theorem RdL.nil {α : Type} {R : World → Value → α → Prop} (w : World) : RdL R w (.slice none 0 0) ([] : List α) :=
  ⟨none, 0, rfl, ⟨Nat.le_refl _, fun _ => rfl⟩, Nat.zero_le _, fun j h => by simp at h⟩
/-- A slice of the call's own reads as what its cells read as. -/
theorem OwnS.rd {α : Type} {R : World → Value → α → Prop} {w : World} {base : Nat} {e : TypeId} {v : Value} {xs : List Value} {as1 : List α} (h : OwnS w base e v xs) (hl : xs.length = as1.length)
    (hR : ∀ j (h1 : j < xs.length) (h2 : j < as1.length), R w xs[j] as1[j]) : RdL R w v as1 := by
  rcases h.shape with ⟨rfl, rfl⟩ | ⟨g, cap, rfl, _, hlt, hcap, hmax, hcell, _⟩
  · have : as1 = [] := List.length_eq_zero_iff.1 (by simpa using hl.symm)
    subst this; exact RdL.nil w
  · refine ⟨some ⟨g, 0, none⟩, cap, by rw [hl], ⟨by omega, fun h => by cases h⟩, hmax, fun j hj => ?_⟩
    refine ⟨g, 0, xs[j]'(by omega), rfl, hlt, ?_, hR j (by omega) hj⟩
    rw [Nat.zero_add, hcell j (by omega), List.getElem?_eq_getElem]
theorem OwnS.rdInts {w : World} {base : Nat} {e : TypeId} {v : Value} {k : IntKind} {zs : List Int} (h : OwnS w base e v (zs.map (Value.int k))) : RdL (IntV k) w v zs :=
  h.rd (by simp) (fun j h1 h2 => by simp [IntV])

/-- What holds below a bound that is not above the heap's size. -/
theorem RdL.of_start {α : Type} {R : World → Value → α → Prop} (hR : Mono R) {w w' : World} {v : Value} {as1 : List α} (h : RdL R w v as1) (hb : Below w.heap.size w w') : RdL R w' v as1 := h.below hR hb
/-- The cells of a slice, as they are. -/
def RdV (w : World) (v : Value) (vs : List Value) : Prop :=
  ∃ a cap, v = .slice a vs.length cap ∧ (vs.length ≤ cap ∧ (a = none → cap = 0)) ∧ cap ≤ maxLen ∧ ∀ j (h : j < vs.length), ∃ b off, a = some ⟨b, off, none⟩ ∧ b < w.heap.size ∧ w.cell? ⟨b, off + j, none⟩ = some vs[j]
/-- Each value reads as its counterpart. -/
def Reads {α : Type} (R : World → Value → α → Prop) (w : World) (vs : List Value) (xs : List α) : Prop :=
  vs.length = xs.length ∧ ∀ j (h : j < vs.length) (h' : j < xs.length), R w vs[j] xs[j]
theorem Reads.nil {α : Type} {R : World → Value → α → Prop} (w : World) : Reads R w [] ([] : List α) := ⟨rfl, fun j h => by simp at h⟩
theorem Reads.append {α : Type} {R : World → Value → α → Prop} {w : World} {vs us : List Value} {xs ys : List α} (h : Reads R w vs xs) (k : Reads R w us ys) : Reads R w (vs ++ us) (xs ++ ys) := by
  obtain ⟨h1, h2⟩ := h
  obtain ⟨k1, k2⟩ := k
  refine ⟨by simp [h1, k1], fun j hj hj' => ?_⟩
  by_cases hl : j < vs.length
  · rw [List.getElem_append_left hl, List.getElem_append_left (by omega)]
    exact h2 j hl (by omega)
  · rw [List.getElem_append_right (by omega), List.getElem_append_right (by omega)]
    simp only [h1]
    simp at hj hj'
    exact k2 (j - xs.length) (by omega) (by omega)
theorem Reads.single {α : Type} {R : World → Value → α → Prop} {w : World} {u : Value} {x : α} (h : R w u x) : Reads R w [u] [x] :=
  ⟨rfl, fun j hj hj' => by
    simp at hj
    subst hj; exact h⟩
theorem Reads.snoc {α : Type} {R : World → Value → α → Prop} {w : World} {vs : List Value} {xs : List α} {u : Value} {x : α} (h : Reads R w vs xs) (hu : R w u x) : Reads R w (vs ++ [u]) (xs ++ [x]) :=
  h.append (Reads.single hu)
theorem Reads.mono {α : Type} {R : World → Value → α → Prop} (hR : Mono R) {w w' : World} {vs : List Value} {xs : List α} (h : Reads R w vs xs) (hb : Below w.heap.size w w') : Reads R w' vs xs :=
  ⟨h.1, fun j h1 h2 => hR w w' _ _ hb (h.2 j h1 h2)⟩
theorem RdL.vals {α : Type} {R : World → Value → α → Prop} {w : World} {v : Value} {xs : List α} (h : RdL R w v xs) : ∃ vs, RdV w v vs ∧ Reads R w vs xs := by
  obtain ⟨a, cap, rfl, h1, h2, h3⟩ := h
  by_cases hx : xs.length = 0
  · refine ⟨[], ⟨a, cap, by rw [hx]; rfl, ⟨Nat.zero_le _, h1.2⟩, h2, fun j hj => by simp at hj⟩, ⟨by simp [hx], fun j hj => by simp at hj⟩⟩
  · obtain ⟨b, off, u0, rfl, _⟩ := h3 0 (by omega)
    have hl : ((List.range xs.length).map fun j => (w.cell? ⟨b, off + j, none⟩).getD undef).length = xs.length := by simp
    refine ⟨(List.range xs.length).map fun j => (w.cell? ⟨b, off + j, none⟩).getD undef, ⟨some ⟨b, off, none⟩, cap, by rw [hl], ⟨by rw [hl]; exact h1.1, h1.2⟩, h2, fun j hj => ?_⟩, ⟨hl, fun j hj hj' => ?_⟩⟩
    · obtain ⟨b', off', u, he, hlt, hc, hu⟩ := h3 j (by rw [hl] at hj; exact hj)
      simp only [Option.some.injEq, Addr.mk.injEq, and_true] at he
      obtain ⟨rfl, rfl⟩ := he
      exact ⟨b, off, rfl, hlt, by simp [hc]⟩
    · obtain ⟨b', off', u, he, hlt, hc, hu⟩ := h3 j hj'
      simp only [Option.some.injEq, Addr.mk.injEq, and_true] at he
      obtain ⟨rfl, rfl⟩ := he
      simpa [hc] using hu
theorem RdV.rd {α : Type} {R : World → Value → α → Prop} {w : World} {v : Value} {vs : List Value} {xs : List α} (h : RdV w v vs) (hr : Reads R w vs xs) : RdL R w v xs := by
  obtain ⟨a, cap, rfl, h1, h2, h3⟩ := h
  have hl := hr.1
  refine ⟨a, cap, by rw [hl], ⟨by omega, h1.2⟩, h2, fun j hj => ?_⟩
  obtain ⟨b, off, ha, hlt, hc⟩ := h3 j (by omega)
  exact ⟨b, off, _, ha, hlt, hc, hr.2 j (by omega) hj⟩
theorem RdV.below {w w' : World} {v : Value} {vs : List Value} (h : RdV w v vs) (hb : Below w.heap.size w w') : RdV w' v vs := by
  obtain ⟨a, cap, rfl, h1, h2, h3⟩ := h
  refine ⟨a, cap, rfl, h1, h2, fun j hj => ?_⟩
  obtain ⟨b, off, ha, hlt, hc⟩ := h3 j hj
  exact ⟨b, off, ha, Nat.lt_of_lt_of_le hlt hb.size, (hb.cell (p := ⟨b, off + j, none⟩) hlt).trans hc⟩
theorem OwnS.rdv {w : World} {base : Nat} {e : TypeId} {v : Value} {xs : List Value} (h : OwnS w base e v xs) : RdV w v xs := by
  rcases h.shape with ⟨rfl, rfl⟩ | ⟨g, cap, rfl, _, hlt, hcap, hmax, hcell, _⟩
  · exact ⟨none, 0, rfl, ⟨Nat.le_refl _, fun _ => rfl⟩, Nat.zero_le _, fun j h => by simp at h⟩
  · exact ⟨some ⟨g, 0, none⟩, cap, rfl, ⟨hcap, fun h => by cases h⟩, hmax, fun j hj => ⟨g, 0, rfl, hlt, by rw [Nat.zero_add, hcell j hj, List.getElem?_eq_getElem]⟩⟩

section
variable {P : Program} {T E : TypeId} {z : Value} {bytes : Nat} {ops : Array Oper} {rest : List Oper} {o : Oper} {a : Act} {Q : Exit → Act → World → Prop}
/-- 'append(out, src...)', out of the call's own, src whatever reads. -/
theorem wpList_extend (K : ElemT P T E z bytes) {w : World} (hgd : o.guard = none) (s x : Operand) (ho : o.op = .call { callee := .builtin .append, args := #[s, x], argTypes := #[T, T] })
    (base : Nat) (v : Value) (xs : List Value) (src : Value) (ys : List Value) (hs : a.eval s = v) (hx : a.eval x = src) (hown : OwnS w base E v xs) (hsrc : RdV w src ys) (hone : ∀ u ∈ ys, u.oneCell' = true)
    (hlen : (xs.length + ys.length) * bytes ≤ 140737488355328) (hmax : xs.length + ys.length ≤ maxLen) (hbase : base ≤ w.heap.size)
    (h : ∀ v' w', OwnS w' base E v' (xs ++ ys) → w.grownBy w' v.ownBlock → Below base w w' → wpList P ops Q rest (a.put o.dst v') w') :
    wpList P ops Q (o :: rest) a w := by
  obtain ⟨i, hi, hz0, hz1, hz2⟩ := info_parts K.info
  obtain ⟨ad, cap, rfl, h1, h2, h3⟩ := hsrc
  have done : ∀ v' w', w'.ownsRow base E 1 v' (xs.length + ys.length) (xs ++ ys) → w.grownBy w' v.ownBlock → wpList P ops Q rest (a.put o.dst v') w' := fun v' w' hown' hg =>
    h v' w' (by simpa [OwnS] using hown') hg ((Below.refl base w).grown hg hbase (OwnS.own_ge hown))
  cases ad with
  | none =>
    have : ys = [] := by
      cases ys with
      | nil => rfl
      | cons y ys => obtain ⟨b, off, ha, _⟩ := h3 0 (by simp); cases ha
    subst this
    have hc0 := h1.2 rfl
    subst hc0
    exact wpList_append_own_none hgd s x T ho base E i 1 K.under hi v xs.length xs hs hown hx (done v w (by simpa [OwnS] using hown) (World.grownBy.refl w _))
  | some ad =>
    refine wpList_append_own w hgd s x T ho base E i z 1 bytes K.under hi hz0 hz1 hz2 (by rw [K.zone]; rfl) (by decide) v xs.length xs hs hown ad ys.length cap ys hx (by simp) ?_ hone hmax hlen hbase (fun v' w' hown' hg _ => done v' w' hown' hg)
    intro j u hj
    obtain ⟨hjl, rfl⟩ := List.getElem?_eq_some_iff.1 hj
    obtain ⟨b, off, ha, _, hc⟩ := h3 j hjl
    simp only [Option.some.injEq] at ha
    subst ha
    rw [Addr.add_lit]; exact hc
end
theorem ret_bool {a b : Bool} (h : a = b) : Ending.returned (.bool a) = .returned (.bool b) := by rw [h]
theorem ret_int {k : IntKind} {a b : Int} (h : a = b) : Ending.returned (.int k a) = .returned (.int k b) := by rw [h]
end Go.Proofs.YtomameefmobnlaaDoor
namespace Go.Proofs.YtomameefmobnlaaDoor
open Go Go.ChangeShapes Go.WideShapes Go.ChangeAt Go.RowKit Go.Deep

/-- Numbers that Go's int holds. -/
def I64 (x : Int) : Prop := -9223372036854775808 ≤ x ∧ x ≤ 9223372036854775807
/-- A one-cell value of type t reads by R. -/
def Opens {α : Type} (P : Program) (w : World) (t : TypeId) (R : World → Value → α → Prop) : Prop :=
  ∀ (H : Type) (enc : TypeId × Value → H) (n : Nat) (v : Value) (d : DataW H × List MemPlace), DataW.trod enc P w 0 (fun _ => true) true n t [v] = some d → ∃ x, R w v x
def IntB (k : IntKind) (w : World) (v : Value) (x : Int) : Prop := IntV k w v x ∧ (Lit.int k x).wf = true
theorem opens_int {P : Program} {w : World} {t : TypeId} {k : IntKind} (ht : P.underlying t = some (.int k)) : Opens P w t (IntB k) := by
  intro H enc n v d h
  obtain ⟨x, hv, _, hw⟩ := DataW.trod_int ht h
  exact ⟨x, by simpa [IntV] using hv, hw⟩
def BoolV (_ : World) (v : Value) (b : Bool) : Prop := v = .bool b
theorem mono_bool : Mono BoolV := fun _ _ _ _ _ h => h
theorem opens_bool {P : Program} {w : World} {t : TypeId} (ht : P.underlying t = some .bool) : Opens P w t BoolV := by
  intro H enc n v d h
  obtain ⟨x, hv, _⟩ := DataW.trod_bool ht h
  exact ⟨x, by simpa [BoolV] using hv⟩
def StrV (_ : World) (v : Value) (s : List UInt8) : Prop := v = .string ⟨s.toArray⟩ ∧ s.length ≤ maxLen
theorem mono_str : Mono StrV := fun _ _ _ _ _ h => h
theorem opens_str {P : Program} {w : World} {t : TypeId} (ht : P.underlying t = some .string) : Opens P w t StrV := by
  intro H enc n v d h
  obtain ⟨s, hv, _, hl⟩ := DataW.trod_string ht h
  exact ⟨s.data.toList, by simpa using hv, by simpa using hl⟩
theorem opens_slice {α : Type} {P : Program} {w : World} {t e : TypeId} {R : World → Value → α → Prop} [Inhabited α] (ht : P.underlying t = some (.slice e)) (ce : P.cellsOf e = 1) (hR : Opens P w e R) : Opens P w t (RdL R) := by
  intro H enc n v d h
  rcases open_slice1 ht ce h with ⟨h0, _⟩ | ⟨a, len, cap, m, n', V, D, Pl, hv, hb, hl, hm, hmm, rfl, hx⟩
  · simp only [List.cons.injEq, and_true] at h0
    subst h0
    exact ⟨[], RdL.nil w⟩
  · simp only [List.cons.injEq, and_true] at hv
    subst hv
    simp only [if_true] at hmm
    subst hmm
    have key : ∀ i, i < len → ∃ x, R w (V i) x := fun i hi => hR H enc n' (V i) _ (hx i (by omega)).2
    obtain ⟨X, hX⟩ := choose_lt key
    refine ⟨(List.range len).map X, some a, m, by simp, ⟨by simpa using hl, fun h => by cases h⟩, hm, fun j hj => ?_⟩
    have hjl : j < len := by simpa using hj
    have hc := (hx j (by omega)).1
    obtain ⟨b, off, spot⟩ := a
    have hspot : spot = none := by simpa [Addr.add] using World.cell?_spot (hx 0 (by omega)).1
    subst hspot
    rw [Go.WideShapes.add_plain] at hc
    refine ⟨b, off, V j, rfl, ?_, hc, by simpa using hX j hjl⟩
    rcases Nat.lt_or_ge b w.heap.size with h | h
    · exact h
    · simp [World.cell?, Array.getElem?_eq_none h] at hc
/-- An argument that is a slice. -/
theorem Opens.arg {α H : Type} {enc : TypeId × Value → H} {P : Program} {w : World} {t e : TypeId} {R : World → Value → α → Prop} {r : Reach} {b0 : Nat} {v : Value} {d : DataW H} {ps : List MemPlace} (hR : Opens P w t R)
    (ht : P.underlying t = some (.slice e)) (hval : Value.okWide P w r b0 t v) (hd : DataW.Trod enc P w 0 (fun _ => true) true t v d ps) : ∃ x, R w v x := by
  obtain ⟨a, len, cap, rfl⟩ := okWide_slice ht hval
  obtain ⟨fuel, hf⟩ := hd
  exact hR H enc fuel _ _ (by simpa [Value.cells] using hf)

theorem RdL.split {α : Type} {R : World → Value → α → Prop} {Q : α → Prop} {w : World} {v : Value} {xs : List α} (h : RdL (fun w v x => R w v x ∧ Q x) w v xs) : RdL R w v xs ∧ ∀ x ∈ xs, Q x := by
  obtain ⟨a, cap, hv, h1, h2, h3⟩ := h
  refine ⟨⟨a, cap, hv, h1, h2, fun j hj => ?_⟩, fun x hx => ?_⟩
  · obtain ⟨b, off, u, ha, hlt, hc, hu, _⟩ := h3 j hj
    exact ⟨b, off, u, ha, hlt, hc, hu⟩
  · obtain ⟨j, hj, rfl⟩ := List.mem_iff_getElem.1 hx
    obtain ⟨b, off, u, ha, hlt, hc, _, hq⟩ := h3 j hj
    exact hq
theorem RdL.imp {α : Type} {R S : World → Value → α → Prop} {w : World} {v : Value} {xs : List α} (h : RdL R w v xs) (hi : ∀ u x, R w u x → S w u x) : RdL S w v xs := by
  obtain ⟨a, cap, hv, h1, h2, h3⟩ := h
  refine ⟨a, cap, hv, h1, h2, fun j hj => ?_⟩
  obtain ⟨b, off, u, ha, hlt, hc, hu⟩ := h3 j hj
  exact ⟨b, off, u, ha, hlt, hc, hi u _ hu⟩
theorem i64_wf {x : Int} (h : (Lit.int .i64 x).wf = true) : I64 x := bounds_i64 h
theorem RdL.ints {w : World} {v : Value} {xs : List Int} (h : RdL (IntB .i64) w v xs) : RdL (IntV .i64) w v xs ∧ ∀ x ∈ xs, I64 x :=
  ⟨(RdL.split h).1, fun x hx => i64_wf ((RdL.split h).2 x hx)⟩
theorem RdL.rows {w : World} {v : Value} {xs : List (List Int)} (h : RdL (RdL (IntB .i64)) w v xs) : RdL (RdL (IntV .i64)) w v xs ∧ ∀ l ∈ xs, ∀ x ∈ l, I64 x := by
  have h2 : RdL (fun w v x => RdL (IntV .i64) w v x ∧ ∀ y ∈ x, I64 y) w v xs := h.imp fun u x hu => hu.ints
  exact h2.split
end Go.Proofs.YtomameefmobnlaaDoor
