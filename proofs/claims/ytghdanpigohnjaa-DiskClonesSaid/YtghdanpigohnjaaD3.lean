/-
  Code in the evaluator is code in the model: sequences, branches, blocks, loops; calls. No condition of its own. The evaluator is right: what it says of a call holds of the model's run. No condition of its own. The shelf's layings: slices.Sort at ints, slices.Sorted(maps.Keys(m)) at int keys, as plain text (printed by tools/lay_shelf.py). No condition of its own. slices.Sorted(maps.Keys(m)) at int keys, in the evaluator's words: a new slice of the sorted keys. No condition of its own. slices.Sorted(maps.Keys(m)) at a map of blocks. No condition of its own. maps.Clone, in the evaluator's words: a new map with the old entries. No condition of its own. The disk: what is shown otherwise of the calls that it makes; contracts of its methods. No condition of its own. The disk: check, step, Up, Len, Trip, Wear. No condition of its own. The disk: Write, Read. No condition of its own. The disk: settle. No condition of its own. The disk: New, Rot, Image. No condition of its own. The disk: Pending, Worn. No condition of its own. The disk in plain words: what its operations keep. No condition of its own. The disk: Flush, Mount. No condition of its own. The reference's disk in plain words, and its entries. No condition of its own. The reference's disk: Len, Up, is, step, Trip. No condition of its own. The reference's disk: Read, Write, Wear. No condition of its own.
-/
import Derived.Test.YtghdanpigohnjaaD2
import Derived.Shelf.SlIterI.Nil
import Derived.Shelf.SortM.Plain
import Derived.Shelf.SortM.SortNone
import Derived.Test.YtghdanpigohnjaaProg
import Derived.Test.YtghdanpigohnjaaD1
import Derived.WalkKit
import Derived.Shelf.SlMaps.Clone
namespace Go.Proofs.Ytghdanpigohnjaa
open Go Go.RowKit

/-! ### A loop, one round at a time -/
theorem exitTo_len {id : Nat} : ∀ {k k' : List Item}, exitTo id k = some k' → k'.length ≤ k.length
  | [], k', h => by simp [exitTo] at h
  | x :: k, k', h => by
    cases x <;> simp only [exitTo] at h
    case inBlock j =>
      split at h
      · simp only [Option.some.injEq] at h; subst h; simp
      · have := exitTo_len h; simp only [List.length_cons]; omega
    all_goals (have := exitTo_len h; simp only [List.length_cons]; omega)
theorem steps_tail {P : Program} {m m1 m' : Machine} (h1 : step P m = .next m1) (h : Steps P m m') (hne : m ≠ m') : Steps P m1 m' := by
  obtain ⟨n, hn⟩ := h
  cases n with
  | zero => simp only [runN, Stepped.next.injEq] at hn; exact absurd hn hne
  | succ n => simp only [runN, h1] at hn; exact ⟨n, hn⟩
theorem lone_todo {f g : Frame} {cs : List Frame} {w w' : World} (h : lone f cs w = lone g cs w') : f.todo = g.todo ∧ f.mode = g.mode := by
  simp only [lone, Machine.mk.injEq, Array.mk.injEq, List.cons.injEq, Goroutine.mk.injEq] at h
  obtain ⟨_, ⟨⟨rfl, _⟩, _⟩, _⟩ := h
  exact ⟨rfl, rfl⟩
theorem wp_loop_unroll {P : Program} {c : Code} {Q : Exit → Act → World → Prop} (hQ : ∀ e a w, Q e a w → okExit e = true) {a : Act} {w : World} (h : c.wp P (Exit.then ((Code.loop c).wp P Q) Q) a w) : (Code.loop c).wp P Q a w := by
  intro b k cs
  obtain ⟨e, a₁, w₁, hq, harr⟩ := h b (.inLoop c :: k) cs
  cases e with
  | normal =>
    obtain ⟨e₂, a₂, w₂, hq₂, harr₂⟩ := hq b k cs
    refine ⟨e₂, a₂, w₂, hq₂, .of_steps (Steps.head step_loop harr) ?_⟩
    have h1 : step P (lone (b.at a₁ (.inLoop c :: k)) cs w₁) = .next (lone (b.at a₁ (.code c :: .inLoop c :: k)) cs w₁) := step_inLoop
    have h2 : step P (lone (b.at a₁ (.code (.loop c) :: k)) cs w₁) = .next (lone (b.at a₁ (.code c :: .inLoop c :: k)) cs w₁) := step_loop
    have move : ∀ m', lone (b.at a₁ (.code (.loop c) :: k)) cs w₁ ≠ m' → Steps P (lone (b.at a₁ (.code (.loop c) :: k)) cs w₁) m' → Steps P (lone (b.at a₁ (.inLoop c :: k)) cs w₁) m' := fun m' hne hs => .head h1 (steps_tail h2 hs hne)
    cases e₂ with
    | normal =>
      refine move _ (fun heq => ?_) harr₂
      have := (lone_todo heq).1
      simp only [Frame.at] at this
      have := congrArg List.length this
      simp at this
    | exit id =>
      intro k' hk'
      refine move _ (fun heq => ?_) (harr₂ k' hk')
      have h3 := (lone_todo heq).1
      simp only [Frame.at] at h3
      have h4 := exitTo_len hk'
      rw [← h3] at h4
      simp at h4
      omega
    | ret =>
      obtain ⟨todo, hs⟩ := harr₂
      refine ⟨todo, move _ (fun heq => ?_) hs⟩
      have := (lone_todo heq).2
      simp [Frame.at] at this
    | goto l => exact absurd (hQ _ _ _ hq₂) (by simp [okExit])
    | panic c => exact absurd (hQ _ _ _ hq₂) (by simp [okExit])
    | outgrown => exact absurd (hQ _ _ _ hq₂) (by simp [okExit])
  | exit id => exact ⟨_, a₁, w₁, hq, .of_steps (.one step_loop) (.pass (x := .inLoop c) rfl (fun _ _ => .inl (by simp)) harr)⟩
  | goto l => exact absurd (hQ _ _ _ hq) (by simp [okExit])
  | ret => exact ⟨_, a₁, w₁, hq, .of_steps (.one step_loop) (.pass (x := .inLoop c) rfl (fun _ _ => .inl (by simp)) harr)⟩
  | panic ch => exact absurd (hQ _ _ _ hq) (by simp [okExit])
  | outgrown => exact absurd (hQ _ _ _ hq) (by simp [okExit])

/-! ### What is done between regions and rounds -/
section
variable {n0 lo : Nat} {S : Stay} {gh : List Value} {w : World} {a : Act} {st : St}
/-- What such a step leaves. -/
def GhostOK (n0 lo : Nat) (S : Stay) (gh : List Value) (w : World) (a : Act) (sto : Sto) (st' : St) : Prop :=
  ∃ S' gh', RS S' gh' w a st' ∧ Fr n0 lo S gh w sto S' gh' w st'.sto ∧ n0 ≤ st'.sto.length ∧ OutSc n0 st'.sto
theorem share_one (hs : SR S gh w st.sto) (hrs : RS S gh w a st) (hn : n0 ≤ st.sto.length) (hos : OutSc n0 st.sto) {i : Nat} {e : Ent} (hi : st.sto[i]? = some e) (hlo : lo ≤ i) : GhostOK n0 lo S gh w a st.sto { st with sto := st.sto.set i (shareE e) } := by
  have keepSame : st.sto.set i e = st.sto := by
    apply List.ext_getElem?
    intro k
    rcases Nat.decEq i k with h | h
    · rw [List.getElem?_set_ne h]
    · subst h; rw [List.getElem?_set_self (List.getElem?_eq_some_iff.1 hi).1, hi]
  cases e with
  | cells ds =>
    have hsE : shareE (.cells ds) = .cells ds := rfl
    exact ⟨S, gh, by rw [hsE, keepSame]; exact hrs, by simp only [hsE, keepSame]; exact Fr.refl _ _ _ _ _ _, by simpa [hsE, keepSame] using hn, by simpa [hsE, keepSame] using hos⟩
  | map k kvs =>
    have hsE : shareE (.map k kvs) = .map k kvs := rfl
    exact ⟨S, gh, by rw [hsE, keepSame]; exact hrs, by simp only [hsE, keepSame]; exact Fr.refl _ _ _ _ _ _, by simpa [hsE, keepSame] using hn, by simpa [hsE, keepSame] using hos⟩
  | arr es wr n cs =>
    obtain ⟨gv, hg, hE⟩ := hs.ent i _ hi
    obtain ⟨S', hS'⟩ : ∃ S' : Stay, S' = fun b o => S b o ∨ (blk gv = some b ∧ o < cs.length) := ⟨_, rfl⟩
    have hst : ∀ b o, S b o → S' b o ∧ w.cell? ⟨b, o, none⟩ = w.cell? ⟨b, o, none⟩ := fun b o h => ⟨by rw [hS']; exact .inl h, rfl⟩
    have hf : Fr st.sto.length lo S gh w st.sto S' (gh.set i gv) w (st.sto.set i (.arr es false n cs)) := upd_fr hi hg hlo rfl rfl rfl (Nat.le_refl _) (fun _ _ _ => rfl) hst (fun g h => .inl h) ⟨Nat.le_refl _, fun _ => rfl⟩
    have hlt : ∀ b, blk gv = some b → b < w.heap.size := fun b hb => hE.lt hb
    have hsr := upd_sr (e' := .arr es false n cs) hs hi hg hf (fun _ _ _ => rfl) (fun b o h => by
      rw [hS'] at h
      rcases h with h | ⟨h, _⟩
      · exact .inl h
      · exact .inr ⟨h, hlt b h⟩) (fun g h => .inl h) (by
      cases es with
      | none => exact hE
      | some es =>
        obtain ⟨e0, s⟩ := es
        obtain ⟨g, cap, cur, rfl, hh, h1, h2, h3, h4, h5, h6⟩ := hE
        refine ⟨g, cap, cur, rfl, hh, h1, h2, h3, h4, fun j u c hu hc => ⟨(h5 j u c hu hc).1, RepV.mono hf.stable (h5 j u c hu hc).2⟩, ?_⟩
        simp only [Bool.false_eq_true, if_false]
        intro o
        rw [hS', h4]
        constructor
        · rintro (h | ⟨_, h⟩)
          · cases wr with
            | true => simp only [if_true] at h6; exact absurd h (h6 o)
            | false => simp only [Bool.false_eq_true, if_false] at h6; exact (h6 o).1 h
          · exact h
        · exact fun h => .inr ⟨rfl, h⟩)
    refine ⟨S', gh.set i gv, ⟨hrs.size, fun t v d hv hd => RepD.mono hs hf (hrs.env t v d hv hd), hsr, hrs.defers, hrs.glob.mono hf.stable⟩, hf.weaken hn, by simpa [shareE] using hn, ?_⟩
    exact hos.setArr
theorem shareAll_ok : ∀ (l : List Nat) (st : St) (S : Stay) (gh : List Value), RS S gh w a st → n0 ≤ st.sto.length → OutSc n0 st.sto → GhostOK n0 lo S gh w a st.sto { st with sto := shareAll lo l st.sto }
  | [], st, S, gh, hrs, hn, hos => ⟨S, gh, hrs, Fr.refl _ _ _ _ _ _, hn, hos⟩
  | i :: l, st, S, gh, hrs, hn, hos => by
    unfold shareAll
    by_cases hlo : lo ≤ i
    · rw [if_pos hlo]
      cases hi : st.sto[i]? with
      | none => exact shareAll_ok l st S gh hrs hn hos
      | some e =>
        obtain ⟨S', gh', h1, h2, h3, h4⟩ := share_one hrs.sto hrs hn hos hi hlo
        obtain ⟨S2, gh2, k1, k2, k3, k4⟩ := shareAll_ok l _ S' gh' h1 h3 h4
        exact ⟨S2, gh2, k1, h2.trans k2, k3, k4⟩
    · rw [if_neg hlo]
      exact shareAll_ok l st S gh hrs hn hos
theorem RS.setEnv (hrs : RS S gh w a st) (t : Nat) (d : D) (hd : ∀ v, a.tmps.toList[t]? = some v → RepD S gh st.sto w v d) : RS S gh w a { st with env := st.env.set t d } := by
  refine ⟨by simpa using hrs.size, fun t' v e hv he => ?_, hrs.sto, hrs.defers, hrs.glob⟩
  simp only at he
  rcases Nat.decEq t t' with h | h
  · rw [List.getElem?_set_ne h] at he; exact hrs.env t' v e hv he
  · subst h
    have hlt := (List.getElem?_eq_some_iff.1 hv).1
    rw [List.getElem?_set_self (by rw [← hrs.size]; exact hlt)] at he
    cases he
    exact hd v hv
/-- A cell of a box is read otherwise; memory stays as it is. -/
theorem cell_over {i k : Nat} {ds : List D} {d : D} (hrs : RS S gh w a st) (hn : n0 ≤ st.sto.length) (hos : OutSc n0 st.sto) (hi : st.sto[i]? = some (.cells ds)) (hlo : lo ≤ i) (hsc : i < n0 → d.inside n0 = true) (hd : ∀ v, (∃ e, ds[k]? = some e ∧ RepC S gh st.sto w v e) → RepC S gh st.sto w v d) : GhostOK n0 lo S gh w a st.sto { st with sto := st.sto.set i (.cells (ds.set k d)) } := by
  obtain ⟨gv, hg, hE⟩ := hrs.sto.ent i _ hi
  have hf : Fr st.sto.length lo S gh w st.sto S (gh.set i gv) w (st.sto.set i (.cells (ds.set k d))) := upd_fr hi hg hlo rfl rfl rfl (Nat.le_refl _) (fun _ _ _ => rfl) (fun b o h => ⟨h, rfl⟩) (fun g h => .inl h) ⟨rfl, by simp⟩
  have hsr := upd_sr (e' := .cells (ds.set k d)) hrs.sto hi hg hf (fun _ _ _ => rfl) (fun b o h => .inl h) (fun g h => .inl h) (by
    obtain ⟨g, cur, ty, rfl, hh, h1, h2, h3⟩ := hE
    refine ⟨g, cur, ty, rfl, hh, by simpa using h1, h2, fun j u e hu he => ?_⟩
    rcases Nat.decEq k j with h | h
    · rw [List.getElem?_set_ne h] at he
      have := h3 j u e hu he
      exact ⟨this.1, RepC.mono hrs.sto hf this.2⟩
    · subst h
      have hlt : k < ds.length := by have := (List.getElem?_eq_some_iff.1 he).1; simpa using this
      rw [List.getElem?_set_self hlt] at he
      cases he
      have := h3 k u _ hu (List.getElem?_eq_getElem hlt)
      exact ⟨this.1, RepC.mono hrs.sto hf (hd u ⟨_, List.getElem?_eq_getElem hlt, this.2⟩)⟩)
  refine ⟨S, _, ⟨hrs.size, fun t v d hv hd => RepD.mono hrs.sto hf (hrs.env t v d hv hd), hsr, hrs.defers, hrs.glob.mono hf.stable⟩, hf.weaken hn, by simpa using hn, fun j es hj he => ?_⟩
  simp only at he
  rcases Nat.decEq i j with h | h
  · rw [List.getElem?_set_ne h] at he; exact hos j es hj he
  · subst h
    rw [List.getElem?_set_self (List.getElem?_eq_some_iff.1 hi).1] at he
    simp only [Option.some.injEq, Ent.cells.injEq] at he
    subst he
    have h0 := hos i ds hj hi
    rw [scopedL_iff] at h0 ⊢
    intro e he
    rcases List.mem_or_eq_of_mem_set he with h | rfl
    · exact h0 e h
    · exact hsc hj
/-- A nil slice that gets an entry. -/
theorem push_nil {wr : Bool} (hrs : RS S gh w a st) (hn : n0 ≤ st.sto.length) (hos : OutSc n0 st.sto) (hlo : lo ≤ st.sto.length) : ∃ gh', RS S gh' w a { st with sto := st.sto ++ [.arr none wr 0 []] } ∧ Fr st.sto.length lo S gh w st.sto S gh' w (st.sto ++ [.arr none wr 0 []]) ∧ OutSc n0 (st.sto ++ [.arr none wr 0 []]) ∧ gh'[st.sto.length]? = some (.slice none 0 0) := by
  have hf : Fr st.sto.length lo S gh w st.sto S (gh ++ [.slice none 0 0]) w (st.sto ++ [.arr none wr 0 []]) := push_fr hrs.sto hlo (Below.refl _ _) (fun _ _ h => h) (fun g h => by simp [blk] at h)
  have hsr := push_sr hrs.sto hf (Below.refl _ _) (fun b o h => .inl h) (fun g h => by simp [blk] at h) ⟨rfl, rfl, rfl⟩
  exact ⟨_, ⟨hrs.size, fun t v d hv hd => RepD.mono hrs.sto hf (hrs.env t v d hv hd), hsr, hrs.defers, hrs.glob.mono hf.stable⟩, hf, hos.push hn _, by rw [← hrs.sto.len]; simp⟩
theorem arr_nil_rep {wr : Bool} {gh' : List Value} {sto : Sto} {v : Value} (hg : gh'[sto.length]? = some (.slice none 0 0)) (hv : v = .slice none 0 0) : RepC S gh' (sto ++ [.arr none wr 0 []]) w v (.arr sto.length 0) := by
  subst hv
  refine ⟨by simp, ⟨_, _, rfl⟩, fun es wr' m cs h => ?_⟩
  simp only [List.getElem?_append_right (Nat.le_refl _), Nat.sub_self, List.getElem?_cons_zero, Option.some.injEq, Ent.arr.injEq] at h
  obtain ⟨_, _, rfl, _⟩ := h
  exact ⟨Nat.le_refl _, fun _ => hg⟩
theorem inside_agree {m : Nat} {gh2 : List Value} {sto sto2 : Sto} {d : D} {v : Value} (g1 : ∀ id, id < m → gh2[id]? = gh[id]?) (s1 : ∀ id, id < m → sto2[id]? = sto[id]?) (l1 : ∀ id, id < m → id < sto2.length) (h : RepC S gh sto w v d) (hd : d.inside m = true) : RepC S gh2 sto2 w v d := by
  cases d with
  | v x => exact h
  | agg ds => exact h
  | tupD ds => exact h
  | nilS => exact h
  | emp => exact h
  | arr id n =>
    have hid : id < m := by simpa [D.inside] using hd
    obtain ⟨h1, h2, h3⟩ := h
    exact ⟨l1 id hid, h2, fun es wr k cs hs => by rw [s1 id hid] at hs; rw [g1 id hid]; exact h3 es wr k cs hs⟩
  | aptr id n o =>
    have hid : id < m := by simpa [D.inside] using hd
    obtain ⟨h1, h2, h3⟩ := h
    refine ⟨l1 id hid, h2, fun es wr k cs hs => ?_⟩
    rw [s1 id hid] at hs
    unfold blkAt
    rw [g1 id hid]
    exact h3 es wr k cs hs
  | ptr id off =>
    have hid : id < m := by simpa [D.inside] using hd
    obtain ⟨h1, g, h2, h3⟩ := h
    exact ⟨l1 id hid, g, by rw [g1 id hid]; exact h2, h3⟩
  | vp cs o => exact h
  | nilp => exact h
  | clo f caps =>
    obtain ⟨vs, h1, h2, h3⟩ := h
    refine ⟨vs, h1, h2, fun j id hj => ?_⟩
    obtain ⟨a1, g, a2, a3⟩ := h3 j id hj
    have hid : id < m := by
      simp only [D.inside, List.all_eq_true, decide_eq_true_eq] at hd
      exact hd id (List.mem_of_getElem? hj)
    exact ⟨l1 id hid, g, by rw [g1 id hid]; exact a2, a3⟩
  | nilf => exact h
  | undef => exact h
  | dead => exact h
  | win id n o k =>
    have hid : id < m := by simpa [D.inside] using hd
    obtain ⟨h1, h2, h3⟩ := h
    refine ⟨l1 id hid, h2, fun es wr k cs hs => ?_⟩
    rw [s1 id hid] at hs
    unfold blkAt
    rw [g1 id hid]
    exact h3 es wr k cs hs
  | map id =>
    have hid : id < m := by simpa [D.inside] using hd
    obtain ⟨h1, g, h2, h3⟩ := h
    exact ⟨l1 id hid, g, by rw [g1 id hid]; exact h2, h3⟩
  | nilM => exact h
  | bwin id o n =>
    have hid : id < m := by simpa [D.inside] using hd
    obtain ⟨h1, g, c, h2, h3⟩ := h
    exact ⟨l1 id hid, g, c, by rw [g1 id hid]; exact h2, h3⟩
theorem inside_take {m : Nat} {sto : Sto} {d : D} {v : Value} (hm : m ≤ sto.length) (h : RepC S gh sto w v d) (hd : d.inside m = true) : RepC S (gh.take m) (sto.take m) w v d :=
  inside_agree (fun id h => List.getElem?_take_of_lt h) (fun id h => List.getElem?_take_of_lt h) (fun id h => by simp; omega) h hd
theorem SR.take {m : Nat} {sto : Sto} (hs : SR S gh w sto) (hm : m ≤ sto.length) (hsc : ∀ i ds, i < m → sto[i]? = some (.cells ds) → scopedL m ds = true) : SR S (gh.take m) w (sto.take m) where
  len := by simp [hs.len]
  ent := fun i e hi => by
    have him : i < m := by have := (List.getElem?_eq_some_iff.1 hi).1; simp at this; omega
    rw [List.getElem?_take_of_lt him] at hi
    obtain ⟨gv, h1, h2⟩ := hs.ent i e hi
    refine ⟨gv, by rw [List.getElem?_take_of_lt him]; exact h1, ?_⟩
    cases e with
    | cells ds =>
      obtain ⟨g, cur, ty, rfl, hh, k1, k2, k3⟩ := h2
      refine ⟨g, cur, ty, rfl, hh, k1, k2, fun k u d hu hd => ⟨(k3 k u d hu hd).1, inside_take hm (k3 k u d hu hd).2 ?_⟩⟩
      exact scopedL_iff.1 (hsc i ds him hi) d (List.mem_of_getElem? hd)
    | arr es wr n cs => cases es <;> exact h2
    | map k kvs => exact h2
  inj := fun i j g hi hj => by
    have look : ∀ i, blkAt (gh.take m) i = some g → blkAt gh i = some g := by
      intro i h
      unfold blkAt at h ⊢
      rcases Nat.lt_or_ge i m with h1 | h1
      · rw [List.getElem?_take_of_lt h1] at h; exact h
      · rw [List.getElem?_eq_none (by simp; omega)] at h; cases h
    exact hs.inj i j g (look i hi) (look j hj)
  stay := hs.stay
/-- One slice of the call's own outlives it. -/
theorem SR.moved {m id n : Nat} {es : Option (TypeId × Nat)} {wr : Bool} {cs : List V} {gv : Value} {sto : Sto} (hs : SR S gh w sto) (hm : m ≤ sto.length) (hsc : ∀ i ds, i < m → sto[i]? = some (.cells ds) → scopedL m ds = true) (hid : m ≤ id) (hes : sto[id]? = some (.arr es wr n cs)) (hg : gh[id]? = some gv) : SR S (gh.take m ++ [gv]) w (sto.take m ++ [.arr es wr n cs]) where
  len := by simp [hs.len]
  ent := fun i e hi => by
    have hl : (sto.take m).length = m := by simp; omega
    have hl2 : (gh.take m).length = m := by simp [hs.len]; omega
    rcases Nat.lt_or_ge i m with him | him
    · rw [List.getElem?_append_left (by omega), List.getElem?_take_of_lt him] at hi
      obtain ⟨gv, h1, h2⟩ := hs.ent i e hi
      refine ⟨gv, by rw [List.getElem?_append_left (by omega), List.getElem?_take_of_lt him]; exact h1, ?_⟩
      cases e with
      | cells ds =>
        obtain ⟨g, cur, ty, rfl, hh, k1, k2, k3⟩ := h2
        refine ⟨g, cur, ty, rfl, hh, k1, k2, fun k u d hu hd => ⟨(k3 k u d hu hd).1, inside_agree (m := m) (fun id h => ?_) (fun id h => ?_) (fun id h => by simp; omega) (k3 k u d hu hd).2 ?_⟩⟩
        · rw [List.getElem?_append_left (by omega), List.getElem?_take_of_lt h]
        · rw [List.getElem?_append_left (by omega), List.getElem?_take_of_lt h]
        · exact scopedL_iff.1 (hsc i ds him hi) d (List.mem_of_getElem? hd)
      | arr es wr n cs => cases es <;> exact h2
      | map k kvs => exact h2
    · rw [List.getElem?_append_right (by omega), hl] at hi
      have h0 : i - m = 0 := by
        rcases Nat.eq_zero_or_pos (i - m) with h0 | h0
        · exact h0
        · rw [List.getElem?_eq_none (by simp; omega)] at hi; cases hi
      rw [h0] at hi
      simp only [List.getElem?_cons_zero, Option.some.injEq] at hi
      subst hi
      obtain ⟨gv', h1, h2⟩ := hs.ent id _ hes
      rw [hg] at h1
      cases h1
      refine ⟨gv, by rw [List.getElem?_append_right (by omega), hl2, h0]; rfl, ?_⟩
      cases es <;> exact h2
  inj := fun i j g hi hj => by
    have hl2 : (gh.take m).length = m := by simp [hs.len]; omega
    have look : ∀ i, blkAt (gh.take m ++ [gv]) i = some g → (i < m ∧ blkAt gh i = some g) ∨ (i = m ∧ blkAt gh id = some g) := by
      intro i h
      unfold blkAt at h ⊢
      rcases Nat.lt_or_ge i m with h1 | h1
      · rw [List.getElem?_append_left (by omega), List.getElem?_take_of_lt h1] at h; exact .inl ⟨h1, h⟩
      · rw [List.getElem?_append_right (by omega), hl2] at h
        rcases Nat.eq_zero_or_pos (i - m) with h0 | h0
        · rw [h0] at h
          rw [hg]
          exact .inr ⟨by omega, h⟩
        · rw [List.getElem?_eq_none (by simp; omega)] at h; cases h
    rcases look i hi with ⟨a, b⟩ | ⟨a, b⟩ <;> rcases look j hj with ⟨c, d⟩ | ⟨c, d⟩
    · exact hs.inj i j g b d
    · have := hs.inj i id g b d; omega
    · have := hs.inj j id g d b; omega
    · omega
  stay := hs.stay
theorem moved_fr {m id : Nat} {gv : Value} {e : Ent} {sto : Sto} (hs : SR S gh w sto) (hm : n0 ≤ m) (hml : m ≤ sto.length) (hlo : lo ≤ n0) (hid : m ≤ id) (hg : gh[id]? = some gv) : Fr n0 lo S gh w sto S (gh.take m ++ [gv]) w (sto.take m ++ [e]) where
  os := rfl
  tape := rfl
  output := rfl
  size := Nat.le_refl _
  stable := fun b o h => ⟨h, rfl⟩
  block := fun _ _ _ => rfl
  low := fun i hi => by
    have hl : (sto.take m).length = m := by simp; omega
    have hl2 : (gh.take m).length = m := by simp [hs.len]; omega
    exact ⟨by rw [List.getElem?_append_left (by omega), List.getElem?_take_of_lt (by omega)], by rw [List.getElem?_append_left (by omega), List.getElem?_take_of_lt (by omega)]⟩
  new := fun i g hi hgi => by
    have hl2 : (gh.take m).length = m := by simp [hs.len]; omega
    unfold blkAt at hgi
    rcases Nat.lt_or_ge i m with h1 | h1
    · rw [List.getElem?_append_left (by omega), List.getElem?_take_of_lt h1] at hgi; exact .inl ⟨i, hi, hgi⟩
    · rw [List.getElem?_append_right (by omega), hl2] at hgi
      rcases Nat.eq_zero_or_pos (i - m) with h0 | h0
      · rw [h0] at hgi
        exact .inl ⟨id, by omega, by unfold blkAt; rw [hg]; exact hgi⟩
      · rw [List.getElem?_eq_none (by simp; omega)] at hgi; cases hgi
  keep := fun i e gv hi h1 h2 => by
    have hl : (sto.take m).length = m := by simp; omega
    have hl2 : (gh.take m).length = m := by simp [hs.len]; omega
    exact ⟨e, gv, by rw [List.getElem?_append_left (by omega), List.getElem?_take_of_lt (by omega)]; exact h1, by rw [List.getElem?_append_left (by omega), List.getElem?_take_of_lt (by omega)]; exact h2, KeepE.refl gv e⟩
theorem take_fr {m : Nat} {sto : Sto} (hm : n0 ≤ m) (hlo : lo ≤ n0) : Fr n0 lo S gh w sto S (gh.take m) w (sto.take m) where
  os := rfl
  tape := rfl
  output := rfl
  size := Nat.le_refl _
  stable := fun b o h => ⟨h, rfl⟩
  block := fun _ _ _ => rfl
  low := fun i hi => ⟨List.getElem?_take_of_lt (by omega), List.getElem?_take_of_lt (by omega)⟩
  new := fun i g hi hg => by
    unfold blkAt at hg
    rcases Nat.lt_or_ge i m with h1 | h1
    · rw [List.getElem?_take_of_lt h1] at hg; exact .inl ⟨i, hi, hg⟩
    · rw [List.getElem?_eq_none (by simp; omega)] at hg; cases hg
  keep := fun i e gv hi h1 h2 => ⟨e, gv, by rw [List.getElem?_take_of_lt (by omega)]; exact h1, by rw [List.getElem?_take_of_lt (by omega)]; exact h2, KeepE.refl gv e⟩
theorem ghost_ok {s s' : St} (hg : Ghost n0 lo s s') (hlo : lo ≤ n0) : ∀ (S : Stay) (gh : List Value), RS S gh w a s → n0 ≤ s.sto.length → OutSc n0 s.sto → GhostOK n0 lo S gh w a s.sto s' := by
  induction hg with
  | refl s => intro S gh hrs hn hos; exact ⟨S, gh, hrs, Fr.refl _ _ _ _ _ _, hn, hos⟩
  | trans _ _ ih1 ih2 =>
    intro S gh hrs hn hos
    obtain ⟨S1, g1, h1, h2, h3, h4⟩ := ih1 S gh hrs hn hos
    obtain ⟨S2, g2, k1, k2, k3, k4⟩ := ih2 S1 g1 h1 h3 h4
    exact ⟨S2, g2, k1, h2.trans k2, k3, k4⟩
  | kill s t => intro S gh hrs hn hos; exact ⟨S, gh, hrs.setEnv t .dead fun v _ => True.intro, Fr.refl _ _ _ _ _ _, hn, hos⟩
  | view s t d x h hv =>
    intro S gh hrs hn hos
    exact ⟨S, gh, hrs.setEnv t (.v x) fun v hv' => view_rep hrs.sto (hrs.env t v d hv' h) hv, Fr.refl _ _ _ _ _ _, hn, hos⟩
  | adopt s t wr h hl =>
    intro S gh hrs hn hos
    obtain ⟨gh', h1, h2, h3, h4⟩ := push_nil (wr := wr) hrs hn hos hl
    refine ⟨S, gh', h1.setEnv t (.arr s.sto.length 0) fun v hv => ?_, h2.weaken hn, by simp; omega, h3⟩
    exact arr_nil_rep (S := S) (w := w) h4 (hrs.env t v .nilS hv h)
  | reserve s hl =>
    intro S gh hrs hn hos
    obtain ⟨gh', h1, h2, h3, h4⟩ := push_nil (wr := false) hrs hn hos hl
    exact ⟨S, gh', h1, h2.weaken hn, by simp; omega, h3⟩
  | adoptC s i k wr ds h hk hi hl =>
    intro S gh hrs hn hos
    have hil : i < s.sto.length := (List.getElem?_eq_some_iff.1 h).1
    obtain ⟨gh', h1, h2, h3, h4⟩ := push_nil (lo := lo) (wr := wr) hrs hn hos (by omega)
    have hi' : (s.sto ++ [.arr none wr 0 []])[i]? = some (.cells ds) := by rw [List.getElem?_append_left hil]; exact h
    obtain ⟨S2, gh2, k1, k2, k3, k4⟩ := cell_over (k := k) (d := .arr s.sto.length 0) h1 (by simp; omega) h3 hi' hl (fun h => by omega) (fun v ⟨e, he, hr⟩ => by
      rw [hk] at he
      cases he
      exact arr_nil_rep h4 hr)
    rw [List.set_append_left _ _ hil] at k1 k2 k3 k4
    exact ⟨S2, gh2, k1, (h2.weaken hn).trans k2, k3, k4⟩
  | killC s i k ds h hi hl =>
    intro S gh hrs hn hos
    exact cell_over (k := k) (d := .dead) hrs hn hos h hl (fun _ => rfl) (fun v _ => True.intro)
  | viewC s i k ds d x h hk hv hl =>
    intro S gh hrs hn hos
    exact cell_over (k := k) (d := .v x) hrs hn hos h hl (fun _ => rfl) (fun v ⟨e, he, hr⟩ => by
      rw [hk] at he
      cases he
      exact viewC_rep hrs.sto hr hv)
  | share s l => intro S gh hrs hn hos; exact shareAll_ok l s S gh hrs hn hos
  | trunc s m hm he hs =>
    intro S gh hrs hn hos
    rcases Nat.lt_or_ge s.sto.length m with hml | hml
    · have e1 : s.sto.take m = s.sto := List.take_of_length_le (by omega)
      exact ⟨S, gh, by rw [e1]; exact hrs, by simp only [e1]; exact Fr.refl _ _ _ _ _ _, by simpa [e1] using hn, by simpa [e1] using hos⟩
    · have hsc : ∀ i ds, i < m → s.sto[i]? = some (.cells ds) → scopedL m ds = true := by
        intro i ds him hi
        rcases Nat.lt_or_ge i n0 with h | h
        · have := hos i ds h hi
          rw [scopedL_iff] at this ⊢
          intro d hd
          have h2 := this d hd
          cases d <;> simp only [D.inside, decide_eq_true_eq, List.all_eq_true] at h2 ⊢ <;> first | omega | (intro x hx; have := h2 x hx; omega) | exact h2
        · exact hs i ds him hi h
      refine ⟨S, gh.take m, ⟨hrs.size, fun t v d hv hd => ?_, hrs.sto.take hml hsc, hrs.defers, hrs.glob⟩, take_fr hm hlo, by simp; omega, fun i ds hi hd => ?_⟩
      · have hsd := scopedL_iff.1 he d (List.mem_of_getElem? hd)
        have hr := hrs.env t v d hv hd
        cases d with
        | agg ds => simp [D.inside] at hsd
        | tupD ds => simp [D.inside] at hsd
        | _ => simp only [RepD] at hr ⊢; exact inside_take hml hr hsd
      · simp only at hd
        rw [List.getElem?_take_of_lt (by omega)] at hd
        exact hos i ds hi hd
end
end Go.Proofs.Ytghdanpigohnjaa
namespace Go.Proofs.Ytghdanpigohnjaa
open Go Go.RowKit

section
variable {P : Program} {T : Tab} {n0 lo : Nat} {wt : List Tmp}
theorem postOK_ok {S : Stay} {gh : List Value} {w : World} {sto : Sto} {R : Exit → St → Prop} : ∀ e a w', PostOK n0 lo S gh w sto R e a w' → okExit e = true := fun _ _ _ h => h.1
theorem evC_sound (hT : T.OK P) (hm : P.follows .mixedOrders = true) (hlo : lo ≤ n0) : ∀ (c : Code) (R : Exit → St → Prop) (st : St) (S : Stay) (gh : List Value) (a : Act) (w : World), EvC T (CallOK P) n0 lo wt c R st → RS S gh w a st → n0 ≤ st.sto.length → OutSc n0 st.sto → c.wp P (PostOK n0 lo S gh w st.sto R) a w := by
  intro c
  induction c with
  | skip => intro R st S gh a w h hrs hn hos; exact wp_skip ⟨rfl, st, S, gh, h, hrs, Fr.refl _ _ _ _ _ _, hn, hos⟩
  | region id ops draw =>
    intro R st S gh a w h hrs hn hos
    simp only [EvC] at h
    rcases h with ⟨hd, st2, hgs, h⟩ | ⟨rfl, hd, st2, m, hgs, hmn, h⟩
    · obtain ⟨S', gh', h1, h2, h3, h4⟩ := ghost_ok hgs hlo S gh hrs hn hos
      cases draw with
      | false =>
        refine Code.wp_mono (fun e a w h => PostOK.trans h2 h) ?_
        exact wp_region_list (evOps_list hT hlo ops.toList _ S' gh' a w h3 h4 h h1 (Fr.refl _ _ _ _ _ _))
      | true => exact Code.wp_mono (fun e a w h => PostOK.trans h2 h) (evOps_draw hT hm (hd rfl) hlo h3 h4 h h1 id)
    · obtain ⟨S', gh', h1, h2, h3, h4⟩ := ghost_ok hgs hlo S gh hrs hn hos
      exact Code.wp_mono (fun e a w h => PostOK.trans h2 h) (evOpsR_draw hmn hT hm hd hlo h3 h4 h h1 id)
  | seq x y ihx ihy =>
    intro R st S gh a w h hrs hn hos
    simp only [EvC] at h
    refine wp_seq (Code.wp_mono ?_ (ihx _ st S gh a w h hrs hn hos))
    rintro e a' w' ⟨h0, st', S', gh', h1, h2, h3, h4, h5⟩
    cases e with
    | normal => exact Code.wp_mono (fun e a w h => PostOK.trans h3 h) (ihy R st' S' gh' a' w' h1 h2 h4 h5)
    | exit id => exact ⟨h0, st', S', gh', h1, h2, h3, h4, h5⟩
    | ret => exact ⟨h0, st', S', gh', h1, h2, h3, h4, h5⟩
    | goto l => cases h0
    | panic l => cases h0
    | outgrown => cases h0
  | cond c x y ihx ihy =>
    intro R st S gh a w h hrs hn hos
    simp only [EvC] at h
    split at h
    · rename_i b hb
      have hv := hrs.opd c
      rw [hb] at hv
      have hv' := RepV.bool_inv hv
      refine wp_cond (t := b) hv' ?_
      cases b with
      | true => exact ihx R st S gh a w (h.1 rfl) hrs hn hos
      | false => exact ihy R st S gh a w (h.2 rfl) hrs hn hos
    · exact h.elim
  | block id b ih =>
    intro R st S gh a w h hrs hn hos
    simp only [EvC] at h
    refine wp_block (Code.wp_mono ?_ (ih _ st S gh a w h hrs hn hos))
    rintro e a' w' ⟨h0, st', S', gh', h1, h2⟩
    cases e with
    | normal => exact ⟨rfl, st', S', gh', h1, h2⟩
    | exit id' =>
      simp only [blockP] at h1
      simp only [Exit.inBlock]
      split
      · rename_i he
        rw [if_pos he] at h1
        exact ⟨rfl, st', S', gh', h1, h2⟩
      · rename_i he
        rw [if_neg he] at h1
        exact ⟨rfl, st', S', gh', h1, h2⟩
    | ret => exact ⟨rfl, st', S', gh', h1, h2⟩
    | goto l => cases h0
    | panic l => cases h0
    | outgrown => cases h0
  | loop b ih =>
    intro R st S gh a w h hrs hn hos
    simp only [EvC] at h
    refine h (fun s => ∀ S gh a w, RS S gh w a s → n0 ≤ s.sto.length → OutSc n0 s.sto → (Code.loop b).wp P (PostOK n0 lo S gh w s.sto R) a w) ?_ S gh a w hrs hn hos
    intro s s' hg hb S gh a w hrs hn hos
    obtain ⟨S', gh', h1, h2, h3, h4⟩ := ghost_ok hg hlo S gh hrs hn hos
    refine wp_loop_unroll postOK_ok (Code.wp_mono ?_ (ih _ s' S' gh' a w hb h1 h3 h4))
    rintro e a' w' ⟨k0, st', S2, gh2, k1, k2, k3, k4, k5⟩
    cases e with
    | normal => exact Code.wp_mono (fun e a w h => PostOK.trans (h2.trans k3) h) (k1 S2 gh2 a' w' k2 k4 k5)
    | exit id => exact ⟨k0, st', S2, gh2, k1, k2, h2.trans k3, k4, k5⟩
    | ret => exact ⟨k0, st', S2, gh2, k1, k2, h2.trans k3, k4, k5⟩
    | goto l => cases k0
    | panic l => cases k0
    | outgrown => cases k0
  | exit id => intro R st S gh a w h hrs hn hos; exact wp_exit ⟨rfl, st, S, gh, h, hrs, Fr.refl _ _ _ _ _ _, hn, hos⟩
  | ret => intro R st S gh a w h hrs hn hos; exact wp_ret ⟨rfl, st, S, gh, h, hrs, Fr.refl _ _ _ _ _ _, hn, hos⟩
  | _ => intro R st S gh a w h; simp only [EvC] at h
def resRun (tmps : Array Value) : ResultVar → Sem Value
  | .tmp t => pure (tmps.getD t undef)
  | .cell c t => do loadVar t (← asAddr (tmps.getD c undef))
theorem results_eq (fn : Func) (tmps : Array Value) : results fn tmps = (do let vs ← fn.results.mapM (resRun tmps); pure (if h : vs.size = 1 then vs[0] else .tuple vs)) := by
  unfold results
  congr 2
theorem resOf_sound (hT : T.OK P) {S : Stay} {gh : List Value} {w : World} {a : Act} {st : St} (hrs : RS S gh w a st) {r : ResultVar} {x : V} (h : resOf T st r = some x) : ∃ v, (resRun a.tmps r).run P w = .ok v w ∧ RepV S w v x := by
  cases r with
  | tmp t =>
    have hr := hrs.opd (.tmp t)
    exact ⟨_, rfl, view_rep hrs.sto hr h⟩
  | cell c t =>
    simp only [resOf] at h
    split at h
    · rename_i d hd
      have hr := hrs.opd (.tmp c)
      have hc : RepC S gh st.sto w (a.eval (.tmp c)) (opd st.env (.tmp c)) := hr.toC fun ds h0 => by
        simp only [opd] at h0
        rcases h0 with h0 | h0 <;> rw [h0] at hd <;> unfold evLoad at hd <;> split at hd <;> cases hd
      obtain ⟨u, h1, h2⟩ := evLoad_sound (P := P) hT hrs.sto hc hd
      refine ⟨u, ?_, view_rep hrs.sto h2 h⟩
      have e1 : a.eval (.tmp c) = a.tmps.getD c undef := rfl
      rw [e1] at h1
      show (Sem.bind (asAddr (a.tmps.getD c undef)) fun ad => loadVar t ad).run P w = .ok u w
      rw [Sem.run_bind']
      revert h1
      generalize a.tmps.getD c undef = v
      intro h1
      cases v with
      | pointer p =>
        cases p with
        | none => simp [Instr.loadAt, Instr.sureAddr] at h1
        | some ad => simpa [Instr.loadAt, Instr.sureAddr, asAddr] using h1
      | _ => simp [Instr.loadAt, Instr.sureAddr] at h1
    · cases h
theorem resD_sound (hT : T.OK P) {S : Stay} {gh : List Value} {w : World} {a : Act} {st : St} (hrs : RS S gh w a st) {r : ResultVar} {x : D} (h : resD T st r = some x) : ∃ v, (resRun a.tmps r).run P w = .ok v w ∧ RepA S gh st.sto w v x := by
  unfold resD at h
  have key : ∀ o : Option D, (match o with | some (.tupD _) => none | x => x) = some x → o = some x ∧ ∀ ds, x ≠ .tupD ds := by
    intro o ho
    split at ho
    · cases ho
    · rename_i hne
      subst ho
      exact ⟨rfl, fun ds e => hne ds (by rw [e])⟩
  obtain ⟨h1, h2⟩ := key _ h
  cases r with
  | tmp t =>
    simp only [Option.some.injEq] at h1
    have hr := hrs.opd (.tmp t)
    refine ⟨_, rfl, ?_⟩
    rw [← h1] at h2 ⊢
    exact RepD.toA hr h2
  | cell c t =>
    replace h1 : evLoad T st.sto t ((st.env[c]?).getD .undef) = some x := h1
    have hr := hrs.opd (.tmp c)
    have hc : RepC S gh st.sto w (a.eval (.tmp c)) (opd st.env (.tmp c)) := hr.toC fun ds h0 => by
      simp only [opd] at h0
      rcases h0 with h0 | h0 <;> rw [h0] at h1 <;> unfold evLoad at h1 <;> split at h1 <;> cases h1
    obtain ⟨u, k1, k2⟩ := evLoad_sound (P := P) hT hrs.sto hc h1
    refine ⟨u, ?_, k2.toA h2⟩
    have e1 : a.eval (.tmp c) = a.tmps.getD c undef := rfl
    rw [e1] at k1
    show (Sem.bind (asAddr (a.tmps.getD c undef)) fun ad => loadVar t ad).run P w = .ok u w
    rw [Sem.run_bind']
    revert k1
    generalize a.tmps.getD c undef = v
    intro k1
    cases v with
    | pointer p =>
      cases p with
      | none => simp [Instr.loadAt, Instr.sureAddr] at k1
      | some ad => simpa [Instr.loadAt, Instr.sureAddr, asAddr] using k1
    | _ => simp [Instr.loadAt, Instr.sureAddr] at k1
theorem resDs_sound (hT : T.OK P) {S : Stay} {gh : List Value} {w : World} {a : Act} {st : St} (hrs : RS S gh w a st) : ∀ (rs : List ResultVar) (xs : List D), resDs T st rs = some xs → ∃ vs : List Value, (rs.mapM (resRun a.tmps)).run P w = .ok vs w ∧ Pw (RepA S gh st.sto w) vs xs
  | [], xs, h => by simp only [resDs, Option.some.injEq] at h; subst h; exact ⟨[], rfl, Pw.nil⟩
  | r :: rs, xs, h => by
    simp only [resDs] at h
    split at h
    · rename_i x xs' h1 h2
      simp only [Option.some.injEq] at h
      subst h
      obtain ⟨v, k1, k2⟩ := resD_sound (P := P) hT hrs h1
      obtain ⟨vs, k3, k4⟩ := resDs_sound hT hrs rs xs' h2
      refine ⟨v :: vs, ?_, Pw.cons k2 k4⟩
      rw [List.mapM_cons, Sem.run_bind, k1, Result.andThen_ok, Sem.run_bind, k3, Result.andThen_ok]
      rfl
    · cases h
theorem resT_sound (hT : T.OK P) {S : Stay} {gh : List Value} {w : World} {a : Act} {st : St} (hrs : RS S gh w a st) {fn : Func} {ds : List D} (h : resDs T st fn.results.toList = some ds) : ∃ v, (results fn a.tmps).run P w = .ok v w ∧ RepD S gh st.sto w v (tupOf ds) := by
  obtain ⟨vs, k1, k2⟩ := resDs_sound (P := P) hT hrs _ _ h
  refine ⟨if h : vs.toArray.size = 1 then vs.toArray[0] else .tuple vs.toArray, ?_, ?_⟩
  · rw [results_eq, Array.mapM_eq_mapM_toList, bind_map_left, Sem.run_bind, k1]
    rfl
  · match ds, vs, k2 with
    | [d], [v], k2 => exact (k2.2 0 v d rfl rfl).toD
    | [d], [], k2 => exact absurd k2.1 (by simp)
    | [d], v :: v2 :: l, k2 => exact absurd k2.1 (by simp)
    | [], [], k2 => exact ⟨[], rfl, k2.1, fun j u d hu hd => k2.2 j u d hu hd⟩
    | [], v :: l, k2 => exact absurd k2.1 (by simp)
    | d :: d2 :: ds, [], k2 => exact absurd k2.1 (by simp)
    | d :: d2 :: ds, [v], k2 => exact absurd k2.1 (by simp)
    | d :: d2 :: ds, v :: v2 :: l, k2 =>
      rw [dif_neg (by simp)]
      exact ⟨_, rfl, k2.1, fun j u d hu hd => k2.2 j u d hu hd⟩
theorem resL_sound (hT : T.OK P) {S : Stay} {gh : List Value} {w : World} {a : Act} {st : St} (hrs : RS S gh w a st) : ∀ (rs : List ResultVar) (xs : List V), resL T st rs = some xs → ∃ vs : List Value, (rs.mapM (resRun a.tmps)).run P w = .ok vs w ∧ Pw (RepV S w) vs xs
  | [], xs, h => by simp only [resL, Option.some.injEq] at h; subst h; exact ⟨[], rfl, Pw.nil⟩
  | r :: rs, xs, h => by
    simp only [resL] at h
    split at h
    · rename_i x xs' h1 h2
      simp only [Option.some.injEq] at h
      subst h
      obtain ⟨v, k1, k2⟩ := resOf_sound (P := P) hT hrs h1
      obtain ⟨vs, k3, k4⟩ := resL_sound hT hrs rs xs' h2
      refine ⟨v :: vs, ?_, Pw.cons k2 k4⟩
      rw [List.mapM_cons, Sem.run_bind, k1, Result.andThen_ok, Sem.run_bind, k3, Result.andThen_ok]
      rfl
    · cases h
theorem resV_sound (hT : T.OK P) {S : Stay} {gh : List Value} {w : World} {a : Act} {st : St} (hrs : RS S gh w a st) {fn : Func} {r : V} (h : resV T st fn.results.toList = some r) : ∃ v, (results fn a.tmps).run P w = .ok v w ∧ RepV S w v r := by
  unfold resV at h
  have run : ∀ vs : List Value, (fn.results.toList.mapM (resRun a.tmps)).run P w = .ok vs w → (results fn a.tmps).run P w = .ok (if h : vs.toArray.size = 1 then vs.toArray[0] else .tuple vs.toArray) w := by
    intro vs hvs
    rw [results_eq, Array.mapM_eq_mapM_toList, bind_map_left, Sem.run_bind, hvs]
    rfl
  split at h
  · rename_i x hx
    simp only [Option.some.injEq] at h
    subst h
    obtain ⟨vs, k1, k2⟩ := resL_sound (P := P) hT hrs _ _ hx
    match vs, k2.1 with
    | [v], _ => exact ⟨v, by rw [run _ k1]; rfl, k2.2 0 v x rfl rfl⟩
  · rename_i xs hne hx
    simp only [Option.some.injEq] at h
    subst h
    obtain ⟨vs, k1, k2⟩ := resL_sound (P := P) hT hrs _ _ hx
    refine ⟨.tuple vs.toArray, ?_, .tup vs xs k2.1 fun j u c hu hc => k2.2 j u c hu hc⟩
    rw [run _ k1, dif_neg]
    intro h1
    have : xs.length = 1 := by rw [← k2.1]; simpa using h1
    match xs, this with
    | [x], _ => exact hne x rfl
  · cases h
/-- THE EVALUATOR IS RIGHT. -/
theorem call_sound (hT : T.OK P) (hm : P.follows .mixedOrders = true) {B : CallP} (hB : ∀ f args sto lo r sto', B f args sto lo r sto' → CallOK P f args sto lo r sto') {f : FuncId} {args : List D} {sto : Sto} {lo : Nat} {r : D} {sto' : Sto} (h : CallEv P T B f args sto lo r sto') : CallOK P f args sto lo r sto' := by
  refine h (CallOK P) ?_ hB
  rintro f args sto lo r sto' ⟨fn, c, wt, hf, hb, hname, he⟩
  refine ⟨by simp [callable, hf, hb, hname], fun S gh w vals hlo hs hgl hv => ?_⟩
  refine calls_of_wp hf hb ?_
  have hos : OutSc sto.length sto := by
    intro i ds hi hd
    obtain ⟨gv, _, hE⟩ := hs.ent i _ hd
    obtain ⟨g, cur, ty, rfl, hh, k1, k2, k3⟩ := hE
    rw [scopedL_iff]
    intro d hd
    obtain ⟨k, hk⟩ := List.mem_iff_getElem?.1 hd
    have hlt : k < cur.toList.length := Nat.lt_of_lt_of_le (List.getElem?_eq_some_iff.1 hk).1 k1.2
    have hr := (k3 k _ d (List.getElem?_eq_getElem hlt) hk).2
    cases d with
    | arr id n => simpa [D.inside] using hr.1
    | aptr id n o => simpa [D.inside] using hr.1
    | ptr id o => simpa [D.inside] using hr.1
    | win id n o k => simpa [D.inside] using hr.1
    | bwin id o k => simpa [D.inside] using hr.1
    | map id => simpa [D.inside] using hr.1
    | clo f caps =>
      obtain ⟨vs, _, _, h3⟩ := hr
      simp only [D.inside, List.all_eq_true, decide_eq_true_eq]
      intro id hid
      obtain ⟨j, hj⟩ := List.mem_iff_getElem?.1 hid
      exact (h3 j id hj).1
    | agg ds => exact hr.elim
    | tupD ds => exact hr.elim
    | _ => rfl
  have hrs : RS S gh w { tmps := vals.toArray ++ Array.replicate (fn.ntmps - vals.toArray.size) undef, defers := [] } ⟨args ++ List.replicate (fn.ntmps - args.length) .undef, sto⟩ := by
    refine ⟨by simp [hv.1], fun t v d h1 h2 => ?_, hs, rfl, hgl⟩
    have h1' : (vals ++ List.replicate (fn.ntmps - vals.length) undef)[t]? = some v := by simpa using h1
    rcases Nat.lt_or_ge t vals.length with hlt | hge
    · rw [List.getElem?_append_left hlt] at h1'
      rw [List.getElem?_append_left (by rw [← hv.1]; exact hlt)] at h2
      exact hv.2 t v d h1' h2
    · rw [List.getElem?_append_right hge] at h1'
      rw [List.getElem?_append_right (by rw [← hv.1]; exact hge)] at h2
      have e1 := List.eq_of_mem_replicate (List.mem_of_getElem? h1')
      have e2 := List.eq_of_mem_replicate (List.mem_of_getElem? h2)
      rw [e1, e2]
      exact rfl
  refine Code.wp_mono ?_ (evC_sound hT hm hlo c _ _ S gh _ w he hrs (Nat.le_refl _) hos)
  rintro e a' w' ⟨h0, st', S', gh', ⟨h1, h2⟩, h3, h4, h5, h6⟩
  rcases h2 with ⟨sh, x, h2, rfl, rfl⟩ | ⟨t, h2, rfl, rfl⟩ | ⟨t, id, n, es, wr, cs, h2, hd, hid, hes, rfl, rfl⟩ | ⟨ds, h2, rfl, rfl⟩
  case inr.inr.inr =>
    obtain ⟨v, r1, r2⟩ := resT_sound (P := P) hT h3 h2
    have fin : ∃ v' S2 gh2, Ending.returned v = .returned v' ∧ RepD S2 gh2 st'.sto w' v' (tupOf ds) ∧ SR S2 gh2 w' st'.sto ∧ Fr sto.length lo S gh w sto S2 gh2 w' st'.sto ∧ sto.length ≤ st'.sto.length := ⟨v, S', gh', rfl, r2, h3.sto, h4, h5⟩
    rcases h1 with rfl | rfl
    · exact ⟨h3.defers, v, r1, fin⟩
    · exact ⟨h3.defers, v, r1, fin⟩
  case inr.inr.inl =>
    have hr : RepD S' gh' st'.sto w' (a'.tmps.getD t undef) ((st'.env[t]?).getD .undef) := h3.opd (.tmp t)
    rw [hd] at hr
    obtain ⟨r1, r2, r3⟩ := hr
    have hg := (r3 _ _ _ _ hes).2 rfl
    have hsc : ∀ i ds, i < sto.length → st'.sto[i]? = some (.cells ds) → scopedL sto.length ds = true := fun i ds hi hd => h6 i ds hi hd
    have hl : (st'.sto.take sto.length).length = sto.length := by simp; omega
    have hl2 : (gh'.take sto.length).length = sto.length := by simp [h3.sto.len]; omega
    have hres : fn.results = #[.tmp t] := Array.ext' (by simpa using h2)
    have hrun := results_tmp (fn := fn) hres a'.tmps P w'
    have fin : ∃ v' S2 gh2, Ending.returned (a'.tmps.getD t undef) = .returned v' ∧ RepD S2 gh2 (st'.sto.take sto.length ++ [.arr es wr n cs]) w' v' (.arr sto.length n) ∧ SR S2 gh2 w' (st'.sto.take sto.length ++ [.arr es wr n cs]) ∧ Fr sto.length lo S gh w sto S2 gh2 w' (st'.sto.take sto.length ++ [.arr es wr n cs]) ∧ sto.length ≤ (st'.sto.take sto.length ++ [Ent.arr es wr n cs]).length := by
      refine ⟨_, S', gh'.take sto.length ++ [a'.tmps.getD t undef], rfl, ⟨by simp; omega, r2, fun es' wr' m cs' hs' => ?_⟩, h3.sto.moved h5 hsc hid hes hg, h4.trans (moved_fr h3.sto (Nat.le_refl _) h5 hlo hid hg), by simp; omega⟩
      rw [List.getElem?_append_right (by omega), hl, Nat.sub_self] at hs'
      simp only [List.getElem?_cons_zero, Option.some.injEq, Ent.arr.injEq] at hs'
      obtain ⟨_, _, rfl, _⟩ := hs'
      exact ⟨Nat.le_refl _, fun _ => by rw [List.getElem?_append_right (by omega), hl2, Nat.sub_self]; rfl⟩
    rcases h1 with rfl | rfl
    · exact ⟨h3.defers, _, hrun, fin⟩
    · exact ⟨h3.defers, _, hrun, fin⟩
  case inr.inl =>
    have hr := h3.opd (.tmp t)
    have fin : ∃ v' S2 gh2, Ending.returned (a'.tmps.getD t undef) = .returned v' ∧ RepD S2 gh2 st'.sto w' v' ((st'.env[t]?).getD .undef) ∧ SR S2 gh2 w' st'.sto ∧ Fr sto.length lo S gh w sto S2 gh2 w' st'.sto ∧ sto.length ≤ st'.sto.length := ⟨_, S', gh', rfl, hr, h3.sto, h4, h5⟩
    have hres : fn.results = #[.tmp t] := Array.ext' (by simpa using h2)
    have hrun := results_tmp (fn := fn) hres a'.tmps P w'
    rcases h1 with rfl | rfl
    · exact ⟨h3.defers, _, hrun, fin⟩
    · exact ⟨h3.defers, _, hrun, fin⟩
  obtain ⟨S2, gh2, k1, k2, k3, k4⟩ := shareAll_ok (lo := sto.length) sh st' S' gh' h3 h5 h6
  obtain ⟨v, r1, r2⟩ := resV_sound (P := P) hT k1 h2
  have hsc : ∀ i ds, i < sto.length → st'.sto[i]? = some (.cells ds) → scopedL sto.length ds = true := fun i ds hi hd => h6 i ds hi hd
  have hst : SR S' (gh'.take sto.length) w' (st'.sto.take sto.length) := h3.sto.take h5 hsc
  -- the shared reading has the same older entries
  have hlow : (shareAll sto.length sh st'.sto).take sto.length = st'.sto.take sto.length := by
    apply List.ext_getElem?
    intro k
    rcases Nat.lt_or_ge k sto.length with hk | hk
    · rw [List.getElem?_take_of_lt hk, List.getElem?_take_of_lt hk]
      exact (k2.low k hk).2
    · rw [List.getElem?_eq_none (by simp; omega), List.getElem?_eq_none (by simp; omega)]
  have hst2 : SR S2 (gh2.take sto.length) w' (st'.sto.take sto.length) := by
    rw [← hlow]
    exact k1.sto.take k3 fun i ds hi hd => by
      have : st'.sto[i]? = some (.cells ds) := by rw [← (k2.low i hi).2]; exact hd
      exact hsc i ds hi this
  have hfr : Fr sto.length lo S gh w sto S2 (gh2.take sto.length) w' (st'.sto.take sto.length) := by
    have f2 : Fr sto.length lo S' gh' w' st'.sto S2 gh2 w' (shareAll sto.length sh st'.sto) := { k2 with
      block := fun b hb hn => k2.block b hb fun i hi => hn i (by omega)
      low := fun i hi => k2.low i (by omega)
      new := fun i g hi hg => by
        rcases Nat.lt_or_ge i sto.length with h | h
        · left
          refine ⟨i, hi, ?_⟩
          unfold blkAt at hg ⊢
          rw [(k2.low i h).1] at hg; exact hg
        · rcases k2.new i g h hg with ⟨j, hj, hg'⟩ | h'
          · exact .inl ⟨j, by omega, hg'⟩
          · exact .inr h' }
    have f3 : Fr sto.length lo S2 gh2 w' (shareAll sto.length sh st'.sto) S2 (gh2.take sto.length) w' ((shareAll sto.length sh st'.sto).take sto.length) := take_fr (Nat.le_refl _) hlo
    rw [hlow] at f3
    exact h4.trans (f2.trans f3)
  have fin : ∃ v' S' gh', Ending.returned v = .returned v' ∧ RepD S' gh' (st'.sto.take sto.length) w' v' (.v x) ∧ SR S' gh' w' (st'.sto.take sto.length) ∧ Fr sto.length lo S gh w sto S' gh' w' (st'.sto.take sto.length) ∧ sto.length ≤ (st'.sto.take sto.length).length := ⟨v, S2, gh2.take sto.length, rfl, r2.toD, hst2, hfr, by simp; omega⟩
  rcases h1 with rfl | rfl
  · exact ⟨h3.defers, v, r1, fin⟩
  · exact ⟨h3.defers, v, r1, fin⟩
/-- A call whose arguments are plain data: its result, and that of what was there nothing has changed. -/
theorem call_plain (hT : T.OK P) (hm : P.follows .mixedOrders = true) {B : CallP} (hB : ∀ f args sto lo r sto', B f args sto lo r sto' → CallOK P f args sto lo r sto') {f : FuncId} {xs : List V} {r : V} (h : CallEv P T B f (xs.map .v) [] 0 (.v r) []) {w : World} {vals : List Value} (hgl : GlobOK (fun b _ => b < w.heap.size) w) (hv : Pw (RepV (fun b _ => b < w.heap.size) w) vals xs) : Calls P f vals.toArray w fun e w' => ∃ v S', e = .returned v ∧ RepV S' w' v r ∧ Below w.heap.size w w' := by
  obtain ⟨_, hc⟩ := call_sound hT hm hB h
  have hs : SR (fun b _ => b < w.heap.size) [] w [] := ⟨rfl, fun i e h => by simp at h, fun i j g h => by simp [blkAt] at h, fun b o h => h⟩
  refine (hc (fun b _ => b < w.heap.size) [] w vals (Nat.le_refl _) hs hgl ⟨by simp [hv.1], fun j u d hu hd => ?_⟩).mono ?_
  · rw [List.getElem?_map] at hd
    cases hx : xs[j]? with
    | none => rw [hx] at hd; cases hd
    | some x =>
      rw [hx] at hd
      simp only [Option.map_some, Option.some.injEq] at hd
      subst hd
      exact (hv.2 j u x hu hx).toD
  · rintro e w' ⟨v, S', gh', rfl, h1, _, h3, _⟩
    exact ⟨v, S', rfl, h1, h3.os, h3.tape, h3.output, h3.size, fun k hk => h3.block k hk fun i _ hg => by simp [blkAt] at hg⟩
end
end Go.Proofs.Ytghdanpigohnjaa
namespace Go.Proofs.Ytghdanpigohnjaa
open Go Go.RowKit Go.Shelf
set_option maxRecDepth 100000
def renM : Go.Shelf.Ren := ⟨fun | 5 => 58 | 7 => 63 | 8 => 64 | 10 => 65 | 11 => 66 | 12 => 67 | 13 => 68 | 14 => 69 | 15 => 70 | 16 => 71 | 17 => 72 | 18 => 73 | 19 => 74 | 20 => 75 | 30 => 76 | 31 => 77 | 32 => 78 | 33 => 79 | 34 => 80 | 35 => 81 | 40 => 82 | n => n, fun | 0 => 0 | 3 => 3 | 4 => 4 | 5 => 5 | 9 => 9 | 22 => 31 | 23 => 31 | 25 => 3 | 32 => 90 | 35 => 92 | 36 => 93 | 41 => 98 | 44 => 101 | 46 => 103 | 53 => 104 | 57 => 108 | 63 => 110 | 64 => 111 | n => n, fun n => n⟩
theorem laysSort : SlLaysM.n5 Try.prog renM := {
  mixed := by kernel_rfl
  f5 := ⟨Try.f58.name, by kernel_rfl, Try.func58.trans (congrArg some (by kernel_rfl))⟩
  f7 := ⟨Try.f63.name, by kernel_rfl, Try.func63.trans (congrArg some (by kernel_rfl))⟩
  f8 := Try.func64.trans (congrArg some (by kernel_rfl))
  f10 := ⟨Try.f65.name, by kernel_rfl, Try.func65.trans (congrArg some (by kernel_rfl))⟩
  f11 := ⟨Try.f66.name, by kernel_rfl, Try.func66.trans (congrArg some (by kernel_rfl))⟩
  f12 := ⟨Try.f67.name, by kernel_rfl, Try.func67.trans (congrArg some (by kernel_rfl))⟩
  f13 := ⟨Try.f68.name, by kernel_rfl, Try.func68.trans (congrArg some (by kernel_rfl))⟩
  f14 := ⟨Try.f69.name, by kernel_rfl, Try.func69.trans (congrArg some (by kernel_rfl))⟩
  f15 := ⟨Try.f70.name, by kernel_rfl, Try.func70.trans (congrArg some (by kernel_rfl))⟩
  f16 := ⟨Try.f71.name, by kernel_rfl, Try.func71.trans (congrArg some (by kernel_rfl))⟩
  f17 := ⟨Try.f72.name, by kernel_rfl, Try.func72.trans (congrArg some (by kernel_rfl))⟩
  f18 := ⟨Try.f73.name, by kernel_rfl, Try.func73.trans (congrArg some (by kernel_rfl))⟩
  f19 := Try.func74.trans (congrArg some (by kernel_rfl))
  f20 := Try.func75.trans (congrArg some (by kernel_rfl))
  f30 := ⟨Try.f76.name, by kernel_rfl, Try.func76.trans (congrArg some (by kernel_rfl))⟩
  f31 := Try.func77.trans (congrArg some (by kernel_rfl))
  f32 := Try.func78.trans (congrArg some (by kernel_rfl))
  f33 := ⟨Try.f79.name, by kernel_rfl, Try.func79.trans (congrArg some (by kernel_rfl))⟩
  f34 := ⟨Try.f80.name, by kernel_rfl, Try.func80.trans (congrArg some (by kernel_rfl))⟩
  f35 := ⟨Try.f81.name, by kernel_rfl, Try.func81.trans (congrArg some (by kernel_rfl))⟩
  f40 := ⟨Try.f82.name, by kernel_rfl, Try.func82.trans (congrArg some (by kernel_rfl))⟩
  t0 := Try.underlying0
  a0 := Try.isAgg0
  z0 := Try.sizeOf0
  v0 := Try.zeroValue0
  t3 := Try.underlying3
  a3 := Try.isAgg3
  z3 := Try.sizeOf3
  v3 := Try.zeroValue3
  t4 := Try.underlying4
  a4 := Try.isAgg4
  z4 := Try.sizeOf4
  v4 := Try.zeroValue4
  t5 := Try.underlying5
  a5 := Try.isAgg5
  z5 := Try.sizeOf5
  v5 := Try.zeroValue5
  t9 := Try.underlying9
  a9 := Try.isAgg9
  z9 := Try.sizeOf9
  v9 := Try.zeroValue9
  t22 := Try.underlying31
  a22 := Try.isAgg31
  z22 := Try.sizeOf31
  v22 := Try.zeroValue31
  t23 := Try.underlying31
  a23 := Try.isAgg31
  z23 := Try.sizeOf31
  v23 := Try.zeroValue31
  t25 := Try.underlying3
  a25 := Try.isAgg3
  z25 := Try.sizeOf3
  v25 := Try.zeroValue3
  t32 := Try.underlying90
  a32 := Try.isAgg90
  z32 := Try.sizeOf90
  v32 := Try.zeroValue90
  t35 := Try.underlying92
  a35 := Try.isAgg92
  z35 := Try.sizeOf92
  v35 := Try.zeroValue92
  t36 := Try.underlying93
  a36 := Try.isAgg93
  z36 := Try.sizeOf93
  v36 := Try.zeroValue93
  t41 := Try.underlying98
  a41 := Try.isAgg98
  z41 := Try.sizeOf98
  v41 := Try.zeroValue98
  t44 := Try.underlying101
  a44 := Try.isAgg101
  z44 := Try.sizeOf101
  v44 := Try.zeroValue101
  t46 := Try.underlying103
  a46 := Try.isAgg103
  z46 := Try.sizeOf103
  v46 := Try.zeroValue103
  t53 := Try.underlying104
  a53 := Try.isAgg104
  z53 := Try.sizeOf104
  v53 := Try.zeroValue104
  t57 := Try.underlying108
  a57 := Try.isAgg108
  z57 := Try.sizeOf108
  v57 := Try.zeroValue108
  t63 := Try.underlying110
  a63 := Try.isAgg110
  z63 := Try.sizeOf110
  v63 := Try.zeroValue110
  t64 := Try.underlying111
  a64 := Try.isAgg111
  z64 := Try.sizeOf111
  v64 := Try.zeroValue111 }
def renZ : Go.Shelf.Ren := ⟨fun | 6 => 47 | 7 => 49 | 8 => 57 | 9 => 58 | 10 => 60 | 11 => 62 | n => n, fun | 0 => 0 | 3 => 4 | 4 => 4 | 23 => 69 | 24 => 31 | 26 => 3 | 27 => 77 | 28 => 78 | 33 => 85 | n => n, fun n => n⟩
theorem laysSorted : SlLaysZI.n6 Try.prog renZ := {
  mixed := by kernel_rfl
  f6 := ⟨Try.f47.name, by kernel_rfl, Try.func47.trans (congrArg some (by kernel_rfl))⟩
  f8 := ⟨Try.f57.name, by kernel_rfl, Try.func57.trans (congrArg some (by kernel_rfl))⟩
  f11 := ⟨Try.f62.name, by kernel_rfl, Try.func62.trans (congrArg some (by kernel_rfl))⟩
  t0 := Try.underlying0
  a0 := Try.isAgg0
  z0 := Try.sizeOf0
  v0 := Try.zeroValue0
  t24 := Try.underlying31
  a24 := Try.isAgg31
  z24 := Try.sizeOf31
  v24 := Try.zeroValue31
  t26 := Try.underlying3
  a26 := Try.isAgg3
  z26 := Try.sizeOf3
  v26 := Try.zeroValue3
  t28 := Try.underlying78
  a28 := Try.isAgg78
  z28 := Try.sizeOf78
  v28 := Try.zeroValue78
  i26 := by kernel_rfl }
theorem laysKeys : SlLaysZI.n7 Try.prog renZ := {
  mixed := by kernel_rfl
  f7 := ⟨Try.f49.name, by kernel_rfl, Try.func49.trans (congrArg some (by kernel_rfl))⟩
  f10 := ⟨Try.f60.name, by kernel_rfl, Try.func60.trans (congrArg some (by kernel_rfl))⟩
  t0 := Try.underlying0
  a0 := Try.isAgg0
  z0 := Try.sizeOf0
  v0 := Try.zeroValue0
  t4 := Try.underlying4
  a4 := Try.isAgg4
  z4 := Try.sizeOf4
  v4 := Try.zeroValue4
  t23 := Try.underlying69
  a23 := Try.isAgg69
  z23 := Try.sizeOf69
  v23 := Try.zeroValue69
  t26 := Try.underlying3
  a26 := Try.isAgg3
  z26 := Try.sizeOf3
  v26 := Try.zeroValue3
  t27 := Try.underlying77
  a27 := Try.isAgg77
  z27 := Try.sizeOf77
  v27 := Try.zeroValue77
  t28 := Try.underlying78
  a28 := Try.isAgg78
  z28 := Try.sizeOf78
  v28 := Try.zeroValue78
  t33 := Try.underlying85
  a33 := Try.isAgg85
  z33 := Try.sizeOf85
  v33 := Try.zeroValue85 }
end Go.Proofs.Ytghdanpigohnjaa
namespace Go.Proofs.Ytghdanpigohnjaa
open Go Go.RowKit Go.Shelf Go.Maps
open Go.WideElems (Fit rd rg pl rd_val rg_of)
open Go.WideShapes (sorted_perm)
set_option linter.unusedSimpArgs false
set_option linter.unusedVariables false
set_option maxRecDepth 100000
/-- A slice of the call's own, wherever it lies. -/
theorem arr_new {S : Stay} {gh : List Value} {sto : Sto} {w w' : World} {lo g s n cap : Nat} {cur : Array Value} {e : TypeId} {cs : List V} (hlo : lo ≤ sto.length) (hs : SR S gh w sto) (hb : Below w.heap.size w w') (hg0 : w.heap.size ≤ g) (hg : w'.heap[g]? = some (.cells cur e (0, 0))) (hn : n ≤ cap) (hc : cap ≤ maxLen) (hsz : cur.size = cap * s) (hl : cs.length = n * s)
    (hr : ∀ (j : Nat) (u : Value) (c : V), cur.toList[j]? = some u → cs[j]? = some c → u.oneCell' = true ∧ RepV S w u c) : ∃ gh', RepD S gh' (sto ++ [.arr (some (e, s)) true n cs]) w' (.slice (some ⟨g, 0, none⟩) n cap) (.arr sto.length n) ∧ SR S gh' w' (sto ++ [.arr (some (e, s)) true n cs]) ∧ Fr sto.length lo S gh w sto S gh' w' (sto ++ [.arr (some (e, s)) true n cs]) := by
  have hnew : ∀ b, blk (.slice (some ⟨g, 0, none⟩) n cap) = some b → w.heap.size ≤ b := by
    intro b hb
    simp only [blk, Option.some.injEq] at hb
    omega
  have hf : Fr sto.length lo S gh w sto S (gh ++ [.slice (some ⟨g, 0, none⟩) n cap]) w' (sto ++ [.arr (some (e, s)) true n cs]) := push_fr hs hlo hb (fun _ _ h => h) hnew
  refine ⟨_, ⟨by simp, ⟨_, _, rfl⟩, fun es' wr' m cs' h => ?_⟩, push_sr hs hf hb (fun b o h => .inl h) hnew ⟨g, cap, cur, rfl, hg, hn, hc, hsz, hl, fun j u c hu hcj => ⟨(hr j u c hu hcj).1, RepV.mono hf.stable (hr j u c hu hcj).2⟩, ?_⟩, hf⟩
  · simp only [List.getElem?_append_right (Nat.le_refl _), Nat.sub_self, List.getElem?_cons_zero, Option.some.injEq, Ent.arr.injEq] at h
    obtain ⟨_, _, rfl, _⟩ := h
    refine ⟨Nat.le_refl _, fun _ => ?_⟩
    rw [← hs.len]
    simp
  · simp only [if_true]
    intro o ho
    have := hs.stay _ _ ho; omega
theorem arr_new0 {S : Stay} {gh : List Value} {sto : Sto} {w w' : World} {lo : Nat} (hlo : lo ≤ sto.length) (hs : SR S gh w sto) (hb : Below w.heap.size w w') : ∃ gh', RepD S gh' (sto ++ [.arr none true 0 []]) w' (.slice none 0 0) (.arr sto.length 0) ∧ SR S gh' w' (sto ++ [.arr none true 0 []]) ∧ Fr sto.length lo S gh w sto S gh' w' (sto ++ [.arr none true 0 []]) := by
  have hnew : ∀ b, blk (.slice none 0 0) = some b → w.heap.size ≤ b := by
    intro b hb
    simp [blk] at hb
  have hf : Fr sto.length lo S gh w sto S (gh ++ [.slice none 0 0]) w' (sto ++ [.arr none true 0 []]) := push_fr hs hlo hb (fun _ _ h => h) hnew
  refine ⟨_, ⟨by simp, ⟨_, _, rfl⟩, fun es' wr' m cs' h => ?_⟩, push_sr hs hf hb (fun b o h => .inl h) hnew ⟨rfl, rfl, rfl⟩, hf⟩
  simp only [List.getElem?_append_right (Nat.le_refl _), Nat.sub_self, List.getElem?_cons_zero, Option.some.injEq, Ent.arr.injEq] at h
  obtain ⟨_, _, rfl, _⟩ := h
  refine ⟨Nat.le_refl _, fun _ => ?_⟩
  rw [← hs.len]
  simp
abbrev anyR : Value → Option (DataW Unit × List MemPlace) := fun _ => some (.nil, [])
theorem sortsIn (m : Nat) : AnyZI.SortsIn Try.prog renZ Fence.wide m :=
  ⟨fun blk off cap ss W hH hblk hsz => callsIn_wide.2 (AnyM.slices_Sort_int laysSort blk off cap ss W hH hblk hsz),
   fun p cap W => callsIn_wide.2 (AnyM.slices_Sort_int_none laysSort p cap W)⟩
/-- The keys of a map, sorted. -/
def keysS (kvs : List (Int × V)) : List Int := (kvs.map (·.1)).mergeSort leI
theorem keysS_length (kvs : List (Int × V)) : (keysS kvs).length = kvs.length := by simp [keysS, List.length_mergeSort]
/-- What is shown of slices.Sorted(maps.Keys(m)). -/
def sortB : CallP := fun f args sto _ r sto' => f = 47 ∧ ∃ (bid mid : Nat) (kvs : List (Int × V)), args = [.clo 60 [bid]] ∧ sto[bid]? = some (.cells [.map mid]) ∧ sto[mid]? = some (.map .i64 kvs) ∧ kvs.length ≤ 1000000 ∧ (∀ kv ∈ kvs, Big kv.1) ∧ r = .arr sto.length kvs.length ∧ sto' = sto ++ [.arr (if kvs.length = 0 then none else some (3, 1)) true kvs.length ((keysS kvs).map VI)]
theorem keyOf_big {n : Int} (h : Big n) : keyOf Try.prog 3 (.int .i64 n) = some (.int .i64 n) := by
  have hw : (Lit.int .i64 n).wf = true := by
    obtain ⟨h1, h2⟩ := h
    have e1 : IntKind.i64.min = -9223372036854775808 := by decide
    have e2 : IntKind.i64.max = 9223372036854775807 := by decide
    simp only [Lit.wf, e1, e2, Bool.and_eq_true, decide_eq_true_eq]
    omega
  simp [keyOf, Try.underlying3, mapKey, hw]
theorem sortB_ok : ∀ f args sto lo r sto', sortB f args sto lo r sto' → CallOK Try.prog f args sto lo r sto' := by
  rintro f args sto lo r sto' ⟨rfl, bid, mid, kvs, rfl, hbid, hmid, hn, hbig, rfl, rfl⟩
  refine ⟨by kernel_rfl, fun S gh w vals hlo hs hgl hv => ?_⟩
  obtain ⟨v0, rfl⟩ : ∃ v0, vals = [v0] := by
    have := hv.1
    match vals, this with
    | [v], _ => exact ⟨v, rfl⟩
  obtain ⟨vs, rfl, hvl, hvc⟩ : RepC S gh sto w v0 (.clo 60 [bid]) := hv.2 0 v0 _ rfl rfl
  obtain ⟨_, g, hg, hv0⟩ := hvc 0 bid rfl
  obtain rfl : vs = [.pointer (some ⟨g, 0, none⟩)] := by
    match vs, hvl with
    | [v], _ => simp only [List.getElem?_cons_zero, Option.some.injEq] at hv0; rw [hv0]
  obtain ⟨gv, hgv, hE⟩ := hs.ent bid _ hbid
  rw [hg] at hgv
  cases hgv
  obtain ⟨g', cur, ty, h0, hh, h1, h2, h3⟩ := hE
  cases h0
  obtain ⟨u, hu⟩ : ∃ u, cur.toList[0]? = some u := ⟨_, List.getElem?_eq_getElem (Nat.lt_of_lt_of_le (by simp) h1.2)⟩
  obtain ⟨_, g2, hg2, rfl⟩ : RepC S gh sto w u (.map mid) := (h3 0 u _ hu rfl).2
  have hcell : w.cell? ⟨g, 0, none⟩ = some (.map (some g2)) := by rw [cell_heap hh]; exact hu
  have hgl2 : g < w.heap.size := (Array.getElem?_eq_some_iff.1 hh).1
  obtain ⟨gv, hgv, hE⟩ := hs.ent mid _ hmid
  rw [hg2] at hgv
  cases hgv
  obtain ⟨g', es, clock, h0, hh2, k1, hst, k2, k3⟩ := hE
  cases h0
  have hsz : es.size = kvs.length := by rw [← Array.length_toList]; exact k2
  have hent : ∀ (j : Nat) (x : MapEntry), es.toList[j]? = some x → ∃ kv, kvs[j]? = some kv ∧ x.key = .int .i64 kv.1 ∧ rd Try.prog 3 anyR x = some (.int .i64 kv.1, .nil) := by
    intro j x hx
    have hj := (List.getElem?_eq_some_iff.1 hx).1
    have hkv : kvs[j]? = some kvs[j] := List.getElem?_eq_getElem (by omega)
    have hk := (k3 j x _ hx hkv).1
    refine ⟨_, hkv, hk, ?_⟩
    unfold rd
    rw [hk, keyOf_big (hbig _ (List.getElem_mem _))]
    rfl
  obtain ⟨D0, hD0⟩ : ∃ D0 : DataW Unit, D0 = .map ((es.toList.map (rg Try.prog 3 anyR)).foldr DataW.insert []) := ⟨_, rfl⟩
  have hown : w.ownsMap Try.prog 3 anyR g2 es.size D0 := ⟨es, clock, hh2, ⟨by rw [hsz]; unfold maxLen; omega, hst, fun x hx => by
    obtain ⟨j, hj⟩ := List.getElem?_of_mem hx
    obtain ⟨kv, _, _, h⟩ := hent j x hj
    exact ⟨_, h⟩⟩, Nat.le_refl _, hD0⟩
  have hperm : (intKeys D0).Perm (kvs.map (·.1)) := by
    rw [hD0]
    have hp := (sorted_perm (es.toList.map (rg Try.prog 3 anyR))).map (fun p => _root_.Go.intOf p.1)
    refine hp.trans (List.Perm.of_eq ?_)
    apply List.ext_getElem?
    intro j
    rw [List.getElem?_map, List.getElem?_map, List.getElem?_map]
    cases hx : es.toList[j]? with
    | none => rw [List.getElem?_eq_none (by rw [List.getElem?_eq_none_iff] at hx; omega)]; rfl
    | some x =>
      obtain ⟨kv, h4, _, h5⟩ := hent j x hx
      rw [h4]
      simp only [Option.map_some, rg_of h5, _root_.Go.intOf]
  have hsize : Maps.size D0 = kvs.length := by
    rw [hD0, size_eq, length_sorted, List.length_map, k2]
  have hseq := AnyZI.keys_gives (ρ := renZ) { laysKeys with } Fence.wide 2 trivial rfl (by omega) g g2 es.size D0 w hgl2 hcell hown
  have cS := AnyZI.sorted_in laysSorted Fence.wide 5 trivial trivial trivial trivial rfl (by omega) (sortsIn _) (enters_of Try.func58 (by kernel_rfl) rfl) 60 #[.pointer (some ⟨g, 0, none⟩)] trivial (enters_of Try.func60 (by kernel_rfl) rfl) _ _ (by rw [hsize]; unfold maxLen; omega) (by rw [hsize]; omega) w hseq
  refine (callsIn_wide.1 cS).mono ?_
  rintro e w' ⟨v, ss, rfl, hS, hrow, hnil, hb⟩
  have hkeys : ss.mergeSort (fun x y => decide (x ≤ y)) = keysS kvs := mergeSort_of_perm_i (hS.trans hperm)
  have hlen : ss.length = kvs.length := by
    have := (hS.trans hperm).length_eq
    simpa using this
  rw [hkeys, hlen] at hrow
  rcases hrow.2 with ⟨rfl, hz⟩ | ⟨gb, cp, cr, rfl, hbase, hgb, r1, r2, r3, r4⟩
  · have hk0 : kvs = [] := List.eq_nil_of_length_eq_zero hz
    subst hk0
    obtain ⟨gh', a1, a2, a3⟩ := arr_new0 hlo hs hb
    refine ⟨_, S, gh', rfl, ?_, ?_, ?_, by simp⟩ <;> simpa [keysS] using (by assumption)
  · have hne : kvs.length ≠ 0 := by
      intro h0
      have : ss = [] := List.eq_nil_of_length_eq_zero (by omega)
      have := hnil.2 this
      cases this
    rw [if_neg hne]
    obtain ⟨gh', a1, a2, a3⟩ := arr_new (e := 3) (s := 1) (cs := (keysS kvs).map VI) hlo hs hb hbase hgb r1 r2 r3 (by rw [List.length_map, keysS_length]; omega) (fun j u c hu hc => by
      have hj := (List.getElem?_eq_some_iff.1 hc).1
      rw [List.length_map, keysS_length] at hj
      have e1 : (cr.toList.take (kvs.length * 1))[j]? = some u := by rw [List.getElem?_take_of_lt (by omega)]; exact hu
      rw [r4, List.getElem?_map] at e1
      rw [List.getElem?_map] at hc
      cases hx : (keysS kvs)[j]? with
      | none => rw [hx] at hc; cases hc
      | some x =>
        rw [hx] at e1 hc
        cases e1; cases hc
        exact ⟨rfl, .int _ _⟩)
    exact ⟨_, S, gh', rfl, a1, a2, a3, by simp⟩
end Go.Proofs.Ytghdanpigohnjaa
namespace Go.Proofs.Ytghdanpigohnjaa
open Go Go.RowKit Go.Shelf Go.Maps
open Go.WideElems (Fit rd rg pl rd_val rg_of)
open Go.WideShapes (sorted_perm)
set_option linter.unusedSimpArgs false
set_option linter.unusedVariables false
set_option maxRecDepth 100000
def renB : Go.Shelf.Ren := ⟨fun | 6 => 47 | 7 => 48 | 8 => 57 | 9 => 58 | 10 => 59 | 11 => 62 | n => n, fun | 0 => 0 | 3 => 74 | 4 => 4 | 23 => 68 | 24 => 31 | 26 => 3 | 27 => 77 | 28 => 78 | 33 => 85 | n => n, fun n => n⟩
theorem laysKeysB : SlLaysZI.n7 Try.prog renB := {
  mixed := by kernel_rfl
  f7 := ⟨Try.f48.name, by kernel_rfl, Try.func48.trans (congrArg some (by kernel_rfl))⟩
  f10 := ⟨Try.f59.name, by kernel_rfl, Try.func59.trans (congrArg some (by kernel_rfl))⟩
  t0 := Try.underlying0
  a0 := Try.isAgg0
  z0 := Try.sizeOf0
  v0 := Try.zeroValue0
  t4 := Try.underlying4
  a4 := Try.isAgg4
  z4 := Try.sizeOf4
  v4 := Try.zeroValue4
  t23 := Try.underlying68
  a23 := Try.isAgg68
  z23 := Try.sizeOf68
  v23 := Try.zeroValue68
  t26 := Try.underlying3
  a26 := Try.isAgg3
  z26 := Try.sizeOf3
  v26 := Try.zeroValue3
  t27 := Try.underlying77
  a27 := Try.isAgg77
  z27 := Try.sizeOf77
  v27 := Try.zeroValue77
  t28 := Try.underlying78
  a28 := Try.isAgg78
  z28 := Try.sizeOf78
  v28 := Try.zeroValue78
  t33 := Try.underlying85
  a33 := Try.isAgg85
  z33 := Try.sizeOf85
  v33 := Try.zeroValue85 }
/-- What is shown of slices.Sorted(maps.Keys(m)). -/
def sortK : CallP := fun f args sto _ r sto' => f = 47 ∧ ∃ (bid mid : Nat) (kvs : List (Int × V)), args = [.clo 59 [bid]] ∧ sto[bid]? = some (.cells [.map mid]) ∧ sto[mid]? = some (.map .i64 kvs) ∧ kvs.length ≤ 1000000 ∧ (∀ kv ∈ kvs, Big kv.1) ∧ r = .arr sto.length kvs.length ∧ sto' = sto ++ [.arr (if kvs.length = 0 then none else some (3, 1)) true kvs.length ((keysS kvs).map VI)]
theorem sortK_ok : ∀ f args sto lo r sto', sortK f args sto lo r sto' → CallOK Try.prog f args sto lo r sto' := by
  rintro f args sto lo r sto' ⟨rfl, bid, mid, kvs, rfl, hbid, hmid, hn, hbig, rfl, rfl⟩
  refine ⟨by kernel_rfl, fun S gh w vals hlo hs hgl hv => ?_⟩
  obtain ⟨v0, rfl⟩ : ∃ v0, vals = [v0] := by
    have := hv.1
    match vals, this with
    | [v], _ => exact ⟨v, rfl⟩
  obtain ⟨vs, rfl, hvl, hvc⟩ : RepC S gh sto w v0 (.clo 59 [bid]) := hv.2 0 v0 _ rfl rfl
  obtain ⟨_, g, hg, hv0⟩ := hvc 0 bid rfl
  obtain rfl : vs = [.pointer (some ⟨g, 0, none⟩)] := by
    match vs, hvl with
    | [v], _ => simp only [List.getElem?_cons_zero, Option.some.injEq] at hv0; rw [hv0]
  obtain ⟨gv, hgv, hE⟩ := hs.ent bid _ hbid
  rw [hg] at hgv
  cases hgv
  obtain ⟨g', cur, ty, h0, hh, h1, h2, h3⟩ := hE
  cases h0
  obtain ⟨u, hu⟩ : ∃ u, cur.toList[0]? = some u := ⟨_, List.getElem?_eq_getElem (Nat.lt_of_lt_of_le (by simp) h1.2)⟩
  obtain ⟨_, g2, hg2, rfl⟩ : RepC S gh sto w u (.map mid) := (h3 0 u _ hu rfl).2
  have hcell : w.cell? ⟨g, 0, none⟩ = some (.map (some g2)) := by rw [cell_heap hh]; exact hu
  have hgl2 : g < w.heap.size := (Array.getElem?_eq_some_iff.1 hh).1
  obtain ⟨gv, hgv, hE⟩ := hs.ent mid _ hmid
  rw [hg2] at hgv
  cases hgv
  obtain ⟨g', es, clock, h0, hh2, k1, hst, k2, k3⟩ := hE
  cases h0
  have hsz : es.size = kvs.length := by rw [← Array.length_toList]; exact k2
  have hent : ∀ (j : Nat) (x : MapEntry), es.toList[j]? = some x → ∃ kv, kvs[j]? = some kv ∧ x.key = .int .i64 kv.1 ∧ rd Try.prog 3 anyR x = some (.int .i64 kv.1, .nil) := by
    intro j x hx
    have hj := (List.getElem?_eq_some_iff.1 hx).1
    have hkv : kvs[j]? = some kvs[j] := List.getElem?_eq_getElem (by omega)
    have hk := (k3 j x _ hx hkv).1
    refine ⟨_, hkv, hk, ?_⟩
    unfold rd
    rw [hk, keyOf_big (hbig _ (List.getElem_mem _))]
    rfl
  obtain ⟨D0, hD0⟩ : ∃ D0 : DataW Unit, D0 = .map ((es.toList.map (rg Try.prog 3 anyR)).foldr DataW.insert []) := ⟨_, rfl⟩
  have hown : w.ownsMap Try.prog 3 anyR g2 es.size D0 := ⟨es, clock, hh2, ⟨by rw [hsz]; unfold maxLen; omega, hst, fun x hx => by
    obtain ⟨j, hj⟩ := List.getElem?_of_mem hx
    obtain ⟨kv, _, _, h⟩ := hent j x hj
    exact ⟨_, h⟩⟩, Nat.le_refl _, hD0⟩
  have hperm : (intKeys D0).Perm (kvs.map (·.1)) := by
    rw [hD0]
    have hp := (sorted_perm (es.toList.map (rg Try.prog 3 anyR))).map (fun p => _root_.Go.intOf p.1)
    refine hp.trans (List.Perm.of_eq ?_)
    apply List.ext_getElem?
    intro j
    rw [List.getElem?_map, List.getElem?_map, List.getElem?_map]
    cases hx : es.toList[j]? with
    | none => rw [List.getElem?_eq_none (by rw [List.getElem?_eq_none_iff] at hx; omega)]; rfl
    | some x =>
      obtain ⟨kv, h4, _, h5⟩ := hent j x hx
      rw [h4]
      simp only [Option.map_some, rg_of h5, _root_.Go.intOf]
  have hsize : Maps.size D0 = kvs.length := by
    rw [hD0, size_eq, length_sorted, List.length_map, k2]
  have hseq := AnyZI.keys_gives (ρ := renB) { laysKeysB with } Fence.wide 2 trivial rfl (by omega) g g2 es.size D0 w hgl2 hcell hown
  have cS := AnyZI.sorted_in laysSorted Fence.wide 5 trivial trivial trivial trivial rfl (by omega) (sortsIn _) (enters_of Try.func58 (by kernel_rfl) rfl) 59 #[.pointer (some ⟨g, 0, none⟩)] trivial (enters_of Try.func59 (by kernel_rfl) rfl) _ _ (by rw [hsize]; unfold maxLen; omega) (by rw [hsize]; omega) w hseq
  refine (callsIn_wide.1 cS).mono ?_
  rintro e w' ⟨v, ss, rfl, hS, hrow, hnil, hb⟩
  have hkeys : ss.mergeSort (fun x y => decide (x ≤ y)) = keysS kvs := mergeSort_of_perm_i (hS.trans hperm)
  have hlen : ss.length = kvs.length := by
    have := (hS.trans hperm).length_eq
    simpa using this
  rw [hkeys, hlen] at hrow
  rcases hrow.2 with ⟨rfl, hz⟩ | ⟨gb, cp, cr, rfl, hbase, hgb, r1, r2, r3, r4⟩
  · have hk0 : kvs = [] := List.eq_nil_of_length_eq_zero hz
    subst hk0
    obtain ⟨gh', a1, a2, a3⟩ := arr_new0 hlo hs hb
    refine ⟨_, S, gh', rfl, ?_, ?_, ?_, by simp⟩ <;> simpa [keysS] using (by assumption)
  · have hne : kvs.length ≠ 0 := by
      intro h0
      have : ss = [] := List.eq_nil_of_length_eq_zero (by omega)
      have := hnil.2 this
      cases this
    rw [if_neg hne]
    obtain ⟨gh', a1, a2, a3⟩ := arr_new (e := 3) (s := 1) (cs := (keysS kvs).map VI) hlo hs hb hbase hgb r1 r2 r3 (by rw [List.length_map, keysS_length]; omega) (fun j u c hu hc => by
      have hj := (List.getElem?_eq_some_iff.1 hc).1
      rw [List.length_map, keysS_length] at hj
      have e1 : (cr.toList.take (kvs.length * 1))[j]? = some u := by rw [List.getElem?_take_of_lt (by omega)]; exact hu
      rw [r4, List.getElem?_map] at e1
      rw [List.getElem?_map] at hc
      cases hx : (keysS kvs)[j]? with
      | none => rw [hx] at hc; cases hc
      | some x =>
        rw [hx] at e1 hc
        cases e1; cases hc
        exact ⟨rfl, .int _ _⟩)
    exact ⟨_, S, gh', rfl, a1, a2, a3, by simp⟩
end Go.Proofs.Ytghdanpigohnjaa
namespace Go.Proofs.Ytghdanpigohnjaa
open Go Go.RowKit Go.Shelf Go.Maps
set_option linter.unusedSimpArgs false
set_option linter.unusedVariables false
set_option maxRecDepth 100000
def renCB : Go.Shelf.Ren := ⟨fun | 5 => 52 | 7 => 61 | n => n, fun | 3 => 74 | 4 => 4 | 20 => 20 | 23 => 68 | 25 => 3 | n => n, fun n => n⟩
theorem laysCloneB : SlLaysW.n5 Try.prog renCB := {
  mixed := by kernel_rfl
  f5 := ⟨Try.f52.name, by kernel_rfl, Try.func52.trans (congrArg some (by kernel_rfl))⟩
  f7 := Try.func61.trans (congrArg some (by kernel_rfl))
  t4 := Try.underlying4
  a4 := Try.isAgg4
  z4 := Try.sizeOf4
  v4 := Try.zeroValue4
  t20 := Try.underlying20
  a20 := Try.isAgg20
  z20 := Try.sizeOf20
  v20 := Try.zeroValue20
  t23 := Try.underlying68
  a23 := Try.isAgg68
  z23 := Try.sizeOf68
  v23 := Try.zeroValue68 }
def renC1 : Go.Shelf.Ren := ⟨fun | 5 => 53 | 7 => 61 | n => n, fun | 3 => 4 | 4 => 4 | 20 => 20 | 23 => 69 | 25 => 3 | n => n, fun n => n⟩
theorem laysClone1 : SlLaysW.n5 Try.prog renC1 := {
  mixed := by kernel_rfl
  f5 := ⟨Try.f53.name, by kernel_rfl, Try.func53.trans (congrArg some (by kernel_rfl))⟩
  f7 := Try.func61.trans (congrArg some (by kernel_rfl))
  t4 := Try.underlying4
  a4 := Try.isAgg4
  z4 := Try.sizeOf4
  v4 := Try.zeroValue4
  t20 := Try.underlying20
  a20 := Try.isAgg20
  z20 := Try.sizeOf20
  v20 := Try.zeroValue20
  t23 := Try.underlying69
  a23 := Try.isAgg69
  z23 := Try.sizeOf69
  v23 := Try.zeroValue69 }

/-- What is shown of maps.Clone. -/
def mcloneB : CallP := fun f args sto _ r sto' => (f = 52 ∨ f = 53) ∧ ∃ (mid : Nat) (k : IntKind) (kvs : List (Int × V)), args = [.map mid] ∧ sto[mid]? = some (.map k kvs) ∧ r = .map sto.length ∧ sto' = sto ++ [.map k kvs]
theorem mcloneB_ok : ∀ f args sto lo r sto', mcloneB f args sto lo r sto' → CallOK Try.prog f args sto lo r sto' := by
  rintro f args sto lo r sto' ⟨hf, mid, k, kvs, rfl, hmid, rfl, rfl⟩
  refine ⟨by rcases hf with rfl | rfl <;> kernel_rfl, fun S gh w vals hlo hs hgl hv => ?_⟩
  obtain ⟨v0, rfl⟩ : ∃ v0, vals = [v0] := by
    have := hv.1
    match vals, this with
    | [v], _ => exact ⟨v, rfl⟩
  have hx : RepC S gh sto w v0 (.map mid) := hv.2 0 v0 _ rfl rfl
  obtain ⟨_, g, hg, rfl⟩ := hx
  obtain ⟨gv, hgv, hE⟩ := hs.ent mid _ hmid
  rw [hg] at hgv
  cases hgv
  obtain ⟨g', es, clock, h1, h2, h3, hsp, h4, h5⟩ := hE
  cases h1
  have key : Calls Try.prog f #[.map (some g)] w fun e w' => e = .returned (.map (some w.heap.size)) ∧ w' = w.alloc (.map es clock) := by
    rcases hf with rfl | rfl
    · exact AnyW.maps_Clone (ρ := renCB) laysCloneB g es clock w h2
    · exact AnyW.maps_Clone (ρ := renC1) laysClone1 g es clock w h2
  refine key.mono ?_
  rintro e w' ⟨rfl, rfl⟩
  have hb := below_new w (.map es clock)
  have hnew : ∀ g, blk (.map (some w.heap.size)) = some g → w.heap.size ≤ g := by
    intro g hg
    simp only [blk, Option.some.injEq] at hg
    omega
  have hf : Fr sto.length lo S gh w sto S (gh ++ [.map (some w.heap.size)]) (w.alloc (.map es clock)) (sto ++ [.map k kvs]) := push_fr hs hlo hb (fun _ _ h => h) hnew
  refine ⟨_, S, _, rfl, ⟨by simp, w.heap.size, ?_, rfl⟩, push_sr hs hf hb (fun b o h => .inl h) hnew ⟨w.heap.size, es, clock, rfl, heap_alloc_new w _, fun o ho => ?_, hsp, h4, fun j e kv he hk => ⟨(h5 j e kv he hk).1, RepV.mono hf.stable (h5 j e kv he hk).2⟩⟩, hf, by simp⟩
  · rw [← hs.len]; simp
  · have := hs.stay _ _ ho; omega
end Go.Proofs.Ytghdanpigohnjaa
namespace Go.Proofs.Ytghdanpigohnjaa
open Go Go.RowKit
def dB : CallP := fun f args sto lo r sto' => sortB f args sto lo r sto' ∨ sortK f args sto lo r sto' ∨ mcloneB f args sto lo r sto'
theorem dB_ok : ∀ f args sto lo r sto', dB f args sto lo r sto' → CallOK Try.prog f args sto lo r sto' := by
  rintro f args sto lo r sto' (h | h | h)
  · exact sortB_ok _ _ _ _ _ _ h
  · exact sortK_ok _ _ _ _ _ _ h
  · exact mcloneB_ok _ _ _ _ _ _ h
theorem dB_call {f : FuncId} {args : List D} {sto sto' : Sto} {lo : Nat} {r : D} (h : dB f args sto lo r sto') : CallEv Try.prog tab dB f args sto lo r sto' := fun _ _ hb => hb _ _ _ _ _ _ h
abbrev CD (f : FuncId) (args : List D) (sto : Sto) (lo : Nat) (r : D) (sto' : Sto) : Prop := CallEv Try.prog tab dB f args sto lo r sto'
/-- A call that reads a disk. -/
def DiskR (f : FuncId) (args : List D) (k : Nat) (K : DK) (r : D) : Prop := ∀ sto lo, k + 3 < sto.length → lo ≤ sto.length → CD f args (putD sto k K) lo r (putD sto k K)
/-- A call that turns a disk. -/
def DiskW (f : FuncId) (args : List D) (k : Nat) (K : DK) (r : D) (E : DK) : Prop := ∀ sto lo, k + 3 < sto.length → lo ≤ k → CD f args (putD sto k K) lo r (putD sto k E)
theorem DiskR.app {f : FuncId} {args : List D} {k : Nat} {K : DK} {r : D} (h : DiskR f args k K r) {sto l : Sto} {lo : Nat} (hk : k + 3 < sto.length) (hlo : lo ≤ (sto ++ l).length) : CD f args (putD sto k K ++ l) lo r (putD sto k K ++ l) := by
  have := h (sto ++ l) lo (by simp; omega) hlo
  rwa [putD_app hk] at this
theorem DiskW.app {f : FuncId} {args : List D} {k : Nat} {K E : DK} {r : D} (h : DiskW f args k K r E) {sto l : Sto} {lo : Nat} (hk : k + 3 < sto.length) (hlo : lo ≤ k) : CD f args (putD sto k K ++ l) lo r (putD sto k E ++ l) := by
  have := h (sto ++ l) lo (by simp; omega) hlo
  rwa [putD_app hk, putD_app hk] at this
theorem ho_putDa {n0 lo k : Nat} {sto l : Sto} {K E : DK} (hn : n0 ≤ sto.length) (hk : k + 3 < n0 ∨ n0 ≤ k) : ∀ i ds, lo ≤ i → i < n0 → (putD sto k E ++ l)[i]? = some (.cells ds) → (putD sto k K ++ l)[i]? = some (.cells ds) ∨ scopedL n0 ds = true := by
  intro i ds h1 h2 h3
  rw [List.getElem?_append_left (by rw [putD_len]; omega)] at h3 ⊢
  rcases hk with hk | hk
  · have := ho_putD (lo := lo) (sto := putD sto k K) (E := E) hk i ds h1 h2 (by rw [putD_put (by omega)]; exact h3)
    exact this
  · rw [putD_ne (by omega)] at h3 ⊢; exact .inl h3
theorem ho_putD0 {n0 lo k : Nat} {sto : Sto} {K E : DK} (hn : n0 ≤ sto.length) (hk : k + 3 < n0 ∨ n0 ≤ k) : ∀ i ds, lo ≤ i → i < n0 → (putD sto k E)[i]? = some (.cells ds) → (putD sto k K)[i]? = some (.cells ds) ∨ scopedL n0 ds = true := by
  have := ho_putDa (l := []) (K := K) (E := E) (lo := lo) hn hk
  simpa using this
end Go.Proofs.Ytghdanpigohnjaa
namespace Go.Proofs.Ytghdanpigohnjaa
open Go Go.RowKit

attribute [local irreducible] EvOps EvC
attribute [local go_sem] List.getElem?_toArray List.flatten_cons List.flatten_nil List.contains_nil List.append_nil List.nil_append List.length_set Bool.and_self implies_true eq_self Nat.zero_mul Nat.add_zero Nat.zero_add Nat.sub_zero List.take_zero List.drop_zero List.drop_replicate Nat.sub_self List.replicate_zero List.map_nil List.map_append List.length_replicate
attribute [local go_sem] bytesV_bs strV_u8s bs_size u8s_len bs_extract bs_append bs_beq bs_nil bs_nil2
attribute [local go_sem] putD_len putD_b putD_p putD_w putD_d putD_app putD_put putD_get0 putD_get putD_set0 putD_set putD_take putD_takeN putD_setd putD_setw putD_setp getLD setLD
set_option linter.unusedSimpArgs false
set_option linter.unusedVariables false
set_option maxRecDepth 100000
set_option maxHeartbeats 4000000
attribute [local go_sem] take_u8 take_u8v drop_u8v len_u8v viewL_mv eqVs_u8s zsV_Z64 Z64_len Nat.min_self Nat.min_eq_right

def checkS (D : DK) (i : Int) : Int := if D.off then 18 else if i < 0 ∨ i ≥ D.bl.length then 1 else 0
theorem check_ev (D : DK) (hD : D.ok) (i : Int) (k : Nat) : DiskR 45 [.ptr (k + 3) 0, .v (VI i)] k D (.v (VI (checkS D i))) := by
  obtain ⟨b, p, w, off, lf⟩ := D
  obtain ⟨-, -, -, -, -, hn, hn0, -⟩ := hD
  simp only at hn hn0
  intro sto lo hlt hlo; refine CallEv.intro ⟨_, _, [], Try.func45, rfl, by decide, ?_⟩; simp only [go_sem, Try.ntmps45]
  cases off with
  | true =>
    (try refine go ⟨?_⟩)
    refine ⟨by first | exact .inr rfl | exact .inl rfl, .inl ⟨[], _, (by dsimp only [Try.f45]; exact sv), ?_, ?_⟩⟩; all_goals (first | rfl | (simp (disch := omega) only [putD_setd, putD_setw, putD_setp, putD_takeN, putD_take]; done) | (simp (disch := omega) only [putD_setd, putD_setw, putD_setp, putD_takeN, putD_take]; rfl) | skip)
  | false =>
    by_cases h1 : i < 0
    · (try refine go ⟨?_⟩)
      refine ⟨by first | exact .inr rfl | exact .inl rfl, .inl ⟨[], _, (by dsimp only [Try.f45]; exact sv), ?_, ?_⟩⟩; all_goals (first | rfl | (simp (disch := omega) only [putD_setd, putD_setw, putD_setp, putD_takeN, putD_take]; done) | (simp (disch := omega) only [putD_setd, putD_setw, putD_setp, putD_takeN, putD_take]; rfl) | skip)
      simp [checkS, h1]
    · by_cases h2 : i ≥ b.length
      · (try refine go ⟨?_⟩)
        refine ⟨by first | exact .inr rfl | exact .inl rfl, .inl ⟨[], _, (by dsimp only [Try.f45]; exact sv), ?_, ?_⟩⟩; all_goals (first | rfl | (simp (disch := omega) only [putD_setd, putD_setw, putD_setp, putD_takeN, putD_take]; done) | (simp (disch := omega) only [putD_setd, putD_setw, putD_setp, putD_takeN, putD_take]; rfl) | skip)
        simp [checkS, h2]
      · (try refine go ⟨?_⟩)
        refine ⟨by first | exact .inr rfl | exact .inl rfl, .inl ⟨[], _, (by dsimp only [Try.f45]; exact sv), ?_, ?_⟩⟩; all_goals (first | rfl | (simp (disch := omega) only [putD_setd, putD_setw, putD_setp, putD_takeN, putD_take]; done) | (simp (disch := omega) only [putD_setd, putD_setw, putD_setp, putD_takeN, putD_take]; rfl) | skip)
        simp [checkS, h1, h2]
def stepS (D : DK) : DK × Int := if D.lf = 0 then ({ D with off := true }, 18) else if D.lf > 0 then ({ D with lf := D.lf - 1 }, 0) else (D, 0)
theorem step_ev (D : DK) (hD : D.ok) (k : Nat) : DiskW 46 [.ptr (k + 3) 0] k D (.v (VI (stepS D).2)) (stepS D).1 := by
  obtain ⟨b, p, w, off, lf⟩ := D
  obtain ⟨-, -, -, -, -, hn, hn0, hl1, hl2⟩ := hD
  simp only at hn hn0 hl1 hl2
  intro sto lo hlt hlo; refine CallEv.intro ⟨_, _, [], Try.func46, rfl, by decide, ?_⟩; simp only [go_sem, Try.ntmps46]
  by_cases h1 : lf = 0
  · rw [show stepS ⟨b, p, w, off, lf⟩ = (⟨b, p, w, true, lf⟩, 18) by simp [stepS, h1]]
    (try refine go ⟨?_⟩)
    refine ⟨by first | exact .inr rfl | exact .inl rfl, .inl ⟨[], _, (by dsimp only [Try.f46]; exact sv), ?_, ?_⟩⟩; all_goals (first | rfl | (simp (disch := omega) only [putD_setd, putD_setw, putD_setp, putD_takeN, putD_take]; done) | (simp (disch := omega) only [putD_setd, putD_setw, putD_setp, putD_takeN, putD_take]; rfl) | skip)
  · by_cases h2 : lf > 0
    · rw [show stepS ⟨b, p, w, off, lf⟩ = (⟨b, p, w, off, lf - 1⟩, 0) by simp [stepS, h1, h2]]
      (try refine go ⟨?_⟩)
      refine ⟨by first | exact .inr rfl | exact .inl rfl, .inl ⟨[], _, (by dsimp only [Try.f46]; exact sv), ?_, ?_⟩⟩; all_goals (first | rfl | (simp (disch := omega) only [putD_setd, putD_setw, putD_setp, putD_takeN, putD_take]; done) | (simp (disch := omega) only [putD_setd, putD_setw, putD_setp, putD_takeN, putD_take]; rfl) | skip)
    · rw [show stepS ⟨b, p, w, off, lf⟩ = (⟨b, p, w, off, lf⟩, 0) by simp [stepS, h1, h2]]
      (try refine go ⟨?_⟩)
      refine ⟨by first | exact .inr rfl | exact .inl rfl, .inl ⟨[], _, (by dsimp only [Try.f46]; exact sv), ?_, ?_⟩⟩; all_goals (first | rfl | (simp (disch := omega) only [putD_setd, putD_setw, putD_setp, putD_takeN, putD_take]; done) | (simp (disch := omega) only [putD_setd, putD_setw, putD_setp, putD_takeN, putD_take]; rfl) | skip)
theorem up_ev (D : DK) (k : Nat) : DiskR 24 [.ptr (k + 3) 0] k D (.v (.bool (!D.off))) := by
  intro sto lo hlt hlo; refine CallEv.intro ⟨_, _, [], Try.func24, rfl, by decide, ?_⟩; simp only [go_sem, Try.ntmps24]
  (try refine go ⟨?_⟩)
  refine ⟨by first | exact .inr rfl | exact .inl rfl, .inl ⟨[], _, (by dsimp only [Try.f24]; exact sv), ?_, ?_⟩⟩; all_goals (first | rfl | (simp (disch := omega) only [putD_setd, putD_setw, putD_setp, putD_takeN, putD_take]; done) | (simp (disch := omega) only [putD_setd, putD_setw, putD_setp, putD_takeN, putD_take]; rfl) | skip)
theorem len_ev (D : DK) (k : Nat) : DiskR 29 [.ptr (k + 3) 0] k D (.v (VI D.bl.length)) := by
  intro sto lo hlt hlo; refine CallEv.intro ⟨_, _, [], Try.func29, rfl, by decide, ?_⟩; simp only [go_sem, Try.ntmps29]
  (try refine go ⟨?_⟩)
  refine ⟨by first | exact .inr rfl | exact .inl rfl, .inl ⟨[], _, (by dsimp only [Try.f29]; exact sv), ?_, ?_⟩⟩; all_goals (first | rfl | (simp (disch := omega) only [putD_setd, putD_setw, putD_setp, putD_takeN, putD_take]; done) | (simp (disch := omega) only [putD_setd, putD_setw, putD_setp, putD_takeN, putD_take]; rfl) | skip)
theorem trip_ev (D : DK) (n : Int) (k : Nat) : DiskW 28 [.ptr (k + 3) 0, .v (VI n)] k D (.v (.tup [])) { D with lf := n } := by
  obtain ⟨b, p, w, off, lf⟩ := D
  intro sto lo hlt hlo; refine CallEv.intro ⟨_, _, [], Try.func28, rfl, by decide, ?_⟩; simp only [go_sem, Try.ntmps28]
  (try refine go ⟨?_⟩)
  refine ⟨by first | exact .inr rfl | exact .inl rfl, .inl ⟨[], _, (by dsimp only [Try.f28]; exact sv), ?_, ?_⟩⟩; all_goals (first | rfl | (simp (disch := omega) only [putD_setd, putD_setw, putD_setp, putD_takeN, putD_take]; done) | (simp (disch := omega) only [putD_setd, putD_setw, putD_setp, putD_takeN, putD_take]; rfl) | skip)
def addK (l : List Int) (k : Int) : List Int := if k ∈ l then l else l ++ [k]
theorem mput_kvW : ∀ (l : List Int) (k : Int), mput (kvW l) k (.bool true) = kvW (addK l k)
  | [], k => rfl
  | a :: l, k => by
    have ih := mput_kvW l k
    simp only [kvW, List.map_cons, mput] at ih ⊢
    by_cases h : k = a
    · subst h; simp [addK]
    · rw [if_neg h, ih]
      by_cases h2 : k ∈ l
      · simp [addK, h2]
      · simp [addK, h, h2]
attribute [local go_sem] mput_kvW
def wearS (D : DK) (i : Int) : DK × Int := if i < 0 ∨ i ≥ D.bl.length then (D, 1) else ({ D with wn := addK D.wn i }, 0)
theorem wear_ev (D : DK) (hD : D.ok) (i : Int) (k : Nat) : DiskW 19 [.ptr (k + 3) 0, .v (VI i)] k D (.v (VI (wearS D i).2)) (wearS D i).1 := by
  obtain ⟨b, p, w, off, lf⟩ := D
  obtain ⟨-, -, -, -, -, hn, hn0, hl1, hl2⟩ := hD
  simp only at hn hn0 hl1 hl2
  intro sto lo hlt hlo; refine CallEv.intro ⟨_, _, [], Try.func19, rfl, by decide, ?_⟩; simp only [go_sem, Try.ntmps19]
  by_cases h1 : i < 0
  · rw [show wearS ⟨b, p, w, off, lf⟩ i = (⟨b, p, w, off, lf⟩, 1) by simp [wearS, h1]]
    (try refine go ⟨?_⟩)
    refine ⟨by first | exact .inr rfl | exact .inl rfl, .inl ⟨[], _, (by dsimp only [Try.f19]; exact sv), ?_, ?_⟩⟩; all_goals (first | rfl | (simp (disch := omega) only [putD_setd, putD_setw, putD_setp, putD_takeN, putD_take]; done) | (simp (disch := omega) only [putD_setd, putD_setw, putD_setp, putD_takeN, putD_take]; rfl) | skip)
  · by_cases h2 : i ≥ b.length
    · rw [show wearS ⟨b, p, w, off, lf⟩ i = (⟨b, p, w, off, lf⟩, 1) by simp [wearS, h2]]
      (try refine go ⟨?_⟩)
      refine ⟨by first | exact .inr rfl | exact .inl rfl, .inl ⟨[], _, (by dsimp only [Try.f19]; exact sv), ?_, ?_⟩⟩; all_goals (first | rfl | (simp (disch := omega) only [putD_setd, putD_setw, putD_setp, putD_takeN, putD_take]; done) | (simp (disch := omega) only [putD_setd, putD_setw, putD_setp, putD_takeN, putD_take]; rfl) | skip)
    · rw [show wearS ⟨b, p, w, off, lf⟩ i = (⟨b, p, addK w i, off, lf⟩, 0) by simp [wearS, h1, h2]]
      (try refine go ⟨?_⟩)
      refine ⟨by first | exact .inr rfl | exact .inl rfl, .inl ⟨[], _, (by dsimp only [Try.f19]; exact sv), ?_, ?_⟩⟩; all_goals (first | rfl | (simp (disch := omega) only [putD_setd, putD_setw, putD_setp, putD_takeN, putD_take]; done) | (simp (disch := omega) only [putD_setd, putD_setw, putD_setp, putD_takeN, putD_take]; rfl) | skip)
end Go.Proofs.Ytghdanpigohnjaa
namespace Go.Proofs.Ytghdanpigohnjaa
open Go Go.RowKit

attribute [local irreducible] EvOps EvC
attribute [local go_sem] List.getElem?_toArray List.flatten_cons List.flatten_nil List.contains_nil List.append_nil List.nil_append List.length_set Bool.and_self implies_true eq_self Nat.zero_mul Nat.add_zero Nat.zero_add Nat.sub_zero List.take_zero List.drop_zero List.drop_replicate Nat.sub_self List.replicate_zero List.map_nil List.map_append List.length_replicate
attribute [local go_sem] bytesV_bs strV_u8s bs_size u8s_len bs_extract bs_append bs_beq bs_nil bs_nil2
attribute [local go_sem] putD_len putD_b putD_p putD_w putD_d putD_app putD_put putD_get0 putD_get putD_set0 putD_set putD_take putD_takeN putD_setd putD_setw putD_setp getLD setLD
set_option linter.unusedSimpArgs false
set_option linter.unusedVariables false
set_option maxRecDepth 100000
set_option maxHeartbeats 4000000
attribute [local go_sem] take_u8 take_u8v drop_u8v len_u8v viewL_mv eqVs_u8s zsV_Z64 Z64_len Nat.min_self Nat.min_eq_right

theorem dkgo {p q : Prop} (k : Later q) (h : Later q → p := by (intro k; (first | with_reducible (first | refine c_seq ?_ | refine c_block ?_ | refine c_region ?_ | refine c_skip ?_ | refine c_exit ?_ | refine c_ret ?_ | refine then_normal ?_ | refine then_exit ?_ | refine then_ret ?_ | refine block_normal ?_ | refine block_here ?_ | refine block_ret ?_ | refine block_far (by decide) ?_ | refine ops_nil ?_ | refine c_cond_t rfl ?_ | refine c_cond_f rfl ?_) | ((with_reducible apply ops_pure); rfl; (simp (disch := (first | omega | assumption | ((repeat' with_reducible apply And.intro) <;> first | omega | assumption | rfl | (apply Or.inl; rfl) | (apply Or.inr; first | rfl | trivial | fail) | fail) | fail)) only [go_sem, if_pos, if_neg, wrapI, wrapU, decide_eq_true, decide_eq_false, beqT, beqF, bneT, bneF, hm, hm2, hm3] <;> rfl); simp only [go_sem]) | ((with_reducible apply ops_pureF); rfl; (intro _; simp (disch := (first | omega | assumption | ((repeat' with_reducible apply And.intro) <;> first | omega | assumption | rfl | (apply Or.inl; rfl) | (apply Or.inr; first | rfl | trivial | fail) | fail) | fail)) only [go_sem, if_pos, if_neg, wrapI, wrapU, decide_eq_true, decide_eq_false, beqT, beqF, bneT, bneF, hm, hm2, hm3] <;> rfl); simp only [go_sem]) | ((with_reducible apply ops_pureD); kernel_rfl; rfl; (simp (disch := (first | omega | assumption | ((repeat' with_reducible apply And.intro) <;> first | omega | assumption | rfl | (apply Or.inl; rfl) | (apply Or.inr; first | rfl | trivial | fail) | fail) | fail)) only [go_sem, if_pos, if_neg, wrapI, wrapU, decide_eq_true, decide_eq_false, beqT, beqF, bneT, bneF, hm, hm2, hm3] <;> rfl); simp only [go_sem]) | ((with_reducible apply ops_skip); rfl; simp only [go_sem]) | ((with_reducible apply c_regionD); kernel_rfl) | ((first | ((with_reducible apply ops_eff); decide) | (with_reducible apply ops_lit)); rfl; (simp (disch := (first | omega | assumption | ((repeat' with_reducible apply And.intro) <;> first | omega | assumption | rfl | (apply Or.inl; rfl) | (apply Or.inr; first | rfl | trivial | fail) | fail) | fail)) only [go_sem, if_pos, if_neg, wrapI, wrapU, decide_eq_true, decide_eq_false, beqT, beqF, bneT, bneF, hm, hm2, hm3] <;> rfl); simp only [go_sem])); (repeat (first | with_reducible (first | refine c_seq ?_ | refine c_block ?_ | refine c_region ?_ | refine c_skip ?_ | refine c_exit ?_ | refine c_ret ?_ | refine then_normal ?_ | refine then_exit ?_ | refine then_ret ?_ | refine block_normal ?_ | refine block_here ?_ | refine block_ret ?_ | refine block_far (by decide) ?_ | refine ops_nil ?_ | refine c_cond_t rfl ?_ | refine c_cond_f rfl ?_) | ((with_reducible apply ops_pure); rfl; (simp (disch := (first | omega | assumption | ((repeat' with_reducible apply And.intro) <;> first | omega | assumption | rfl | (apply Or.inl; rfl) | (apply Or.inr; first | rfl | trivial | fail) | fail) | fail)) only [go_sem, if_pos, if_neg, wrapI, wrapU, decide_eq_true, decide_eq_false, beqT, beqF, bneT, bneF, hm, hm2, hm3] <;> rfl); simp only [go_sem]) | ((with_reducible apply ops_pureF); rfl; (intro _; simp (disch := (first | omega | assumption | ((repeat' with_reducible apply And.intro) <;> first | omega | assumption | rfl | (apply Or.inl; rfl) | (apply Or.inr; first | rfl | trivial | fail) | fail) | fail)) only [go_sem, if_pos, if_neg, wrapI, wrapU, decide_eq_true, decide_eq_false, beqT, beqF, bneT, bneF, hm, hm2, hm3] <;> rfl); simp only [go_sem]) | ((with_reducible apply ops_pureD); kernel_rfl; rfl; (simp (disch := (first | omega | assumption | ((repeat' with_reducible apply And.intro) <;> first | omega | assumption | rfl | (apply Or.inl; rfl) | (apply Or.inr; first | rfl | trivial | fail) | fail) | fail)) only [go_sem, if_pos, if_neg, wrapI, wrapU, decide_eq_true, decide_eq_false, beqT, beqF, bneT, bneF, hm, hm2, hm3] <;> rfl); simp only [go_sem]) | ((with_reducible apply ops_skip); rfl; simp only [go_sem]) | ((with_reducible apply c_regionD); kernel_rfl) | ((first | ((with_reducible apply ops_eff); decide) | (with_reducible apply ops_lit)); rfl; (simp (disch := (first | omega | assumption | ((repeat' with_reducible apply And.intro) <;> first | omega | assumption | rfl | (apply Or.inl; rfl) | (apply Or.inr; first | rfl | trivial | fail) | fail) | fail)) only [go_sem, if_pos, if_neg, wrapI, wrapU, decide_eq_true, decide_eq_false, beqT, beqF, bneT, bneF, hm, hm2, hm3] <;> rfl); simp only [go_sem]))); exact k.get)) : p := h k
theorem dkgoL {p q : Prop} (k : Later q) (h : Later q → p := by (intro k; (first | with_reducible (first | refine c_seq ?_ | refine c_block ?_ | refine c_region ?_ | refine c_skip ?_ | refine c_exit ?_ | refine c_ret ?_ | refine then_normal ?_ | refine then_exit ?_ | refine then_ret ?_ | refine block_normal ?_ | refine block_here ?_ | refine block_ret ?_ | refine block_far (by decide) ?_ | refine ops_nil ?_ | refine c_cond_t rfl ?_ | refine c_cond_f rfl ?_) | ((with_reducible apply ops_lit); rfl; (simp (disch := (first | omega | assumption | ((repeat' with_reducible apply And.intro) <;> first | omega | assumption | rfl | (apply Or.inl; rfl) | (apply Or.inr; first | rfl | trivial | fail) | fail) | fail)) only [go_sem, if_pos, if_neg, wrapI, wrapU, decide_eq_true, decide_eq_false, beqT, beqF, bneT, bneF, hm, hm2, hm3] <;> rfl); simp only [go_sem]) | ((with_reducible apply ops_pure); rfl; (simp (disch := (first | omega | assumption | ((repeat' with_reducible apply And.intro) <;> first | omega | assumption | rfl | (apply Or.inl; rfl) | (apply Or.inr; first | rfl | trivial | fail) | fail) | fail)) only [go_sem, if_pos, if_neg, wrapI, wrapU, decide_eq_true, decide_eq_false, beqT, beqF, bneT, bneF, hm, hm2, hm3] <;> rfl); simp only [go_sem]) | ((with_reducible apply ops_pureF); rfl; (intro _; simp (disch := (first | omega | assumption | ((repeat' with_reducible apply And.intro) <;> first | omega | assumption | rfl | (apply Or.inl; rfl) | (apply Or.inr; first | rfl | trivial | fail) | fail) | fail)) only [go_sem, if_pos, if_neg, wrapI, wrapU, decide_eq_true, decide_eq_false, beqT, beqF, bneT, bneF, hm, hm2, hm3] <;> rfl); simp only [go_sem]) | ((with_reducible apply ops_pureD); kernel_rfl; rfl; (simp (disch := (first | omega | assumption | ((repeat' with_reducible apply And.intro) <;> first | omega | assumption | rfl | (apply Or.inl; rfl) | (apply Or.inr; first | rfl | trivial | fail) | fail) | fail)) only [go_sem, if_pos, if_neg, wrapI, wrapU, decide_eq_true, decide_eq_false, beqT, beqF, bneT, bneF, hm, hm2, hm3] <;> rfl); simp only [go_sem]) | ((with_reducible apply ops_skip); rfl; simp only [go_sem]) | ((with_reducible apply c_regionD); kernel_rfl) | ((first | ((with_reducible apply ops_eff); decide) | (with_reducible apply ops_lit)); rfl; (simp (disch := (first | omega | assumption | ((repeat' with_reducible apply And.intro) <;> first | omega | assumption | rfl | (apply Or.inl; rfl) | (apply Or.inr; first | rfl | trivial | fail) | fail) | fail)) only [go_sem, if_pos, if_neg, wrapI, wrapU, decide_eq_true, decide_eq_false, beqT, beqF, bneT, bneF, hm, hm2, hm3] <;> rfl); simp only [go_sem])); (repeat (first | with_reducible (first | refine c_seq ?_ | refine c_block ?_ | refine c_region ?_ | refine c_skip ?_ | refine c_exit ?_ | refine c_ret ?_ | refine then_normal ?_ | refine then_exit ?_ | refine then_ret ?_ | refine block_normal ?_ | refine block_here ?_ | refine block_ret ?_ | refine block_far (by decide) ?_ | refine ops_nil ?_ | refine c_cond_t rfl ?_ | refine c_cond_f rfl ?_) | ((with_reducible apply ops_lit); rfl; (simp (disch := (first | omega | assumption | ((repeat' with_reducible apply And.intro) <;> first | omega | assumption | rfl | (apply Or.inl; rfl) | (apply Or.inr; first | rfl | trivial | fail) | fail) | fail)) only [go_sem, if_pos, if_neg, wrapI, wrapU, decide_eq_true, decide_eq_false, beqT, beqF, bneT, bneF, hm, hm2, hm3] <;> rfl); simp only [go_sem]) | ((with_reducible apply ops_pure); rfl; (simp (disch := (first | omega | assumption | ((repeat' with_reducible apply And.intro) <;> first | omega | assumption | rfl | (apply Or.inl; rfl) | (apply Or.inr; first | rfl | trivial | fail) | fail) | fail)) only [go_sem, if_pos, if_neg, wrapI, wrapU, decide_eq_true, decide_eq_false, beqT, beqF, bneT, bneF, hm, hm2, hm3] <;> rfl); simp only [go_sem]) | ((with_reducible apply ops_pureF); rfl; (intro _; simp (disch := (first | omega | assumption | ((repeat' with_reducible apply And.intro) <;> first | omega | assumption | rfl | (apply Or.inl; rfl) | (apply Or.inr; first | rfl | trivial | fail) | fail) | fail)) only [go_sem, if_pos, if_neg, wrapI, wrapU, decide_eq_true, decide_eq_false, beqT, beqF, bneT, bneF, hm, hm2, hm3] <;> rfl); simp only [go_sem]) | ((with_reducible apply ops_pureD); kernel_rfl; rfl; (simp (disch := (first | omega | assumption | ((repeat' with_reducible apply And.intro) <;> first | omega | assumption | rfl | (apply Or.inl; rfl) | (apply Or.inr; first | rfl | trivial | fail) | fail) | fail)) only [go_sem, if_pos, if_neg, wrapI, wrapU, decide_eq_true, decide_eq_false, beqT, beqF, bneT, bneF, hm, hm2, hm3] <;> rfl); simp only [go_sem]) | ((with_reducible apply ops_skip); rfl; simp only [go_sem]) | ((with_reducible apply c_regionD); kernel_rfl) | ((first | ((with_reducible apply ops_eff); decide) | (with_reducible apply ops_lit)); rfl; (simp (disch := (first | omega | assumption | ((repeat' with_reducible apply And.intro) <;> first | omega | assumption | rfl | (apply Or.inl; rfl) | (apply Or.inr; first | rfl | trivial | fail) | fail) | fail)) only [go_sem, if_pos, if_neg, wrapI, wrapU, decide_eq_true, decide_eq_false, beqT, beqF, bneT, bneF, hm, hm2, hm3] <;> rfl); simp only [go_sem]))); exact k.get)) : p := h k
theorem dkgoX {p q : Prop} (k : Later q) (h : Later q → p := by (intro k; (first | with_reducible (first | refine c_seq ?_ | refine c_block ?_ | refine c_skip ?_ | refine c_exit ?_ | refine c_ret ?_ | refine then_normal ?_ | refine then_exit ?_ | refine then_ret ?_ | refine block_normal ?_ | refine block_here ?_ | refine block_ret ?_ | refine block_far (by decide) ?_ | refine ops_nil ?_ | refine c_cond_t rfl ?_ | refine c_cond_f rfl ?_) | ((with_reducible apply ops_pure); rfl; (simp (disch := (first | omega | assumption | ((repeat' with_reducible apply And.intro) <;> first | omega | assumption | rfl | (apply Or.inl; rfl) | (apply Or.inr; first | rfl | trivial | fail) | fail) | fail)) only [go_sem, if_pos, if_neg, wrapI, wrapU, decide_eq_true, decide_eq_false, beqT, beqF, bneT, bneF, hm, hm2, hm3] <;> rfl); simp only [go_sem]) | ((with_reducible apply ops_pureF); rfl; (intro _; simp (disch := (first | omega | assumption | ((repeat' with_reducible apply And.intro) <;> first | omega | assumption | rfl | (apply Or.inl; rfl) | (apply Or.inr; first | rfl | trivial | fail) | fail) | fail)) only [go_sem, if_pos, if_neg, wrapI, wrapU, decide_eq_true, decide_eq_false, beqT, beqF, bneT, bneF, hm, hm2, hm3] <;> rfl); simp only [go_sem]) | ((with_reducible apply ops_pureD); kernel_rfl; rfl; (simp (disch := (first | omega | assumption | ((repeat' with_reducible apply And.intro) <;> first | omega | assumption | rfl | (apply Or.inl; rfl) | (apply Or.inr; first | rfl | trivial | fail) | fail) | fail)) only [go_sem, if_pos, if_neg, wrapI, wrapU, decide_eq_true, decide_eq_false, beqT, beqF, bneT, bneF, hm, hm2, hm3] <;> rfl); simp only [go_sem]) | ((with_reducible apply ops_skip); rfl; simp only [go_sem]) | ((with_reducible apply c_regionD); kernel_rfl) | ((first | ((with_reducible apply ops_eff); decide) | (with_reducible apply ops_lit)); rfl; (simp (disch := (first | omega | assumption | ((repeat' with_reducible apply And.intro) <;> first | omega | assumption | rfl | (apply Or.inl; rfl) | (apply Or.inr; first | rfl | trivial | fail) | fail) | fail)) only [go_sem, if_pos, if_neg, wrapI, wrapU, decide_eq_true, decide_eq_false, beqT, beqF, bneT, bneF, hm, hm2, hm3] <;> rfl); simp only [go_sem])); (repeat (first | with_reducible (first | refine c_seq ?_ | refine c_block ?_ | refine c_skip ?_ | refine c_exit ?_ | refine c_ret ?_ | refine then_normal ?_ | refine then_exit ?_ | refine then_ret ?_ | refine block_normal ?_ | refine block_here ?_ | refine block_ret ?_ | refine block_far (by decide) ?_ | refine ops_nil ?_ | refine c_cond_t rfl ?_ | refine c_cond_f rfl ?_) | ((with_reducible apply ops_pure); rfl; (simp (disch := (first | omega | assumption | ((repeat' with_reducible apply And.intro) <;> first | omega | assumption | rfl | (apply Or.inl; rfl) | (apply Or.inr; first | rfl | trivial | fail) | fail) | fail)) only [go_sem, if_pos, if_neg, wrapI, wrapU, decide_eq_true, decide_eq_false, beqT, beqF, bneT, bneF, hm, hm2, hm3] <;> rfl); simp only [go_sem]) | ((with_reducible apply ops_pureF); rfl; (intro _; simp (disch := (first | omega | assumption | ((repeat' with_reducible apply And.intro) <;> first | omega | assumption | rfl | (apply Or.inl; rfl) | (apply Or.inr; first | rfl | trivial | fail) | fail) | fail)) only [go_sem, if_pos, if_neg, wrapI, wrapU, decide_eq_true, decide_eq_false, beqT, beqF, bneT, bneF, hm, hm2, hm3] <;> rfl); simp only [go_sem]) | ((with_reducible apply ops_pureD); kernel_rfl; rfl; (simp (disch := (first | omega | assumption | ((repeat' with_reducible apply And.intro) <;> first | omega | assumption | rfl | (apply Or.inl; rfl) | (apply Or.inr; first | rfl | trivial | fail) | fail) | fail)) only [go_sem, if_pos, if_neg, wrapI, wrapU, decide_eq_true, decide_eq_false, beqT, beqF, bneT, bneF, hm, hm2, hm3] <;> rfl); simp only [go_sem]) | ((with_reducible apply ops_skip); rfl; simp only [go_sem]) | ((with_reducible apply c_regionD); kernel_rfl) | ((first | ((with_reducible apply ops_eff); decide) | (with_reducible apply ops_lit)); rfl; (simp (disch := (first | omega | assumption | ((repeat' with_reducible apply And.intro) <;> first | omega | assumption | rfl | (apply Or.inl; rfl) | (apply Or.inr; first | rfl | trivial | fail) | fail) | fail)) only [go_sem, if_pos, if_neg, wrapI, wrapU, decide_eq_true, decide_eq_false, beqT, beqF, bneT, bneF, hm, hm2, hm3] <;> rfl); simp only [go_sem]))); exact k.get)) : p := h k
theorem dksv {p : Prop} (h : p := by simp (disch := (first | omega | assumption | ((repeat' with_reducible apply And.intro) <;> first | omega | assumption | rfl | (apply Or.inl; rfl) | (apply Or.inr; first | rfl | trivial | fail) | fail) | fail)) only [go_sem, if_pos, if_neg, wrapI, wrapU, decide_eq_true, decide_eq_false, beqT, beqF, bneT, bneF, hm, hm2, hm3] <;> rfl) : p := h
theorem dkcall {T : Tab} {X : CallP} {n0 lo : Nat} {wt : List Tmp} {draw : Bool} {ops : Array Oper} {Q : St → Prop} {rest : List Oper} {o : Oper} {env : List D} {sto : Sto} {f : FuncId} {args : List D} (k : ∃ r, X f args sto (if draw then sto.length else lo) r sto ∧ EvOps T X n0 lo wt draw ops Q rest (St.put ⟨env, sto⟩ o.dst r)) (hg : guardD ops o env = some true := by rfl) (h : evCallee (opd env) sto o = some (f, args) := by simp (disch := (first | omega | assumption | ((repeat' with_reducible apply And.intro) <;> first | omega | assumption | rfl | (apply Or.inl; rfl) | (apply Or.inr; first | rfl | trivial | fail) | fail) | fail)) only [go_sem, if_pos, if_neg, wrapI, wrapU, decide_eq_true, decide_eq_false, beqT, beqF, bneT, bneF, hm, hm2, hm3] <;> rfl) : EvOps T X n0 lo wt draw ops Q (o :: rest) ⟨env, sto⟩ := k.elim fun _ k => ops_call hg h k.1 k.2
def getK : List (Int × By) → Int → Option By
  | [], _ => none
  | (k, b) :: r, n => if n = k then some b else getK r n
def putK : List (Int × By) → Int → By → List (Int × By)
  | [], n, b => [(n, b)]
  | (k, c) :: r, n, b => if n = k then (n, b) :: r else (k, c) :: putK r n b
def delK : List (Int × By) → Int → List (Int × By)
  | [], _ => []
  | (k, c) :: r, n => if n = k then r else (k, c) :: delK r n
theorem mget_kvP : ∀ (l : List (Int × By)) (n : Int), mget (kvP l) n = (getK l n).map BLK
  | [], _ => rfl
  | (k, b) :: l, n => by
    have ih := mget_kvP l n
    simp only [kvP, List.map_cons, mget, getK] at ih ⊢
    by_cases h : n = k
    · simp [h]
    · simp only [h, if_false]; exact ih
theorem mput_kvP : ∀ (l : List (Int × By)) (n : Int) (b : By), mput (kvP l) n (.agg (u8s b)) = kvP (putK l n b)
  | [], _, _ => rfl
  | (k, c) :: l, n, b => by
    have ih := mput_kvP l n b
    simp only [kvP, List.map_cons, mput, putK] at ih ⊢
    by_cases h : n = k
    · simp [h]
    · simp only [h, if_false, ih, List.map_cons]
theorem mdel_kvP : ∀ (l : List (Int × By)) (n : Int), mdel (kvP l) n = kvP (delK l n)
  | [], _ => rfl
  | (k, c) :: l, n => by
    have ih := mdel_kvP l n
    simp only [kvP, List.map_cons, mdel, delK] at ih ⊢
    by_cases h : n = k
    · simp [h]
    · simp only [h, if_false, ih, List.map_cons]
attribute [local go_sem] mput_kvP mdel_kvP
def writeS (D : DK) (i : Int) (s : By) : DK × Int :=
  if checkS D i ≠ 0 then (D, checkS D i) else if s.length ≠ 64 then (D, 1) else if (stepS D).2 ≠ 0 then ((stepS D).1, (stepS D).2) else ({ (stepS D).1 with pd := putK (stepS D).1.pd i s }, 0)
theorem write_ev (D : DK) (hD : D.ok) (i : Int) (s : By) (hs : s.length < 9223372036854775808) (k : Nat) : DiskW 16 [.ptr (k + 3) 0, .v (VI i), .v (STR s)] k D (.v (VI (writeS D i s).2)) (writeS D i s).1 := by
  have hc := check_ev D hD i k
  have hst := step_ev D hD k
  have hm : True := trivial
  have hm2 := hm
  have hm3 := hm
  intro sto lo hlt hlo; refine CallEv.intro ⟨_, _, [], Try.func16, rfl, by decide, ?_⟩; simp only [go_sem, Try.ntmps16]
  by_cases h1 : checkS D i = 0
  · by_cases h2 : s.length = 64
    · by_cases h3 : (stepS D).2 = 0
      · have e : writeS D i s = ({ (stepS D).1 with pd := putK (stepS D).1.pd i s }, 0) := by simp [writeS, h1, h2, h3]
        rw [e]
        have hne : u8s s ≠ [] := by
          intro h0
          have := congrArg List.length h0
          rw [u8s_len, List.length_nil] at this
          omega
        (try refine dkgo ⟨?_⟩)
        ((refine dkcall ?_); (refine ⟨_, hc _ _ (by omega) (by first | omega | (simp; done) | (simp; omega)), ?_⟩); (try simp only [go_sem]))
        (try refine dkgo ⟨?_⟩)
        ((with_reducible apply ops_callW); rfl; (simp (disch := (first | omega | assumption | ((repeat' with_reducible apply And.intro) <;> first | omega | assumption | rfl | (apply Or.inl; rfl) | (apply Or.inr; first | rfl | trivial | fail) | fail) | fail)) only [go_sem, if_pos, if_neg, wrapI, wrapU, decide_eq_true, decide_eq_false, beqT, beqF, bneT, bneF, hm, hm2, hm3] <;> rfl); (exact hst _ _ (by omega) (by omega)); (exact ho_putD0 (by first | omega | (simp; done)) (by first | omega | (simp only [putD_len]; omega))); (try simp only [go_sem]))
        (try refine dkgo ⟨?_⟩)
        generalize (stepS D).1 = E
        obtain ⟨b, p, w, off, lf⟩ := E
        (try refine dkgo ⟨?_⟩)
        refine ⟨by first | exact .inr rfl | exact .inl rfl, .inl ⟨[], _, (by dsimp only [Try.f16]; exact dksv), ?_, ?_⟩⟩; all_goals (first | rfl | (simp (disch := omega) only [putD_setd, putD_setw, putD_setp, putD_takeN, putD_take]; done) | (simp (disch := omega) only [putD_setd, putD_setw, putD_setp, putD_takeN, putD_take]; rfl) | skip)
      · have e : writeS D i s = ((stepS D).1, (stepS D).2) := by simp [writeS, h1, h2, h3]
        rw [e]
        (try refine dkgo ⟨?_⟩)
        ((refine dkcall ?_); (refine ⟨_, hc _ _ (by omega) (by first | omega | (simp; done) | (simp; omega)), ?_⟩); (try simp only [go_sem]))
        (try refine dkgo ⟨?_⟩)
        ((with_reducible apply ops_callW); rfl; (simp (disch := (first | omega | assumption | ((repeat' with_reducible apply And.intro) <;> first | omega | assumption | rfl | (apply Or.inl; rfl) | (apply Or.inr; first | rfl | trivial | fail) | fail) | fail)) only [go_sem, if_pos, if_neg, wrapI, wrapU, decide_eq_true, decide_eq_false, beqT, beqF, bneT, bneF, hm, hm2, hm3] <;> rfl); (exact hst _ _ (by omega) (by omega)); (exact ho_putD0 (by first | omega | (simp; done)) (by first | omega | (simp only [putD_len]; omega))); (try simp only [go_sem]))
        (try refine dkgo ⟨?_⟩)
        refine ⟨by first | exact .inr rfl | exact .inl rfl, .inl ⟨[], _, (by dsimp only [Try.f16]; exact dksv), ?_, ?_⟩⟩; all_goals (first | rfl | (simp (disch := omega) only [putD_setd, putD_setw, putD_setp, putD_takeN, putD_take]; done) | (simp (disch := omega) only [putD_setd, putD_setw, putD_setp, putD_takeN, putD_take]; rfl) | skip)
    · have e : writeS D i s = (D, 1) := by simp [writeS, h1, h2]
      rw [e]
      (try refine dkgo ⟨?_⟩)
      ((refine dkcall ?_); (refine ⟨_, hc _ _ (by omega) (by first | omega | (simp; done) | (simp; omega)), ?_⟩); (try simp only [go_sem]))
      (try refine dkgo ⟨?_⟩)
      refine ⟨by first | exact .inr rfl | exact .inl rfl, .inl ⟨[], _, (by dsimp only [Try.f16]; exact dksv), ?_, ?_⟩⟩; all_goals (first | rfl | (simp (disch := omega) only [putD_setd, putD_setw, putD_setp, putD_takeN, putD_take]; done) | (simp (disch := omega) only [putD_setd, putD_setw, putD_setp, putD_takeN, putD_take]; rfl) | skip)
  · have e : writeS D i s = (D, checkS D i) := by simp [writeS, h1]
    rw [e]
    (try refine dkgo ⟨?_⟩)
    ((refine dkcall ?_); (refine ⟨_, hc _ _ (by omega) (by first | omega | (simp; done) | (simp; omega)), ?_⟩); (try simp only [go_sem]))
    (try refine dkgo ⟨?_⟩)
    refine ⟨by first | exact .inr rfl | exact .inl rfl, .inl ⟨[], _, (by dsimp only [Try.f16]; exact dksv), ?_, ?_⟩⟩; all_goals (first | rfl | (simp (disch := omega) only [putD_setd, putD_setw, putD_setp, putD_takeN, putD_take]; done) | (simp (disch := omega) only [putD_setd, putD_setw, putD_setp, putD_takeN, putD_take]; rfl) | skip)
def readS (D : DK) (i : Int) : By × Int :=
  if checkS D i ≠ 0 then ([], checkS D i) else match getK D.pd i with
    | some b => (b, 0)
    | none => (D.bl.getD i.toNat [], 0)
theorem checkS_zero {D : DK} {i : Int} (h : checkS D i = 0) : D.off = false ∧ 0 ≤ i ∧ i < D.bl.length := by
  unfold checkS at h
  split at h
  · cases h
  · rename_i h1
    split at h
    · cases h
    · exact ⟨by simpa using h1, by omega, by omega⟩
theorem getK_mem : ∀ {l : List (Int × By)} {i : Int} {b : By}, getK l i = some b → (i, b) ∈ l
  | (k, c) :: l, i, b, h => by
    simp only [getK] at h
    by_cases hk : i = k
    · subst hk
      simp only [if_true, Option.some.injEq] at h
      subst h; simp
    · rw [if_neg hk] at h
      exact List.mem_cons_of_mem _ (getK_mem h)
theorem read_ev (D : DK) (hD : D.ok) (i : Int) (k : Nat) : DiskR 15 [.ptr (k + 3) 0, .v (VI i)] k D (.v (.tup [STR (readS D i).1, VI (readS D i).2])) := by
  have hc := check_ev D hD i k
  have hfl := flatB_len hD
  intro sto lo hlt hlo; refine CallEv.intro ⟨_, _, [], Try.func15, rfl, by decide, ?_⟩; simp only [go_sem, Try.ntmps15]
  by_cases h1 : checkS D i = 0
  · obtain ⟨h2, h3, h4⟩ := checkS_zero h1
    obtain ⟨i, rfl⟩ := Int.eq_ofNat_of_zero_le h3
    have h4' : i < D.bl.length := by omega
    cases hg : getK D.pd i with
    | some b =>
      have e : readS D i = (b, 0) := by simp [readS, h1, hg]
      rw [e]
      have hb := (hD.2.1 _ (getK_mem hg)).1
      simp only at hb
      have hm : mget (kvP D.pd) (i : Int) = some (.agg (u8s b)) := by rw [mget_kvP, hg]; rfl
      have hm2 : True := trivial
      have hm3 := hm2
      (try refine dkgo ⟨?_⟩)
      ((refine dkcall ?_); (refine ⟨_, hc _ _ (by omega) (by first | omega | (simp; done) | (simp; omega)), ?_⟩); (try simp only [go_sem]))
      (try refine dkgo ⟨?_⟩)
      refine ⟨by first | exact .inr rfl | exact .inl rfl, .inl ⟨[], _, (by dsimp only [Try.f15]; exact dksv), ?_, ?_⟩⟩; all_goals (first | rfl | (simp (disch := omega) only [putD_setd, putD_setw, putD_setp, putD_takeN, putD_take]; done) | (simp (disch := omega) only [putD_setd, putD_setw, putD_setp, putD_takeN, putD_take]; rfl) | skip)
    | none =>
      have e : readS D i = (D.bl[i], 0) := by simp [readS, h1, hg, List.getD, h4']
      rw [e]
      have hm : mget (kvP D.pd) (i : Int) = none := by rw [mget_kvP, hg]; rfl
      have hm2 := flatB_get hD h4'
      have hm3 : True := trivial
      have hb := hD.1 _ (List.getElem_mem h4')
      (try refine dkgo ⟨?_⟩)
      ((refine dkcall ?_); (refine ⟨_, hc _ _ (by omega) (by first | omega | (simp; done) | (simp; omega)), ?_⟩); (try simp only [go_sem]))
      (try refine dkgo ⟨?_⟩)
      refine ⟨by first | exact .inr rfl | exact .inl rfl, .inl ⟨[], _, (by dsimp only [Try.f15]; exact dksv), ?_, ?_⟩⟩; all_goals (first | rfl | (simp (disch := omega) only [putD_setd, putD_setw, putD_setp, putD_takeN, putD_take]; done) | (simp (disch := omega) only [putD_setd, putD_setw, putD_setp, putD_takeN, putD_take]; rfl) | skip)
  · have e : readS D i = ([], checkS D i) := by simp [readS, h1]
    rw [e]
    have hm : True := trivial
    have hm2 := hm
    have hm3 := hm
    (try refine dkgo ⟨?_⟩)
    ((refine dkcall ?_); (refine ⟨_, hc _ _ (by omega) (by first | omega | (simp; done) | (simp; omega)), ?_⟩); (try simp only [go_sem]))
    (try refine dkgo ⟨?_⟩)
    refine ⟨by first | exact .inr rfl | exact .inl rfl, .inl ⟨[], _, (by dsimp only [Try.f15]; exact dksv), ?_, ?_⟩⟩; all_goals (first | rfl | (simp (disch := omega) only [putD_setd, putD_setw, putD_setp, putD_takeN, putD_take]; done) | (simp (disch := omega) only [putD_setd, putD_setw, putD_setp, putD_takeN, putD_take]; rfl) | skip)
end Go.Proofs.Ytghdanpigohnjaa
namespace Go.Proofs.Ytghdanpigohnjaa
open Go Go.RowKit

attribute [local irreducible] EvOps EvC
attribute [local go_sem] List.getElem?_toArray List.flatten_cons List.flatten_nil List.contains_nil List.append_nil List.nil_append List.length_set Bool.and_self implies_true eq_self Nat.zero_mul Nat.add_zero Nat.zero_add Nat.sub_zero List.take_zero List.drop_zero List.drop_replicate Nat.sub_self List.replicate_zero List.map_nil List.map_append List.length_replicate
attribute [local go_sem] bytesV_bs strV_u8s bs_size u8s_len bs_extract bs_append bs_beq bs_nil bs_nil2
attribute [local go_sem] putD_len putD_b putD_p putD_w putD_d putD_app putD_put putD_get0 putD_get putD_set0 putD_set putD_take putD_takeN putD_setd putD_setw putD_setp getLD setLD
set_option linter.unusedSimpArgs false
set_option linter.unusedVariables false
set_option maxRecDepth 100000
set_option maxHeartbeats 4000000
attribute [local go_sem] take_u8 take_u8v drop_u8v len_u8v viewL_mv eqVs_u8s zsV_Z64 Z64_len Nat.min_self Nat.min_eq_right

theorem dsgo {p q : Prop} (k : Later q) (h : Later q → p := by (intro k; (first | with_reducible (first | refine c_seq ?_ | refine c_block ?_ | refine c_region ?_ | refine c_skip ?_ | refine c_exit ?_ | refine c_ret ?_ | refine then_normal ?_ | refine then_exit ?_ | refine then_ret ?_ | refine block_normal ?_ | refine block_here ?_ | refine block_ret ?_ | refine block_far (by decide) ?_ | refine ops_nil ?_ | refine c_cond_t rfl ?_ | refine c_cond_f rfl ?_) | ((with_reducible apply ops_pure); rfl; (simp (disch := (first | omega | assumption | ((repeat' with_reducible apply And.intro) <;> first | omega | assumption | rfl | (apply Or.inl; rfl) | (apply Or.inr; first | rfl | trivial | fail) | fail) | fail)) only [go_sem, if_pos, if_neg, wrapI, wrapU, decide_eq_true, decide_eq_false, beqT, beqF, bneT, bneF, hm, hm2, hm3, hm4, hm5] <;> rfl); simp only [go_sem]) | ((with_reducible apply ops_pureF); rfl; (intro _; simp (disch := (first | omega | assumption | ((repeat' with_reducible apply And.intro) <;> first | omega | assumption | rfl | (apply Or.inl; rfl) | (apply Or.inr; first | rfl | trivial | fail) | fail) | fail)) only [go_sem, if_pos, if_neg, wrapI, wrapU, decide_eq_true, decide_eq_false, beqT, beqF, bneT, bneF, hm, hm2, hm3, hm4, hm5] <;> rfl); simp only [go_sem]) | ((with_reducible apply ops_pureD); kernel_rfl; rfl; (simp (disch := (first | omega | assumption | ((repeat' with_reducible apply And.intro) <;> first | omega | assumption | rfl | (apply Or.inl; rfl) | (apply Or.inr; first | rfl | trivial | fail) | fail) | fail)) only [go_sem, if_pos, if_neg, wrapI, wrapU, decide_eq_true, decide_eq_false, beqT, beqF, bneT, bneF, hm, hm2, hm3, hm4, hm5] <;> rfl); simp only [go_sem]) | ((with_reducible apply ops_skip); rfl; simp only [go_sem]) | ((with_reducible apply c_regionD); kernel_rfl) | ((first | ((with_reducible apply ops_eff); decide) | (with_reducible apply ops_lit)); rfl; (simp (disch := (first | omega | assumption | ((repeat' with_reducible apply And.intro) <;> first | omega | assumption | rfl | (apply Or.inl; rfl) | (apply Or.inr; first | rfl | trivial | fail) | fail) | fail)) only [go_sem, if_pos, if_neg, wrapI, wrapU, decide_eq_true, decide_eq_false, beqT, beqF, bneT, bneF, hm, hm2, hm3, hm4, hm5] <;> rfl); simp only [go_sem])); (repeat (first | with_reducible (first | refine c_seq ?_ | refine c_block ?_ | refine c_region ?_ | refine c_skip ?_ | refine c_exit ?_ | refine c_ret ?_ | refine then_normal ?_ | refine then_exit ?_ | refine then_ret ?_ | refine block_normal ?_ | refine block_here ?_ | refine block_ret ?_ | refine block_far (by decide) ?_ | refine ops_nil ?_ | refine c_cond_t rfl ?_ | refine c_cond_f rfl ?_) | ((with_reducible apply ops_pure); rfl; (simp (disch := (first | omega | assumption | ((repeat' with_reducible apply And.intro) <;> first | omega | assumption | rfl | (apply Or.inl; rfl) | (apply Or.inr; first | rfl | trivial | fail) | fail) | fail)) only [go_sem, if_pos, if_neg, wrapI, wrapU, decide_eq_true, decide_eq_false, beqT, beqF, bneT, bneF, hm, hm2, hm3, hm4, hm5] <;> rfl); simp only [go_sem]) | ((with_reducible apply ops_pureF); rfl; (intro _; simp (disch := (first | omega | assumption | ((repeat' with_reducible apply And.intro) <;> first | omega | assumption | rfl | (apply Or.inl; rfl) | (apply Or.inr; first | rfl | trivial | fail) | fail) | fail)) only [go_sem, if_pos, if_neg, wrapI, wrapU, decide_eq_true, decide_eq_false, beqT, beqF, bneT, bneF, hm, hm2, hm3, hm4, hm5] <;> rfl); simp only [go_sem]) | ((with_reducible apply ops_pureD); kernel_rfl; rfl; (simp (disch := (first | omega | assumption | ((repeat' with_reducible apply And.intro) <;> first | omega | assumption | rfl | (apply Or.inl; rfl) | (apply Or.inr; first | rfl | trivial | fail) | fail) | fail)) only [go_sem, if_pos, if_neg, wrapI, wrapU, decide_eq_true, decide_eq_false, beqT, beqF, bneT, bneF, hm, hm2, hm3, hm4, hm5] <;> rfl); simp only [go_sem]) | ((with_reducible apply ops_skip); rfl; simp only [go_sem]) | ((with_reducible apply c_regionD); kernel_rfl) | ((first | ((with_reducible apply ops_eff); decide) | (with_reducible apply ops_lit)); rfl; (simp (disch := (first | omega | assumption | ((repeat' with_reducible apply And.intro) <;> first | omega | assumption | rfl | (apply Or.inl; rfl) | (apply Or.inr; first | rfl | trivial | fail) | fail) | fail)) only [go_sem, if_pos, if_neg, wrapI, wrapU, decide_eq_true, decide_eq_false, beqT, beqF, bneT, bneF, hm, hm2, hm3, hm4, hm5] <;> rfl); simp only [go_sem]))); exact k.get)) : p := h k
theorem dsgoL {p q : Prop} (k : Later q) (h : Later q → p := by (intro k; (first | with_reducible (first | refine c_seq ?_ | refine c_block ?_ | refine c_region ?_ | refine c_skip ?_ | refine c_exit ?_ | refine c_ret ?_ | refine then_normal ?_ | refine then_exit ?_ | refine then_ret ?_ | refine block_normal ?_ | refine block_here ?_ | refine block_ret ?_ | refine block_far (by decide) ?_ | refine ops_nil ?_ | refine c_cond_t rfl ?_ | refine c_cond_f rfl ?_) | ((with_reducible apply ops_lit); rfl; (simp (disch := (first | omega | assumption | ((repeat' with_reducible apply And.intro) <;> first | omega | assumption | rfl | (apply Or.inl; rfl) | (apply Or.inr; first | rfl | trivial | fail) | fail) | fail)) only [go_sem, if_pos, if_neg, wrapI, wrapU, decide_eq_true, decide_eq_false, beqT, beqF, bneT, bneF, hm, hm2, hm3, hm4, hm5] <;> rfl); simp only [go_sem]) | ((with_reducible apply ops_pure); rfl; (simp (disch := (first | omega | assumption | ((repeat' with_reducible apply And.intro) <;> first | omega | assumption | rfl | (apply Or.inl; rfl) | (apply Or.inr; first | rfl | trivial | fail) | fail) | fail)) only [go_sem, if_pos, if_neg, wrapI, wrapU, decide_eq_true, decide_eq_false, beqT, beqF, bneT, bneF, hm, hm2, hm3, hm4, hm5] <;> rfl); simp only [go_sem]) | ((with_reducible apply ops_pureF); rfl; (intro _; simp (disch := (first | omega | assumption | ((repeat' with_reducible apply And.intro) <;> first | omega | assumption | rfl | (apply Or.inl; rfl) | (apply Or.inr; first | rfl | trivial | fail) | fail) | fail)) only [go_sem, if_pos, if_neg, wrapI, wrapU, decide_eq_true, decide_eq_false, beqT, beqF, bneT, bneF, hm, hm2, hm3, hm4, hm5] <;> rfl); simp only [go_sem]) | ((with_reducible apply ops_pureD); kernel_rfl; rfl; (simp (disch := (first | omega | assumption | ((repeat' with_reducible apply And.intro) <;> first | omega | assumption | rfl | (apply Or.inl; rfl) | (apply Or.inr; first | rfl | trivial | fail) | fail) | fail)) only [go_sem, if_pos, if_neg, wrapI, wrapU, decide_eq_true, decide_eq_false, beqT, beqF, bneT, bneF, hm, hm2, hm3, hm4, hm5] <;> rfl); simp only [go_sem]) | ((with_reducible apply ops_skip); rfl; simp only [go_sem]) | ((with_reducible apply c_regionD); kernel_rfl) | ((first | ((with_reducible apply ops_eff); decide) | (with_reducible apply ops_lit)); rfl; (simp (disch := (first | omega | assumption | ((repeat' with_reducible apply And.intro) <;> first | omega | assumption | rfl | (apply Or.inl; rfl) | (apply Or.inr; first | rfl | trivial | fail) | fail) | fail)) only [go_sem, if_pos, if_neg, wrapI, wrapU, decide_eq_true, decide_eq_false, beqT, beqF, bneT, bneF, hm, hm2, hm3, hm4, hm5] <;> rfl); simp only [go_sem])); (repeat (first | with_reducible (first | refine c_seq ?_ | refine c_block ?_ | refine c_region ?_ | refine c_skip ?_ | refine c_exit ?_ | refine c_ret ?_ | refine then_normal ?_ | refine then_exit ?_ | refine then_ret ?_ | refine block_normal ?_ | refine block_here ?_ | refine block_ret ?_ | refine block_far (by decide) ?_ | refine ops_nil ?_ | refine c_cond_t rfl ?_ | refine c_cond_f rfl ?_) | ((with_reducible apply ops_lit); rfl; (simp (disch := (first | omega | assumption | ((repeat' with_reducible apply And.intro) <;> first | omega | assumption | rfl | (apply Or.inl; rfl) | (apply Or.inr; first | rfl | trivial | fail) | fail) | fail)) only [go_sem, if_pos, if_neg, wrapI, wrapU, decide_eq_true, decide_eq_false, beqT, beqF, bneT, bneF, hm, hm2, hm3, hm4, hm5] <;> rfl); simp only [go_sem]) | ((with_reducible apply ops_pure); rfl; (simp (disch := (first | omega | assumption | ((repeat' with_reducible apply And.intro) <;> first | omega | assumption | rfl | (apply Or.inl; rfl) | (apply Or.inr; first | rfl | trivial | fail) | fail) | fail)) only [go_sem, if_pos, if_neg, wrapI, wrapU, decide_eq_true, decide_eq_false, beqT, beqF, bneT, bneF, hm, hm2, hm3, hm4, hm5] <;> rfl); simp only [go_sem]) | ((with_reducible apply ops_pureF); rfl; (intro _; simp (disch := (first | omega | assumption | ((repeat' with_reducible apply And.intro) <;> first | omega | assumption | rfl | (apply Or.inl; rfl) | (apply Or.inr; first | rfl | trivial | fail) | fail) | fail)) only [go_sem, if_pos, if_neg, wrapI, wrapU, decide_eq_true, decide_eq_false, beqT, beqF, bneT, bneF, hm, hm2, hm3, hm4, hm5] <;> rfl); simp only [go_sem]) | ((with_reducible apply ops_pureD); kernel_rfl; rfl; (simp (disch := (first | omega | assumption | ((repeat' with_reducible apply And.intro) <;> first | omega | assumption | rfl | (apply Or.inl; rfl) | (apply Or.inr; first | rfl | trivial | fail) | fail) | fail)) only [go_sem, if_pos, if_neg, wrapI, wrapU, decide_eq_true, decide_eq_false, beqT, beqF, bneT, bneF, hm, hm2, hm3, hm4, hm5] <;> rfl); simp only [go_sem]) | ((with_reducible apply ops_skip); rfl; simp only [go_sem]) | ((with_reducible apply c_regionD); kernel_rfl) | ((first | ((with_reducible apply ops_eff); decide) | (with_reducible apply ops_lit)); rfl; (simp (disch := (first | omega | assumption | ((repeat' with_reducible apply And.intro) <;> first | omega | assumption | rfl | (apply Or.inl; rfl) | (apply Or.inr; first | rfl | trivial | fail) | fail) | fail)) only [go_sem, if_pos, if_neg, wrapI, wrapU, decide_eq_true, decide_eq_false, beqT, beqF, bneT, bneF, hm, hm2, hm3, hm4, hm5] <;> rfl); simp only [go_sem]))); exact k.get)) : p := h k
theorem dsgoX {p q : Prop} (k : Later q) (h : Later q → p := by (intro k; (first | with_reducible (first | refine c_seq ?_ | refine c_block ?_ | refine c_skip ?_ | refine c_exit ?_ | refine c_ret ?_ | refine then_normal ?_ | refine then_exit ?_ | refine then_ret ?_ | refine block_normal ?_ | refine block_here ?_ | refine block_ret ?_ | refine block_far (by decide) ?_ | refine ops_nil ?_ | refine c_cond_t rfl ?_ | refine c_cond_f rfl ?_) | ((with_reducible apply ops_pure); rfl; (simp (disch := (first | omega | assumption | ((repeat' with_reducible apply And.intro) <;> first | omega | assumption | rfl | (apply Or.inl; rfl) | (apply Or.inr; first | rfl | trivial | fail) | fail) | fail)) only [go_sem, if_pos, if_neg, wrapI, wrapU, decide_eq_true, decide_eq_false, beqT, beqF, bneT, bneF, hm, hm2, hm3, hm4, hm5] <;> rfl); simp only [go_sem]) | ((with_reducible apply ops_pureF); rfl; (intro _; simp (disch := (first | omega | assumption | ((repeat' with_reducible apply And.intro) <;> first | omega | assumption | rfl | (apply Or.inl; rfl) | (apply Or.inr; first | rfl | trivial | fail) | fail) | fail)) only [go_sem, if_pos, if_neg, wrapI, wrapU, decide_eq_true, decide_eq_false, beqT, beqF, bneT, bneF, hm, hm2, hm3, hm4, hm5] <;> rfl); simp only [go_sem]) | ((with_reducible apply ops_pureD); kernel_rfl; rfl; (simp (disch := (first | omega | assumption | ((repeat' with_reducible apply And.intro) <;> first | omega | assumption | rfl | (apply Or.inl; rfl) | (apply Or.inr; first | rfl | trivial | fail) | fail) | fail)) only [go_sem, if_pos, if_neg, wrapI, wrapU, decide_eq_true, decide_eq_false, beqT, beqF, bneT, bneF, hm, hm2, hm3, hm4, hm5] <;> rfl); simp only [go_sem]) | ((with_reducible apply ops_skip); rfl; simp only [go_sem]) | ((with_reducible apply c_regionD); kernel_rfl) | ((first | ((with_reducible apply ops_eff); decide) | (with_reducible apply ops_lit)); rfl; (simp (disch := (first | omega | assumption | ((repeat' with_reducible apply And.intro) <;> first | omega | assumption | rfl | (apply Or.inl; rfl) | (apply Or.inr; first | rfl | trivial | fail) | fail) | fail)) only [go_sem, if_pos, if_neg, wrapI, wrapU, decide_eq_true, decide_eq_false, beqT, beqF, bneT, bneF, hm, hm2, hm3, hm4, hm5] <;> rfl); simp only [go_sem])); (repeat (first | with_reducible (first | refine c_seq ?_ | refine c_block ?_ | refine c_skip ?_ | refine c_exit ?_ | refine c_ret ?_ | refine then_normal ?_ | refine then_exit ?_ | refine then_ret ?_ | refine block_normal ?_ | refine block_here ?_ | refine block_ret ?_ | refine block_far (by decide) ?_ | refine ops_nil ?_ | refine c_cond_t rfl ?_ | refine c_cond_f rfl ?_) | ((with_reducible apply ops_pure); rfl; (simp (disch := (first | omega | assumption | ((repeat' with_reducible apply And.intro) <;> first | omega | assumption | rfl | (apply Or.inl; rfl) | (apply Or.inr; first | rfl | trivial | fail) | fail) | fail)) only [go_sem, if_pos, if_neg, wrapI, wrapU, decide_eq_true, decide_eq_false, beqT, beqF, bneT, bneF, hm, hm2, hm3, hm4, hm5] <;> rfl); simp only [go_sem]) | ((with_reducible apply ops_pureF); rfl; (intro _; simp (disch := (first | omega | assumption | ((repeat' with_reducible apply And.intro) <;> first | omega | assumption | rfl | (apply Or.inl; rfl) | (apply Or.inr; first | rfl | trivial | fail) | fail) | fail)) only [go_sem, if_pos, if_neg, wrapI, wrapU, decide_eq_true, decide_eq_false, beqT, beqF, bneT, bneF, hm, hm2, hm3, hm4, hm5] <;> rfl); simp only [go_sem]) | ((with_reducible apply ops_pureD); kernel_rfl; rfl; (simp (disch := (first | omega | assumption | ((repeat' with_reducible apply And.intro) <;> first | omega | assumption | rfl | (apply Or.inl; rfl) | (apply Or.inr; first | rfl | trivial | fail) | fail) | fail)) only [go_sem, if_pos, if_neg, wrapI, wrapU, decide_eq_true, decide_eq_false, beqT, beqF, bneT, bneF, hm, hm2, hm3, hm4, hm5] <;> rfl); simp only [go_sem]) | ((with_reducible apply ops_skip); rfl; simp only [go_sem]) | ((with_reducible apply c_regionD); kernel_rfl) | ((first | ((with_reducible apply ops_eff); decide) | (with_reducible apply ops_lit)); rfl; (simp (disch := (first | omega | assumption | ((repeat' with_reducible apply And.intro) <;> first | omega | assumption | rfl | (apply Or.inl; rfl) | (apply Or.inr; first | rfl | trivial | fail) | fail) | fail)) only [go_sem, if_pos, if_neg, wrapI, wrapU, decide_eq_true, decide_eq_false, beqT, beqF, bneT, bneF, hm, hm2, hm3, hm4, hm5] <;> rfl); simp only [go_sem]))); exact k.get)) : p := h k
theorem dssv {p : Prop} (h : p := by simp (disch := (first | omega | assumption | ((repeat' with_reducible apply And.intro) <;> first | omega | assumption | rfl | (apply Or.inl; rfl) | (apply Or.inr; first | rfl | trivial | fail) | fail) | fail)) only [go_sem, if_pos, if_neg, wrapI, wrapU, decide_eq_true, decide_eq_false, beqT, beqF, bneT, bneF, hm, hm2, hm3, hm4, hm5] <;> rfl) : p := h
theorem dscall {T : Tab} {X : CallP} {n0 lo : Nat} {wt : List Tmp} {draw : Bool} {ops : Array Oper} {Q : St → Prop} {rest : List Oper} {o : Oper} {env : List D} {sto : Sto} {f : FuncId} {args : List D} (k : ∃ r, X f args sto (if draw then sto.length else lo) r sto ∧ EvOps T X n0 lo wt draw ops Q rest (St.put ⟨env, sto⟩ o.dst r)) (hg : guardD ops o env = some true := by rfl) (h : evCallee (opd env) sto o = some (f, args) := by simp (disch := (first | omega | assumption | ((repeat' with_reducible apply And.intro) <;> first | omega | assumption | rfl | (apply Or.inl; rfl) | (apply Or.inr; first | rfl | trivial | fail) | fail) | fail)) only [go_sem, if_pos, if_neg, wrapI, wrapU, decide_eq_true, decide_eq_false, beqT, beqF, bneT, bneF, hm, hm2, hm3, hm4, hm5] <;> rfl) : EvOps T X n0 lo wt draw ops Q (o :: rest) ⟨env, sto⟩ := k.elim fun _ k => ops_call hg h k.1 k.2
attribute [local go_sem] mput_kvP mdel_kvP mput_kvW
theorem mget_kvW : ∀ (l : List Int) (n : Int), mget (kvW l) n = if n ∈ l then some (.bool true) else none
  | [], _ => rfl
  | k :: l, n => by
    have ih := mget_kvW l n
    simp only [kvW, List.map_cons, mget] at ih ⊢
    by_cases h : n = k
    · simp [h]
    · simp only [h, if_false, ih, List.mem_cons, false_or]
def cutS (p : Int) : Nat := if p < 0 then 0 else if p > 64 then 64 else p.toNat
theorem cutS_le (p : Int) : cutS p ≤ 64 := by unfold cutS; (repeat' split) <;> omega
def tearS (old next : By) (p : Int) : By := next.take (cutS p) ++ old.drop (cutS p)
theorem tearS_len {a b : By} (ha : a.length = 64) (hb : b.length = 64) (p : Int) : (tearS a b p).length = 64 := by
  have := cutS_le p
  simp only [tearS, List.length_append, List.length_take, List.length_drop]; omega
theorem tearS_same (a : By) (p : Int) : tearS a a p = a := List.take_append_drop _ _
def settleS (D : DK) (i : Int) (b : By) (p : Int) : DK := { D with bl := if i ∈ D.wn then D.bl else D.bl.set i.toNat (tearS (D.bl.getD i.toNat []) b p), pd := delK D.pd i }
theorem put_part {D : DK} (hD : D.ok) {j : Nat} (hj : j < D.bl.length) (b : By) (hb : b.length = 64) (q : Nat) (hq : q ≤ 64) : (flatB D.bl).take (j * 64) ++ (u8s b).take q ++ (flatB D.bl).drop (j * 64 + q) = flatB (D.bl.set j (b.take q ++ D.bl[j].drop q)) := by
  have h := flatB_put hD hj (j := 0) (b.take q) (by rw [List.length_take]; omega)
  have hl : (b.take q).length = q := by rw [List.length_take]; omega
  rw [hl] at h
  simp only [Nat.add_zero, List.take_zero, List.nil_append, Nat.zero_add] at h
  rw [← h]
  simp [u8s, List.map_take]
theorem settle_ev (D : DK) (hD : D.ok) (i : Int) (b : By) (hg : getK D.pd i = some b) (p : Int) (hp : Big p) (k : Nat) : DiskW 50 [.ptr (k + 3) 0, .v (VI i), .v (VI p)] k D (.v (.tup [])) (settleS D i b p) := by
  obtain ⟨hb, h3, h4⟩ := hD.2.1 _ (getK_mem hg)
  simp only at hb h3 h4
  obtain ⟨i, rfl⟩ := Int.eq_ofNat_of_zero_le h3
  have h4' : i < D.bl.length := by omega
  have hfl := flatB_len hD
  have hm : mget (kvP D.pd) (i : Int) = some (.agg (u8s b)) := by rw [mget_kvP, hg]; rfl
  have hm2 := flatB_get hD h4'
  have hbl := hD.1 _ (List.getElem_mem h4')
  have put := put_part hD h4' b hb
  obtain ⟨hp1, hp2⟩ := hp
  have hset : ∀ X : By, (D.bl.set i X).length = D.bl.length := fun X => by simp
  have same : D.bl.set i D.bl[i] = D.bl := List.set_getElem_self h4'
  have hgd : D.bl.getD i [] = D.bl[i] := by simp [List.getD, h4']
  have hmw := mget_kvW D.wn i
  unfold settleS
  rw [Int.toNat_natCast, hgd]
  clear hD hg
  obtain ⟨bl, pd, wn, off, lf⟩ := D
  simp only at *
  intro sto lo hlt hlo; refine CallEv.intro ⟨_, _, [], Try.func50, rfl, by decide, ?_⟩; simp only [go_sem, Try.ntmps50]
  by_cases hw : (i : Int) ∈ wn
  · rw [if_pos hw]
    rw [if_pos hw] at hmw
    have hm3 := hmw
    have hm4 : True := trivial
    have hm5 := hm4
    clear put hset same
    (try refine dsgo ⟨?_⟩)
    refine ⟨by first | exact .inr rfl | exact .inl rfl, .inl ⟨[], _, (by dsimp only [Try.f50]; exact dssv), ?_, ?_⟩⟩; all_goals (first | rfl | (simp (disch := omega) only [putD_setd, putD_setw, putD_setp, putD_takeN, putD_take]; done) | (simp (disch := omega) only [putD_setd, putD_setw, putD_setp, putD_takeN, putD_take]; rfl) | skip)
  · rw [if_neg hw]
    rw [if_neg hw] at hmw
    have hm3 := hmw
    clear hmw hw
    by_cases hs : b = bl[i]
    · have hm5 : decide (b = bl[i]) = true := by simp [hs]
      have hm4 : True := trivial
      rw [show tearS bl[i] b p = bl[i] by rw [hs]; exact tearS_same _ _, same]
      clear put hset same
      clear hs
      (try refine dsgo ⟨?_⟩)
      refine ⟨by first | exact .inr rfl | exact .inl rfl, .inl ⟨[], _, (by dsimp only [Try.f50]; exact dssv), ?_, ?_⟩⟩; all_goals (first | rfl | (simp (disch := omega) only [putD_setd, putD_setw, putD_setp, putD_takeN, putD_take]; done) | (simp (disch := omega) only [putD_setd, putD_setw, putD_setp, putD_takeN, putD_take]; rfl) | skip)
    · have hm5 : decide (b = bl[i]) = false := by simp [hs]
      clear hs
      have fin : ∀ (q : Nat) (l : Sto), cutS p = q → List.take sto.length (List.set (putD sto k ⟨bl, delK pd i, wn, off, lf⟩) k (Ent.arr (some (74, 64)) true bl.length (List.take (i * 64) (flatB bl) ++ (List.take q (u8s b) ++ List.drop (i * 64 + q) (flatB bl)))) ++ l) = putD sto k ⟨bl.set i (tearS bl[i] b p), delK pd i, wn, off, lf⟩ := by
        intro q l hq
        have h64 := cutS_le p
        rw [hq] at h64
        rw [← List.append_assoc, put q h64, tearS, hq, putD_setb (hset _)]
        exact putD_take
      clear put hset same
      have hm4 : True := trivial
      have pc : p < 0 ∨ p > 64 ∨ (0 ≤ p ∧ p ≤ 64) := by omega
      rcases pc with h | h | ⟨ha, hc⟩
      · (try refine dsgo ⟨?_⟩)
        refine ⟨by first | exact .inr rfl | exact .inl rfl, .inl ⟨[], _, (by dsimp only [Try.f50]; exact dssv), ?_, ?_⟩⟩
        · rfl
        · exact fin _ _ (by simp [cutS, h])
      · (try refine dsgo ⟨?_⟩)
        refine ⟨by first | exact .inr rfl | exact .inl rfl, .inl ⟨[], _, (by dsimp only [Try.f50]; exact dssv), ?_, ?_⟩⟩
        · rfl
        · exact fin _ _ (by simp [cutS, h]; omega)
      · obtain ⟨p, rfl⟩ := Int.eq_ofNat_of_zero_le ha
        have hc' : p ≤ 64 := by omega
        by_cases h0 : p = 0
        · subst h0
          (try refine dsgo ⟨?_⟩)
          refine ⟨by first | exact .inr rfl | exact .inl rfl, .inl ⟨[], _, (by dsimp only [Try.f50]; exact dssv), ?_, ?_⟩⟩
          · rfl
          · exact fin _ _ (by simp [cutS])
        · by_cases h6 : p = 64
          · subst h6
            (try refine dsgo ⟨?_⟩)
            refine ⟨by first | exact .inr rfl | exact .inl rfl, .inl ⟨[], _, (by dsimp only [Try.f50]; exact dssv), ?_, ?_⟩⟩
            · rfl
            · have h9 := fin 64 [Ent.cells (List.map _root_.Go.Proofs.Ytghdanpigohnjaa.D.v (u8s b))] (by decide)
              rw [take_u8 hb] at h9
              exact h9
          · (try refine dsgo ⟨?_⟩)
            refine ⟨by first | exact .inr rfl | exact .inl rfl, .inl ⟨[], _, (by dsimp only [Try.f50]; exact dssv), ?_, ?_⟩⟩
            · rfl
            · exact fin _ _ (by unfold cutS; rw [if_neg (by omega), if_neg (by omega)]; rfl)
end Go.Proofs.Ytghdanpigohnjaa
namespace Go.Proofs.Ytghdanpigohnjaa
open Go Go.RowKit

attribute [local irreducible] EvOps EvC
attribute [local go_sem] List.getElem?_toArray List.flatten_cons List.flatten_nil List.contains_nil List.append_nil List.nil_append List.length_set Bool.and_self implies_true eq_self Nat.zero_mul Nat.add_zero Nat.zero_add Nat.sub_zero List.take_zero List.drop_zero List.drop_replicate Nat.sub_self List.replicate_zero List.map_nil List.map_append List.length_replicate
attribute [local go_sem] bytesV_bs strV_u8s bs_size u8s_len bs_extract bs_append bs_beq bs_nil bs_nil2
attribute [local go_sem] putD_len putD_b putD_p putD_w putD_d putD_app putD_put putD_get0 putD_get putD_set0 putD_set putD_take putD_takeN putD_setd putD_setw putD_setp getLD setLD
set_option linter.unusedSimpArgs false
set_option linter.unusedVariables false
set_option maxRecDepth 100000
set_option maxHeartbeats 4000000
attribute [local go_sem] take_u8 take_u8v drop_u8v len_u8v viewL_mv eqVs_u8s zsV_Z64 Z64_len Nat.min_self Nat.min_eq_right

theorem drgo {p q : Prop} (k : Later q) (h : Later q → p := by (intro k; (first | with_reducible (first | refine c_seq ?_ | refine c_block ?_ | refine c_region ?_ | refine c_skip ?_ | refine c_exit ?_ | refine c_ret ?_ | refine then_normal ?_ | refine then_exit ?_ | refine then_ret ?_ | refine block_normal ?_ | refine block_here ?_ | refine block_ret ?_ | refine block_far (by decide) ?_ | refine ops_nil ?_ | refine c_cond_t rfl ?_ | refine c_cond_f rfl ?_) | ((with_reducible apply ops_pure); rfl; (simp (disch := (first | omega | assumption | ((repeat' with_reducible apply And.intro) <;> first | omega | assumption | rfl | (apply Or.inl; rfl) | (apply Or.inr; first | rfl | trivial | fail) | fail) | fail)) only [go_sem, if_pos, if_neg, wrapI, wrapU, decide_eq_true, decide_eq_false, beqT, beqF, bneT, bneF, hm, hm2, hm3] <;> rfl); simp only [go_sem]) | ((with_reducible apply ops_pureF); rfl; (intro _; simp (disch := (first | omega | assumption | ((repeat' with_reducible apply And.intro) <;> first | omega | assumption | rfl | (apply Or.inl; rfl) | (apply Or.inr; first | rfl | trivial | fail) | fail) | fail)) only [go_sem, if_pos, if_neg, wrapI, wrapU, decide_eq_true, decide_eq_false, beqT, beqF, bneT, bneF, hm, hm2, hm3] <;> rfl); simp only [go_sem]) | ((with_reducible apply ops_pureD); kernel_rfl; rfl; (simp (disch := (first | omega | assumption | ((repeat' with_reducible apply And.intro) <;> first | omega | assumption | rfl | (apply Or.inl; rfl) | (apply Or.inr; first | rfl | trivial | fail) | fail) | fail)) only [go_sem, if_pos, if_neg, wrapI, wrapU, decide_eq_true, decide_eq_false, beqT, beqF, bneT, bneF, hm, hm2, hm3] <;> rfl); simp only [go_sem]) | ((with_reducible apply ops_skip); rfl; simp only [go_sem]) | ((with_reducible apply c_regionD); kernel_rfl) | ((first | ((with_reducible apply ops_eff); decide) | (with_reducible apply ops_lit)); rfl; (simp (disch := (first | omega | assumption | ((repeat' with_reducible apply And.intro) <;> first | omega | assumption | rfl | (apply Or.inl; rfl) | (apply Or.inr; first | rfl | trivial | fail) | fail) | fail)) only [go_sem, if_pos, if_neg, wrapI, wrapU, decide_eq_true, decide_eq_false, beqT, beqF, bneT, bneF, hm, hm2, hm3] <;> rfl); simp only [go_sem])); (repeat (first | with_reducible (first | refine c_seq ?_ | refine c_block ?_ | refine c_region ?_ | refine c_skip ?_ | refine c_exit ?_ | refine c_ret ?_ | refine then_normal ?_ | refine then_exit ?_ | refine then_ret ?_ | refine block_normal ?_ | refine block_here ?_ | refine block_ret ?_ | refine block_far (by decide) ?_ | refine ops_nil ?_ | refine c_cond_t rfl ?_ | refine c_cond_f rfl ?_) | ((with_reducible apply ops_pure); rfl; (simp (disch := (first | omega | assumption | ((repeat' with_reducible apply And.intro) <;> first | omega | assumption | rfl | (apply Or.inl; rfl) | (apply Or.inr; first | rfl | trivial | fail) | fail) | fail)) only [go_sem, if_pos, if_neg, wrapI, wrapU, decide_eq_true, decide_eq_false, beqT, beqF, bneT, bneF, hm, hm2, hm3] <;> rfl); simp only [go_sem]) | ((with_reducible apply ops_pureF); rfl; (intro _; simp (disch := (first | omega | assumption | ((repeat' with_reducible apply And.intro) <;> first | omega | assumption | rfl | (apply Or.inl; rfl) | (apply Or.inr; first | rfl | trivial | fail) | fail) | fail)) only [go_sem, if_pos, if_neg, wrapI, wrapU, decide_eq_true, decide_eq_false, beqT, beqF, bneT, bneF, hm, hm2, hm3] <;> rfl); simp only [go_sem]) | ((with_reducible apply ops_pureD); kernel_rfl; rfl; (simp (disch := (first | omega | assumption | ((repeat' with_reducible apply And.intro) <;> first | omega | assumption | rfl | (apply Or.inl; rfl) | (apply Or.inr; first | rfl | trivial | fail) | fail) | fail)) only [go_sem, if_pos, if_neg, wrapI, wrapU, decide_eq_true, decide_eq_false, beqT, beqF, bneT, bneF, hm, hm2, hm3] <;> rfl); simp only [go_sem]) | ((with_reducible apply ops_skip); rfl; simp only [go_sem]) | ((with_reducible apply c_regionD); kernel_rfl) | ((first | ((with_reducible apply ops_eff); decide) | (with_reducible apply ops_lit)); rfl; (simp (disch := (first | omega | assumption | ((repeat' with_reducible apply And.intro) <;> first | omega | assumption | rfl | (apply Or.inl; rfl) | (apply Or.inr; first | rfl | trivial | fail) | fail) | fail)) only [go_sem, if_pos, if_neg, wrapI, wrapU, decide_eq_true, decide_eq_false, beqT, beqF, bneT, bneF, hm, hm2, hm3] <;> rfl); simp only [go_sem]))); exact k.get)) : p := h k
theorem drgoL {p q : Prop} (k : Later q) (h : Later q → p := by (intro k; (first | with_reducible (first | refine c_seq ?_ | refine c_block ?_ | refine c_region ?_ | refine c_skip ?_ | refine c_exit ?_ | refine c_ret ?_ | refine then_normal ?_ | refine then_exit ?_ | refine then_ret ?_ | refine block_normal ?_ | refine block_here ?_ | refine block_ret ?_ | refine block_far (by decide) ?_ | refine ops_nil ?_ | refine c_cond_t rfl ?_ | refine c_cond_f rfl ?_) | ((with_reducible apply ops_lit); rfl; (simp (disch := (first | omega | assumption | ((repeat' with_reducible apply And.intro) <;> first | omega | assumption | rfl | (apply Or.inl; rfl) | (apply Or.inr; first | rfl | trivial | fail) | fail) | fail)) only [go_sem, if_pos, if_neg, wrapI, wrapU, decide_eq_true, decide_eq_false, beqT, beqF, bneT, bneF, hm, hm2, hm3] <;> rfl); simp only [go_sem]) | ((with_reducible apply ops_pure); rfl; (simp (disch := (first | omega | assumption | ((repeat' with_reducible apply And.intro) <;> first | omega | assumption | rfl | (apply Or.inl; rfl) | (apply Or.inr; first | rfl | trivial | fail) | fail) | fail)) only [go_sem, if_pos, if_neg, wrapI, wrapU, decide_eq_true, decide_eq_false, beqT, beqF, bneT, bneF, hm, hm2, hm3] <;> rfl); simp only [go_sem]) | ((with_reducible apply ops_pureF); rfl; (intro _; simp (disch := (first | omega | assumption | ((repeat' with_reducible apply And.intro) <;> first | omega | assumption | rfl | (apply Or.inl; rfl) | (apply Or.inr; first | rfl | trivial | fail) | fail) | fail)) only [go_sem, if_pos, if_neg, wrapI, wrapU, decide_eq_true, decide_eq_false, beqT, beqF, bneT, bneF, hm, hm2, hm3] <;> rfl); simp only [go_sem]) | ((with_reducible apply ops_pureD); kernel_rfl; rfl; (simp (disch := (first | omega | assumption | ((repeat' with_reducible apply And.intro) <;> first | omega | assumption | rfl | (apply Or.inl; rfl) | (apply Or.inr; first | rfl | trivial | fail) | fail) | fail)) only [go_sem, if_pos, if_neg, wrapI, wrapU, decide_eq_true, decide_eq_false, beqT, beqF, bneT, bneF, hm, hm2, hm3] <;> rfl); simp only [go_sem]) | ((with_reducible apply ops_skip); rfl; simp only [go_sem]) | ((with_reducible apply c_regionD); kernel_rfl) | ((first | ((with_reducible apply ops_eff); decide) | (with_reducible apply ops_lit)); rfl; (simp (disch := (first | omega | assumption | ((repeat' with_reducible apply And.intro) <;> first | omega | assumption | rfl | (apply Or.inl; rfl) | (apply Or.inr; first | rfl | trivial | fail) | fail) | fail)) only [go_sem, if_pos, if_neg, wrapI, wrapU, decide_eq_true, decide_eq_false, beqT, beqF, bneT, bneF, hm, hm2, hm3] <;> rfl); simp only [go_sem])); (repeat (first | with_reducible (first | refine c_seq ?_ | refine c_block ?_ | refine c_region ?_ | refine c_skip ?_ | refine c_exit ?_ | refine c_ret ?_ | refine then_normal ?_ | refine then_exit ?_ | refine then_ret ?_ | refine block_normal ?_ | refine block_here ?_ | refine block_ret ?_ | refine block_far (by decide) ?_ | refine ops_nil ?_ | refine c_cond_t rfl ?_ | refine c_cond_f rfl ?_) | ((with_reducible apply ops_lit); rfl; (simp (disch := (first | omega | assumption | ((repeat' with_reducible apply And.intro) <;> first | omega | assumption | rfl | (apply Or.inl; rfl) | (apply Or.inr; first | rfl | trivial | fail) | fail) | fail)) only [go_sem, if_pos, if_neg, wrapI, wrapU, decide_eq_true, decide_eq_false, beqT, beqF, bneT, bneF, hm, hm2, hm3] <;> rfl); simp only [go_sem]) | ((with_reducible apply ops_pure); rfl; (simp (disch := (first | omega | assumption | ((repeat' with_reducible apply And.intro) <;> first | omega | assumption | rfl | (apply Or.inl; rfl) | (apply Or.inr; first | rfl | trivial | fail) | fail) | fail)) only [go_sem, if_pos, if_neg, wrapI, wrapU, decide_eq_true, decide_eq_false, beqT, beqF, bneT, bneF, hm, hm2, hm3] <;> rfl); simp only [go_sem]) | ((with_reducible apply ops_pureF); rfl; (intro _; simp (disch := (first | omega | assumption | ((repeat' with_reducible apply And.intro) <;> first | omega | assumption | rfl | (apply Or.inl; rfl) | (apply Or.inr; first | rfl | trivial | fail) | fail) | fail)) only [go_sem, if_pos, if_neg, wrapI, wrapU, decide_eq_true, decide_eq_false, beqT, beqF, bneT, bneF, hm, hm2, hm3] <;> rfl); simp only [go_sem]) | ((with_reducible apply ops_pureD); kernel_rfl; rfl; (simp (disch := (first | omega | assumption | ((repeat' with_reducible apply And.intro) <;> first | omega | assumption | rfl | (apply Or.inl; rfl) | (apply Or.inr; first | rfl | trivial | fail) | fail) | fail)) only [go_sem, if_pos, if_neg, wrapI, wrapU, decide_eq_true, decide_eq_false, beqT, beqF, bneT, bneF, hm, hm2, hm3] <;> rfl); simp only [go_sem]) | ((with_reducible apply ops_skip); rfl; simp only [go_sem]) | ((with_reducible apply c_regionD); kernel_rfl) | ((first | ((with_reducible apply ops_eff); decide) | (with_reducible apply ops_lit)); rfl; (simp (disch := (first | omega | assumption | ((repeat' with_reducible apply And.intro) <;> first | omega | assumption | rfl | (apply Or.inl; rfl) | (apply Or.inr; first | rfl | trivial | fail) | fail) | fail)) only [go_sem, if_pos, if_neg, wrapI, wrapU, decide_eq_true, decide_eq_false, beqT, beqF, bneT, bneF, hm, hm2, hm3] <;> rfl); simp only [go_sem]))); exact k.get)) : p := h k
theorem drgoX {p q : Prop} (k : Later q) (h : Later q → p := by (intro k; (first | with_reducible (first | refine c_seq ?_ | refine c_block ?_ | refine c_skip ?_ | refine c_exit ?_ | refine c_ret ?_ | refine then_normal ?_ | refine then_exit ?_ | refine then_ret ?_ | refine block_normal ?_ | refine block_here ?_ | refine block_ret ?_ | refine block_far (by decide) ?_ | refine ops_nil ?_ | refine c_cond_t rfl ?_ | refine c_cond_f rfl ?_) | ((with_reducible apply ops_pure); rfl; (simp (disch := (first | omega | assumption | ((repeat' with_reducible apply And.intro) <;> first | omega | assumption | rfl | (apply Or.inl; rfl) | (apply Or.inr; first | rfl | trivial | fail) | fail) | fail)) only [go_sem, if_pos, if_neg, wrapI, wrapU, decide_eq_true, decide_eq_false, beqT, beqF, bneT, bneF, hm, hm2, hm3] <;> rfl); simp only [go_sem]) | ((with_reducible apply ops_pureF); rfl; (intro _; simp (disch := (first | omega | assumption | ((repeat' with_reducible apply And.intro) <;> first | omega | assumption | rfl | (apply Or.inl; rfl) | (apply Or.inr; first | rfl | trivial | fail) | fail) | fail)) only [go_sem, if_pos, if_neg, wrapI, wrapU, decide_eq_true, decide_eq_false, beqT, beqF, bneT, bneF, hm, hm2, hm3] <;> rfl); simp only [go_sem]) | ((with_reducible apply ops_pureD); kernel_rfl; rfl; (simp (disch := (first | omega | assumption | ((repeat' with_reducible apply And.intro) <;> first | omega | assumption | rfl | (apply Or.inl; rfl) | (apply Or.inr; first | rfl | trivial | fail) | fail) | fail)) only [go_sem, if_pos, if_neg, wrapI, wrapU, decide_eq_true, decide_eq_false, beqT, beqF, bneT, bneF, hm, hm2, hm3] <;> rfl); simp only [go_sem]) | ((with_reducible apply ops_skip); rfl; simp only [go_sem]) | ((with_reducible apply c_regionD); kernel_rfl) | ((first | ((with_reducible apply ops_eff); decide) | (with_reducible apply ops_lit)); rfl; (simp (disch := (first | omega | assumption | ((repeat' with_reducible apply And.intro) <;> first | omega | assumption | rfl | (apply Or.inl; rfl) | (apply Or.inr; first | rfl | trivial | fail) | fail) | fail)) only [go_sem, if_pos, if_neg, wrapI, wrapU, decide_eq_true, decide_eq_false, beqT, beqF, bneT, bneF, hm, hm2, hm3] <;> rfl); simp only [go_sem])); (repeat (first | with_reducible (first | refine c_seq ?_ | refine c_block ?_ | refine c_skip ?_ | refine c_exit ?_ | refine c_ret ?_ | refine then_normal ?_ | refine then_exit ?_ | refine then_ret ?_ | refine block_normal ?_ | refine block_here ?_ | refine block_ret ?_ | refine block_far (by decide) ?_ | refine ops_nil ?_ | refine c_cond_t rfl ?_ | refine c_cond_f rfl ?_) | ((with_reducible apply ops_pure); rfl; (simp (disch := (first | omega | assumption | ((repeat' with_reducible apply And.intro) <;> first | omega | assumption | rfl | (apply Or.inl; rfl) | (apply Or.inr; first | rfl | trivial | fail) | fail) | fail)) only [go_sem, if_pos, if_neg, wrapI, wrapU, decide_eq_true, decide_eq_false, beqT, beqF, bneT, bneF, hm, hm2, hm3] <;> rfl); simp only [go_sem]) | ((with_reducible apply ops_pureF); rfl; (intro _; simp (disch := (first | omega | assumption | ((repeat' with_reducible apply And.intro) <;> first | omega | assumption | rfl | (apply Or.inl; rfl) | (apply Or.inr; first | rfl | trivial | fail) | fail) | fail)) only [go_sem, if_pos, if_neg, wrapI, wrapU, decide_eq_true, decide_eq_false, beqT, beqF, bneT, bneF, hm, hm2, hm3] <;> rfl); simp only [go_sem]) | ((with_reducible apply ops_pureD); kernel_rfl; rfl; (simp (disch := (first | omega | assumption | ((repeat' with_reducible apply And.intro) <;> first | omega | assumption | rfl | (apply Or.inl; rfl) | (apply Or.inr; first | rfl | trivial | fail) | fail) | fail)) only [go_sem, if_pos, if_neg, wrapI, wrapU, decide_eq_true, decide_eq_false, beqT, beqF, bneT, bneF, hm, hm2, hm3] <;> rfl); simp only [go_sem]) | ((with_reducible apply ops_skip); rfl; simp only [go_sem]) | ((with_reducible apply c_regionD); kernel_rfl) | ((first | ((with_reducible apply ops_eff); decide) | (with_reducible apply ops_lit)); rfl; (simp (disch := (first | omega | assumption | ((repeat' with_reducible apply And.intro) <;> first | omega | assumption | rfl | (apply Or.inl; rfl) | (apply Or.inr; first | rfl | trivial | fail) | fail) | fail)) only [go_sem, if_pos, if_neg, wrapI, wrapU, decide_eq_true, decide_eq_false, beqT, beqF, bneT, bneF, hm, hm2, hm3] <;> rfl); simp only [go_sem]))); exact k.get)) : p := h k
theorem drsv {p : Prop} (h : p := by simp (disch := (first | omega | assumption | ((repeat' with_reducible apply And.intro) <;> first | omega | assumption | rfl | (apply Or.inl; rfl) | (apply Or.inr; first | rfl | trivial | fail) | fail) | fail)) only [go_sem, if_pos, if_neg, wrapI, wrapU, decide_eq_true, decide_eq_false, beqT, beqF, bneT, bneF, hm, hm2, hm3] <;> rfl) : p := h
theorem drcall {T : Tab} {X : CallP} {n0 lo : Nat} {wt : List Tmp} {draw : Bool} {ops : Array Oper} {Q : St → Prop} {rest : List Oper} {o : Oper} {env : List D} {sto : Sto} {f : FuncId} {args : List D} (k : ∃ r, X f args sto (if draw then sto.length else lo) r sto ∧ EvOps T X n0 lo wt draw ops Q rest (St.put ⟨env, sto⟩ o.dst r)) (hg : guardD ops o env = some true := by rfl) (h : evCallee (opd env) sto o = some (f, args) := by simp (disch := (first | omega | assumption | ((repeat' with_reducible apply And.intro) <;> first | omega | assumption | rfl | (apply Or.inl; rfl) | (apply Or.inr; first | rfl | trivial | fail) | fail) | fail)) only [go_sem, if_pos, if_neg, wrapI, wrapU, decide_eq_true, decide_eq_false, beqT, beqF, bneT, bneF, hm, hm2, hm3] <;> rfl) : EvOps T X n0 lo wt draw ops Q (o :: rest) ⟨env, sto⟩ := k.elim fun _ k => ops_call hg h k.1 k.2
def newD (n : Nat) : DK := ⟨List.replicate n Z64, [], [], false, -1⟩
theorem new_ok {n : Nat} (h0 : 0 < n) (h : n ≤ 4096) : (newD n).ok := by
  refine ⟨fun b hb => ?_, by simp [newD], by simp [newD], by simp [newD], by simp [newD], by simpa [newD] using h, by simpa [newD] using h0, by simp [newD, Big]⟩
  rw [(List.mem_replicate.1 hb).2, Z64_len]
/-- A new disk's entries. -/
def newE (k : Nat) (D : DK) : Sto := [eB D, eP D, eW D, eD k D]
theorem newE_put {sto : Sto} {D : DK} : sto ++ newE sto.length D = putD (sto ++ newE sto.length D) sto.length D := by
  refine (putD_same ⟨?_, ?_, ?_, ?_⟩).symm
  · rw [List.getElem?_append_right (by omega), Nat.sub_self]; rfl
  · rw [List.getElem?_append_right (by omega), Nat.add_sub_cancel_left]; rfl
  · rw [List.getElem?_append_right (by omega), Nat.add_sub_cancel_left]; rfl
  · rw [List.getElem?_append_right (by omega), Nat.add_sub_cancel_left]; rfl
theorem flatB_rep (n : Nat) : flatB (List.replicate n Z64) = repl n (u8s Z64) := by simp [flatB, repl]
theorem new_bad (n : Int) (h : n < 1 ∨ n > 4096) (sto : Sto) (lo : Nat) (hlo : lo ≤ sto.length) : CD 13 [.v (VI n)] sto lo (.tupD [.nilp, .v (VI 1)]) sto := by
  have hm : True := trivial
  have hm2 := hm
  have hm3 := hm
  refine CallEv.intro ⟨_, _, [], Try.func13, rfl, by decide, ?_⟩; simp only [go_sem, Try.ntmps13]
  by_cases h1 : n < 1
  · (try refine drgo ⟨?_⟩)
    refine ⟨by first | exact .inr rfl | exact .inl rfl, .inr (.inr (.inr ⟨_, (by dsimp only [Try.f13]; exact drsv), ?_, ?_⟩))⟩
    · rfl
    · rfl
  · have h2 : n > 4096 := by omega
    (try refine drgo ⟨?_⟩)
    refine ⟨by first | exact .inr rfl | exact .inl rfl, .inr (.inr (.inr ⟨_, (by dsimp only [Try.f13]; exact drsv), ?_, ?_⟩))⟩
    · rfl
    · rfl
theorem new_ev (n : Nat) (h0 : 0 < n) (h : n ≤ 4096) (sto : Sto) (lo : Nat) (hlo : lo ≤ sto.length) : CD 13 [.v (VI n)] sto lo (.tupD [.ptr (sto.length + 3) 0, .v (VI 0)]) (sto ++ newE sto.length (newD n)) := by
  have hm : True := trivial
  have hm2 := hm
  have hm3 := hm
  refine CallEv.intro ⟨_, _, [11], Try.func13, rfl, by decide, ?_⟩; simp only [go_sem, Try.ntmps13]
  (try refine drgo ⟨?_⟩)
  refine ⟨by first | exact .inr rfl | exact .inl rfl, .inr (.inr (.inr ⟨_, (by dsimp only [Try.f13]; exact drsv), ?_, ?_⟩))⟩
  · rfl
  · simp only [newE, newD, eB, eP, eW, eD, List.length_replicate, flatB_rep, repl]
    rfl
def rotB (b : By) (bit : Nat) : By := b.set (bit / 8) (b[bit / 8]! ^^^ (1 <<< UInt8.ofNat (bit % 8)))
def rotS (D : DK) (i bit : Int) : DK × Int := if i < 0 ∨ i ≥ D.bl.length ∨ bit < 0 ∨ bit ≥ 512 then (D, 1) else ({ D with bl := D.bl.set i.toNat (rotB (D.bl.getD i.toNat []) bit.toNat) }, 0)
theorem rot_val0 : ∀ (n : Fin 256) (c : Fin 8), xorI .u8 (n.val : Int) (IntKind.u8.wrap (1 * 2 ^ (min c.val 8))) = ((UInt8.ofNat n.val ^^^ (1 <<< UInt8.ofNat c.val)).toNat : Int) := by decide +kernel
theorem rot_val (x : UInt8) (c : Nat) (hc : c < 8) : xorI .u8 (x.toNat : Int) (IntKind.u8.wrap (1 * 2 ^ (min c 8))) = ((x ^^^ (1 <<< UInt8.ofNat c)).toNat : Int) := by
  have := rot_val0 ⟨x.toNat, x.toNat_lt⟩ ⟨c, hc⟩
  simpa using this
theorem tdiv8 (a : Nat) : (a : Int).tdiv 8 = ((a / 8 : Nat) : Int) := by rw [Int.tdiv_eq_ediv_of_nonneg (by omega)]; omega
theorem tmod8 (a : Nat) : (a : Int).tmod 8 = ((a % 8 : Nat) : Int) := by rw [Int.tmod_eq_emod_of_nonneg (by omega)]; omega
attribute [local go_sem] tdiv8 tmod8
theorem rot_ev (D : DK) (hD : D.ok) (i bit : Int) (hb : Big bit) (k : Nat) : DiskW 18 [.ptr (k + 3) 0, .v (VI i), .v (VI bit)] k D (.v (VI (rotS D i bit).2)) (rotS D i bit).1 := by
  have hfl := flatB_len hD
  have hm : True := trivial
  have hm2 := hm
  have hm3 := hm
  intro sto lo hlt hlo; refine CallEv.intro ⟨_, _, [], Try.func18, rfl, by decide, ?_⟩; simp only [go_sem, Try.ntmps18]
  by_cases h1 : i < 0
  · rw [show rotS D i bit = (D, 1) by simp [rotS, h1]]
    (try refine drgo ⟨?_⟩)
    refine ⟨by first | exact .inr rfl | exact .inl rfl, .inl ⟨[], _, (by dsimp only [Try.f18]; exact drsv), ?_, ?_⟩⟩; all_goals (first | rfl | (simp (disch := omega) only [putD_setd, putD_setw, putD_setp, putD_takeN, putD_take]; done) | (simp (disch := omega) only [putD_setd, putD_setw, putD_setp, putD_takeN, putD_take]; rfl) | skip)
  by_cases h2 : i ≥ D.bl.length
  · rw [show rotS D i bit = (D, 1) by simp [rotS, h2]]
    (try refine drgo ⟨?_⟩)
    refine ⟨by first | exact .inr rfl | exact .inl rfl, .inl ⟨[], _, (by dsimp only [Try.f18]; exact drsv), ?_, ?_⟩⟩; all_goals (first | rfl | (simp (disch := omega) only [putD_setd, putD_setw, putD_setp, putD_takeN, putD_take]; done) | (simp (disch := omega) only [putD_setd, putD_setw, putD_setp, putD_takeN, putD_take]; rfl) | skip)
  by_cases h3 : bit < 0
  · rw [show rotS D i bit = (D, 1) by simp [rotS, h3]]
    (try refine drgo ⟨?_⟩)
    refine ⟨by first | exact .inr rfl | exact .inl rfl, .inl ⟨[], _, (by dsimp only [Try.f18]; exact drsv), ?_, ?_⟩⟩; all_goals (first | rfl | (simp (disch := omega) only [putD_setd, putD_setw, putD_setp, putD_takeN, putD_take]; done) | (simp (disch := omega) only [putD_setd, putD_setw, putD_setp, putD_takeN, putD_take]; rfl) | skip)
  by_cases h4 : bit ≥ 512
  · rw [show rotS D i bit = (D, 1) by simp [rotS, h4]]
    (try refine drgo ⟨?_⟩)
    refine ⟨by first | exact .inr rfl | exact .inl rfl, .inl ⟨[], _, (by dsimp only [Try.f18]; exact drsv), ?_, ?_⟩⟩; all_goals (first | rfl | (simp (disch := omega) only [putD_setd, putD_setw, putD_setp, putD_takeN, putD_take]; done) | (simp (disch := omega) only [putD_setd, putD_setw, putD_setp, putD_takeN, putD_take]; rfl) | skip)
  rw [show rotS D i bit = ({ D with bl := D.bl.set i.toNat (rotB (D.bl.getD i.toNat []) bit.toNat) }, 0) by simp [rotS, h1, h2, h3, h4]]
  obtain ⟨i, rfl⟩ := Int.eq_ofNat_of_zero_le (by omega : 0 ≤ i)
  obtain ⟨bit, rfl⟩ := Int.eq_ofNat_of_zero_le (by omega : 0 ≤ bit)
  have h4' : i < D.bl.length := by omega
  have h5 : bit / 8 < 64 := by omega
  have hm : (flatB D.bl)[i * 64 + bit / 8]? = some (.int .u8 ((D.bl[i])[bit / 8]!).toNat) := flatB_get1 hD h4' h5
  have h9 := flatB_put hD h4' (j := bit / 8) [D.bl[i][bit / 8]! ^^^ (1 <<< UInt8.ofNat (bit % 8))] (by simp; omega)
  have hbl := hD.1 _ (List.getElem_mem h4')
  have h10 : D.bl[i].take (bit / 8) ++ [D.bl[i][bit / 8]! ^^^ (1 <<< UInt8.ofNat (bit % 8))] ++ D.bl[i].drop (bit / 8 + 1) = rotB (D.bl.getD i []) bit := by
    simp only [rotB, List.getD, List.getElem?_eq_getElem h4', Option.getD_some]
    rw [List.set_eq_take_append_cons_drop, if_pos (by omega)]
    simp
  simp only [List.length_cons, List.length_nil, Nat.zero_add] at h9
  rw [h10] at h9
  have hv := rot_val (D.bl[i][bit / 8]!) (bit % 8) (by omega)
  have e1 : u8s [D.bl[i][bit / 8]! ^^^ (1 <<< UInt8.ofNat (bit % 8))] = [.int .u8 (xorI IntKind.u8 (↑D.bl[i][bit / 8]!.toNat) (IntKind.u8.wrap (1 * 2 ^ min (bit % 8) 8)))] := by rw [hv]; rfl
  rw [e1] at h9
  clear hv h10 e1
  obtain ⟨bl, pd, wn, off, lf⟩ := D
  simp only at *
  (try refine drgo ⟨?_⟩)
  refine ⟨by first | exact .inr rfl | exact .inl rfl, .inl ⟨[], _, (by dsimp only [Try.f18]; exact drsv), ?_, ?_⟩⟩
  · rfl
  · have h11 : (bl.set i (rotB (bl.getD i []) bit)).length = bl.length := by simp
    rw [← putD_setb (pd := pd) (wn := wn) (off := off) (lf := lf) (sto := sto) (k := k) h11, ← h9]
    simp only [List.append_assoc, List.cons_append, List.nil_append]
    exact List.take_of_length_le (by simp [putD_len])
def strF (b : By) : V := .str (bs b)
def imgL (bl : List By) (i : Nat) : List By := bl.take i ++ List.replicate (bl.length - i) []
theorem imgL_len {bl : List By} {i : Nat} (h : i ≤ bl.length) : (imgL bl i).length = bl.length := by simp [imgL]; omega
theorem imgL_set {bl : List By} {i : Nat} (h : i < bl.length) : (imgL bl i).set i bl[i] = imgL bl (i + 1) := by
  rw [imgL, imgL, List.set_append_right _ _ (by simp; omega), List.length_take, Nat.min_eq_left (by omega), Nat.sub_self, show bl.length - i = (bl.length - (i + 1)) + 1 by omega, List.replicate_succ, List.set_cons_zero, List.take_succ_eq_append_getElem h, List.append_assoc]
  rfl
theorem imgL_end (bl : List By) : imgL bl bl.length = bl := by simp [imgL]
theorem img_rep (n : Nat) : (List.replicate n [V.str (bs [])]).flatten = (List.replicate n ([] : By)).map strF := by
  induction n with
  | zero => rfl
  | succ n ih => rw [List.replicate_succ, List.replicate_succ, List.flatten_cons, ih]; rfl
abbrev LB (l : List By) : V := SL strF l
theorem image_ev (D : DK) (hD : D.ok) (k : Nat) : DiskR 14 [.ptr (k + 3) 0] k D (.v (LB D.bl)) := by
  have hfl := flatB_len hD
  have hn : D.bl.length ≤ 4096 := hD.2.2.2.2.2.1
  have hbb := hD.1
  have hg := fun i hi => flatB_get hD (i := i) hi
  clear hD
  have hm : True := trivial
  have hm2 := hm
  have hm3 := hm
  intro sto lo hlt hlo; refine CallEv.intro ⟨_, _, [10], Try.func14, rfl, by decide, ?_⟩; simp only [go_sem, Try.ntmps14]
  (try refine drgo ⟨?_⟩)
  rw [img_rep, show List.replicate D.bl.length ([] : By) = imgL D.bl 0 by simp [imgL]]
  refine c_loop (fun m s => ∃ (i : Nat), (i ≤ D.bl.length ∧ m = D.bl.length - i) ∧ (s.env.length = 32 ∧ s.sto = putD sto k D ++ [.arr (some (9, 1)) true D.bl.length ((imgL D.bl i).map strF)] ∧ s.env[0]? = some (.ptr (k + 3) 0) ∧ s.env[2]? = some (.nilS) ∧ s.env[3]? = some (.arr sto.length D.bl.length) ∧ s.env[15]? = some (.v (VI D.bl.length)) ∧ s.env[16]? = some (.v (VI i)))) (.refl _) ⟨0, ⟨by omega, rfl⟩, rfl, rfl, ?_, ?_, ?_, ?_, ?_⟩ ?_
  all_goals first | rfl | skip
  rintro m s ⟨i, ⟨h1, rfl⟩, hL, hT, k0, k2, k3, k15, k16⟩
  obtain ⟨env, st0⟩ := s; obtain ⟨J, hJ⟩ := listJ hL; rw [show (List.range 32).map J = J 0 :: J 1 :: J 2 :: J 3 :: J 4 :: J 5 :: J 6 :: J 7 :: J 8 :: J 9 :: J 10 :: J 11 :: J 12 :: J 13 :: J 14 :: J 15 :: J 16 :: J 17 :: J 18 :: J 19 :: J 20 :: J 21 :: J 22 :: J 23 :: J 24 :: J 25 :: J 26 :: J 27 :: J 28 :: J 29 :: J 30 :: J 31 :: [] from by kernel_rfl] at hJ; replace k0 := Option.some.inj ((congrArg (·[0]?) hJ).symm.trans k0); replace k2 := Option.some.inj ((congrArg (·[2]?) hJ).symm.trans k2); replace k3 := Option.some.inj ((congrArg (·[3]?) hJ).symm.trans k3); replace k15 := Option.some.inj ((congrArg (·[15]?) hJ).symm.trans k15); replace k16 := Option.some.inj ((congrArg (·[16]?) hJ).symm.trans k16); rw [k0, k2, k3, k15, k16] at hJ; dsimp only at hJ hT; subst hJ; replace hT := hT.symm; subst hT; clear hL k0 k2 k3 k15 k16
  by_cases hb : i < D.bl.length
  · have hm := hg i hb
    have hbl := hbb _ (List.getElem_mem hb)
    have hms := mapSet (f := strF) (x := D.bl[i]) (zs := imgL D.bl i) (i := i) (by rw [imgL_len (by omega)]; exact hb)
    rw [imgL_set hb] at hms
    have hm2 : List.take i ((imgL D.bl i).map strF) ++ V.str (bs D.bl[i]) :: List.drop (i + 1) ((imgL D.bl i).map strF) = (imgL D.bl (i + 1)).map strF := hms
    clear hms
    have hil := imgL_len (bl := D.bl) (i := i) (by omega)
    (try refine drgo ⟨?_⟩)
    refine ⟨_, _, ?_, .refl _, i + 1, ⟨by omega, rfl⟩, rfl, rfl, ?_, ?_, ?_, ?_, ?_⟩
    · omega
    all_goals rfl
  · obtain rfl : i = D.bl.length := by omega
    rw [imgL_end]
    (try refine drgo ⟨?_⟩)
    refine ⟨by first | exact .inr rfl | exact .inl rfl, .inl ⟨[sto.length], _, (by dsimp only [Try.f14]; exact drsv), ?_, ?_⟩⟩
    · rfl
    · exact putD_take
end Go.Proofs.Ytghdanpigohnjaa
namespace Go.Proofs.Ytghdanpigohnjaa
open Go Go.RowKit

attribute [local irreducible] EvOps EvC
attribute [local go_sem] List.getElem?_toArray List.flatten_cons List.flatten_nil List.contains_nil List.append_nil List.nil_append List.length_set Bool.and_self implies_true eq_self Nat.zero_mul Nat.add_zero Nat.zero_add Nat.sub_zero List.take_zero List.drop_zero List.drop_replicate Nat.sub_self List.replicate_zero List.map_nil List.map_append List.length_replicate
attribute [local go_sem] bytesV_bs strV_u8s bs_size u8s_len bs_extract bs_append bs_beq bs_nil bs_nil2
attribute [local go_sem] putD_len putD_b putD_p putD_w putD_d putD_app putD_put putD_get0 putD_get putD_set0 putD_set putD_take putD_takeN putD_setd putD_setw putD_setp getLD setLD
set_option linter.unusedSimpArgs false
set_option linter.unusedVariables false
set_option maxRecDepth 100000
set_option maxHeartbeats 4000000
attribute [local go_sem] take_u8 take_u8v drop_u8v len_u8v viewL_mv eqVs_u8s zsV_Z64 Z64_len Nat.min_self Nat.min_eq_right

theorem nodup_len : ∀ (n : Nat) (l : List Int), l.Nodup → (∀ x ∈ l, 0 ≤ x ∧ x < n) → l.length ≤ n
  | 0, [], _, _ => Nat.le_refl _
  | 0, x :: l, _, h => by have := h x (by simp); omega
  | n + 1, l, hn, h => by
    have ih := nodup_len n (l.erase n) (hn.erase _) (fun x hx => by
      have h1 := (hn.mem_erase_iff.1 hx)
      have h2 := h x h1.2
      have : x ≠ (n : Int) := h1.1
      omega)
    rw [List.length_erase] at ih
    split at ih <;> omega
def pendS (D : DK) : List Int := (D.pd.map (·.1)).mergeSort leI
def wornS (D : DK) : List Int := D.wn.mergeSort leI
theorem keys_kvP (D : DK) : keysS (kvP D.pd) = pendS D := by
  simp only [keysS, kvP, pendS, List.map_map]; rfl
theorem keys_kvW (D : DK) : keysS (kvW D.wn) = wornS D := by
  simp only [keysS, kvW, wornS, List.map_map, Function.comp_def, List.map_id']
theorem pd_len {D : DK} (h : D.ok) : D.pd.length ≤ 4096 := by
  have := nodup_len D.bl.length (D.pd.map (·.1)) h.2.2.1 (fun x hx => by
    obtain ⟨p, hp, rfl⟩ := List.mem_map.1 hx
    exact (h.2.1 p hp).2)
  rw [List.length_map] at this
  exact Nat.le_trans this h.2.2.2.2.2.1
theorem wn_len {D : DK} (h : D.ok) : D.wn.length ≤ 4096 := Nat.le_trans (nodup_len D.bl.length D.wn h.2.2.2.2.1 h.2.2.2.1) h.2.2.2.2.2.1
theorem keysB_ev (mid : Nat) (sto : Sto) (lo : Nat) (hlo : lo ≤ sto.length) : CD 48 [.map mid] sto lo (.clo 59 [sto.length]) (sto ++ [.cells [.map mid]]) := by
  refine CallEv.intro ⟨_, _, [], Try.func48, rfl, by decide, ?_⟩; simp only [go_sem, Try.ntmps48]
  (try refine go ⟨?_⟩)
  refine ⟨by first | exact .inr rfl | exact .inl rfl, .inr (.inl ⟨_, rfl, ?_, ?_⟩)⟩
  · rfl
  · rfl
theorem keysW_ev (mid : Nat) (sto : Sto) (lo : Nat) (hlo : lo ≤ sto.length) : CD 49 [.map mid] sto lo (.clo 60 [sto.length]) (sto ++ [.cells [.map mid]]) := by
  refine CallEv.intro ⟨_, _, [], Try.func49, rfl, by decide, ?_⟩; simp only [go_sem, Try.ntmps49]
  (try refine go ⟨?_⟩)
  refine ⟨by first | exact .inr rfl | exact .inl rfl, .inr (.inl ⟨_, rfl, ?_, ?_⟩)⟩
  · rfl
  · rfl
theorem pending_ev (D : DK) (hD : D.ok) (k : Nat) : DiskR 21 [.ptr (k + 3) 0] k D (.v (LI (pendS D))) := by
  have hkl : (kvP D.pd).length = (pendS D).length := by rw [← keys_kvP, keysS_length]
  have hsrt : ∀ (bid mid : Nat) (sto : Sto) (lo : Nat), sto[bid]? = some (.cells [.map mid]) → sto[mid]? = some (.map .i64 (kvP D.pd)) → CD 47 [.clo 59 [bid]] sto lo (.arr sto.length (pendS D).length) (sto ++ [.arr (if (kvP D.pd).length = 0 then none else some (3, 1)) true (pendS D).length ((pendS D).map VI)]) := by
    intro bid mid sto lo h1 h2
    rw [← hkl, ← keys_kvP]
    refine dB_call (.inr (.inl ⟨rfl, bid, mid, _, rfl, h1, h2, by simp [kvP]; have := pd_len hD; omega, fun kv hkv => ?_, rfl, rfl⟩))
    obtain ⟨p, hp, rfl⟩ := List.mem_map.1 hkv
    have := (hD.2.1 p hp).2
    have := hD.2.2.2.2.2.1
    simp only [Big]
    omega
  generalize (if (kvP D.pd).length = 0 then none else some (3, 1) : Option (TypeId × Nat)) = es at hsrt
  clear hkl hD
  intro sto lo hlt hlo; refine CallEv.intro ⟨_, _, [], Try.func21, rfl, by decide, ?_⟩; simp only [go_sem, Try.ntmps21]
  (try refine go ⟨?_⟩)
  ((with_reducible apply ops_callW); rfl; (simp (disch := (first | omega | assumption | ((repeat' with_reducible apply And.intro) <;> first | omega | assumption | rfl | (apply Or.inl; rfl) | (apply Or.inr; first | rfl | trivial | fail) | fail) | fail)) only [go_sem, if_pos, if_neg, wrapI, wrapU, decide_eq_true, decide_eq_false, beqT, beqF, bneT, bneF] <;> rfl); (exact keysB_ev _ _ _ (by rw [putD_len]; omega)); ((try simp only [List.append_assoc]); first | (exact ho_app (by first | omega | (rw [putD_len]; omega) | (simp [putD_len]; done))) | (exact ho_app2 (by first | omega | (rw [putD_len]; omega) | (simp [putD_len]; done)))); (try simp only [go_sem]))
  ((with_reducible apply ops_callW); rfl; (simp (disch := (first | omega | assumption | ((repeat' with_reducible apply And.intro) <;> first | omega | assumption | rfl | (apply Or.inl; rfl) | (apply Or.inr; first | rfl | trivial | fail) | fail) | fail)) only [go_sem, if_pos, if_neg, wrapI, wrapU, decide_eq_true, decide_eq_false, beqT, beqF, bneT, bneF] <;> rfl); (exact hsrt _ (k + 1) _ _ (by simp (disch := (first | omega | assumption | ((repeat' with_reducible apply And.intro) <;> first | omega | assumption | rfl | (apply Or.inl; rfl) | (apply Or.inr; first | rfl | trivial | fail) | fail) | fail)) only [go_sem, if_pos, if_neg, wrapI, wrapU, decide_eq_true, decide_eq_false, beqT, beqF, bneT, bneF] <;> rfl) (by simp (disch := (first | omega | assumption | ((repeat' with_reducible apply And.intro) <;> first | omega | assumption | rfl | (apply Or.inl; rfl) | (apply Or.inr; first | rfl | trivial | fail) | fail) | fail)) only [go_sem, if_pos, if_neg, wrapI, wrapU, decide_eq_true, decide_eq_false, beqT, beqF, bneT, bneF] <;> rfl)); ((try simp only [List.append_assoc]); first | (exact ho_app (by first | omega | (rw [putD_len]; omega) | (simp [putD_len]; done))) | (exact ho_app2 (by first | omega | (rw [putD_len]; omega) | (simp [putD_len]; done)))); (try simp only [go_sem]))
  (try refine go ⟨?_⟩)
  refine ⟨by first | exact .inr rfl | exact .inl rfl, .inl ⟨[sto.length + 1], _, (by dsimp only [Try.f21]; exact sv), ?_, ?_⟩⟩
  · rfl
  · exact putD_take
theorem worn_ev (D : DK) (hD : D.ok) (k : Nat) : DiskR 22 [.ptr (k + 3) 0] k D (.v (LI (wornS D))) := by
  have hkl : (kvW D.wn).length = (wornS D).length := by rw [← keys_kvW, keysS_length]
  have hsrt : ∀ (bid mid : Nat) (sto : Sto) (lo : Nat), sto[bid]? = some (.cells [.map mid]) → sto[mid]? = some (.map .i64 (kvW D.wn)) → CD 47 [.clo 60 [bid]] sto lo (.arr sto.length (wornS D).length) (sto ++ [.arr (if (kvW D.wn).length = 0 then none else some (3, 1)) true (wornS D).length ((wornS D).map VI)]) := by
    intro bid mid sto lo h1 h2
    rw [← hkl, ← keys_kvW]
    refine dB_call (.inl ⟨rfl, bid, mid, _, rfl, h1, h2, by simp [kvW]; have := wn_len hD; omega, fun kv hkv => ?_, rfl, rfl⟩)
    obtain ⟨p, hp, rfl⟩ := List.mem_map.1 hkv
    have := hD.2.2.2.1 p hp
    have := hD.2.2.2.2.2.1
    simp only [Big]
    omega
  generalize (if (kvW D.wn).length = 0 then none else some (3, 1) : Option (TypeId × Nat)) = es at hsrt
  clear hkl hD
  intro sto lo hlt hlo; refine CallEv.intro ⟨_, _, [], Try.func22, rfl, by decide, ?_⟩; simp only [go_sem, Try.ntmps22]
  (try refine go ⟨?_⟩)
  ((with_reducible apply ops_callW); rfl; (simp (disch := (first | omega | assumption | ((repeat' with_reducible apply And.intro) <;> first | omega | assumption | rfl | (apply Or.inl; rfl) | (apply Or.inr; first | rfl | trivial | fail) | fail) | fail)) only [go_sem, if_pos, if_neg, wrapI, wrapU, decide_eq_true, decide_eq_false, beqT, beqF, bneT, bneF] <;> rfl); (exact keysW_ev _ _ _ (by rw [putD_len]; omega)); ((try simp only [List.append_assoc]); first | (exact ho_app (by first | omega | (rw [putD_len]; omega) | (simp [putD_len]; done))) | (exact ho_app2 (by first | omega | (rw [putD_len]; omega) | (simp [putD_len]; done)))); (try simp only [go_sem]))
  ((with_reducible apply ops_callW); rfl; (simp (disch := (first | omega | assumption | ((repeat' with_reducible apply And.intro) <;> first | omega | assumption | rfl | (apply Or.inl; rfl) | (apply Or.inr; first | rfl | trivial | fail) | fail) | fail)) only [go_sem, if_pos, if_neg, wrapI, wrapU, decide_eq_true, decide_eq_false, beqT, beqF, bneT, bneF] <;> rfl); (exact hsrt _ (k + 2) _ _ (by simp (disch := (first | omega | assumption | ((repeat' with_reducible apply And.intro) <;> first | omega | assumption | rfl | (apply Or.inl; rfl) | (apply Or.inr; first | rfl | trivial | fail) | fail) | fail)) only [go_sem, if_pos, if_neg, wrapI, wrapU, decide_eq_true, decide_eq_false, beqT, beqF, bneT, bneF] <;> rfl) (by simp (disch := (first | omega | assumption | ((repeat' with_reducible apply And.intro) <;> first | omega | assumption | rfl | (apply Or.inl; rfl) | (apply Or.inr; first | rfl | trivial | fail) | fail) | fail)) only [go_sem, if_pos, if_neg, wrapI, wrapU, decide_eq_true, decide_eq_false, beqT, beqF, bneT, bneF] <;> rfl)); ((try simp only [List.append_assoc]); first | (exact ho_app (by first | omega | (rw [putD_len]; omega) | (simp [putD_len]; done))) | (exact ho_app2 (by first | omega | (rw [putD_len]; omega) | (simp [putD_len]; done)))); (try simp only [go_sem]))
  (try refine go ⟨?_⟩)
  refine ⟨by first | exact .inr rfl | exact .inl rfl, .inl ⟨[sto.length + 1], _, (by dsimp only [Try.f22]; exact sv), ?_, ?_⟩⟩
  · rfl
  · exact putD_take
end Go.Proofs.Ytghdanpigohnjaa
namespace Go.Proofs.Ytghdanpigohnjaa
open Go
theorem delK_sub : ∀ (l : List (Int × By)) (x : Int), (delK l x).Sublist l
  | [], _ => .slnil
  | (k, c) :: l, x => by
    simp only [delK]
    split
    · exact List.sublist_cons_self _ _
    · exact (delK_sub l x).cons_cons _
theorem getK_del_ne {x y : Int} (h : y ≠ x) : ∀ l : List (Int × By), getK (delK l x) y = getK l y
  | [] => rfl
  | (k, c) :: l => by
    simp only [delK]
    by_cases hx : x = k
    · subst hx
      rw [if_pos rfl]
      simp [getK, h]
    · rw [if_neg hx]
      simp only [getK, getK_del_ne h l]
theorem getK_none : ∀ (l : List (Int × By)) (x : Int), getK l x = none ↔ x ∉ l.map (·.1)
  | [], _ => by simp [getK]
  | (k, c) :: l, x => by
    simp only [getK, List.map_cons, List.mem_cons, not_or]
    by_cases hx : x = k
    · simp [hx]
    · rw [if_neg hx, getK_none l x]; simp [hx]
theorem getK_del_self : ∀ (l : List (Int × By)) (x : Int), (l.map (·.1)).Nodup → getK (delK l x) x = none
  | [], _, _ => rfl
  | (k, c) :: l, x, h => by
    simp only [List.map_cons, List.nodup_cons] at h
    simp only [delK]
    by_cases hx : x = k
    · subst hx
      rw [if_pos rfl, getK_none]; exact h.1
    · rw [if_neg hx]
      simp only [getK, if_neg hx, getK_del_self l x h.2]
theorem getK_put : ∀ (l : List (Int × By)) (x y : Int) (b : By), getK (putK l x b) y = if y = x then some b else getK l y
  | [], x, y, b => by simp [putK, getK]
  | (k, c) :: l, x, y, b => by
    simp only [putK]
    by_cases hx : x = k
    · subst hx
      rw [if_pos rfl]
      simp only [getK]
      by_cases hy : y = x <;> simp [hy]
    · rw [if_neg hx]
      simp only [getK, getK_put l x y b]
      by_cases hy : y = k
      · subst hy; rw [if_pos rfl, if_neg (fun h => hx h.symm), if_pos rfl]
      · rw [if_neg hy, if_neg hy]
theorem putK_keys : ∀ (l : List (Int × By)) (x : Int) (b : By), (putK l x b).map (·.1) = if x ∈ l.map (·.1) then l.map (·.1) else l.map (·.1) ++ [x]
  | [], x, b => by simp [putK]
  | (k, c) :: l, x, b => by
    simp only [putK]
    by_cases hx : x = k
    · subst hx; simp
    · rw [if_neg hx]
      simp only [List.map_cons, putK_keys l x b, List.mem_cons, hx, false_or]
      split <;> simp
theorem putK_mem {l : List (Int × By)} {x : Int} {b : By} {p : Int × By} (h : p ∈ putK l x b) : p = (x, b) ∨ p ∈ l := by
  induction l with
  | nil => simp [putK] at h; exact .inl h
  | cons q l ih =>
    obtain ⟨k, c⟩ := q
    simp only [putK] at h
    split at h
    · rcases List.mem_cons.1 h with h | h
      · exact .inl h
      · exact .inr (List.mem_cons_of_mem _ h)
    · rcases List.mem_cons.1 h with h | h
      · exact .inr (by rw [h]; simp)
      · exact (ih h).imp id (List.mem_cons_of_mem _)
theorem addK_nodup {l : List Int} (h : l.Nodup) (x : Int) : (addK l x).Nodup := by
  unfold addK
  split
  · exact h
  · rename_i hx
    rw [List.nodup_append]
    exact ⟨h, by simp, fun a ha b hb => by simp at hb; rintro rfl; exact hx (hb ▸ ha)⟩
theorem mem_addK {l : List Int} {x y : Int} : y ∈ addK l x ↔ y = x ∨ y ∈ l := by
  unfold addK
  split
  · rename_i h
    exact ⟨.inr, fun h' => h'.elim (fun e => e ▸ h) id⟩
  · simp [or_comm]
theorem step_ok {D : DK} (h : D.ok) : (stepS D).1.ok := by
  obtain ⟨h1, h2, h3, h4, h5, h6, h7, h8⟩ := h
  unfold stepS
  split
  · exact ⟨h1, h2, h3, h4, h5, h6, h7, h8⟩
  · split
    · refine ⟨h1, h2, h3, h4, h5, h6, h7, ?_⟩
      simp only [Big] at h8 ⊢; omega
    · exact ⟨h1, h2, h3, h4, h5, h6, h7, h8⟩
theorem write_ok {D : DK} (h : D.ok) (i : Int) (s : By) : (writeS D i s).1.ok := by
  unfold writeS
  split
  · exact h
  · rename_i hc
    split
    · exact h
    · rename_i hs
      split
      · exact step_ok h
      · have hst := step_ok h
        have hz := checkS_zero (D := D) (i := i) (by omega)
        have hl : (stepS D).1.bl.length = D.bl.length := by unfold stepS; (repeat' split) <;> rfl
        obtain ⟨h1, h2, h3, h4, h5, h6, h7, h8⟩ := hst
        refine ⟨h1, fun p hp => ?_, ?_, h4, h5, h6, h7, h8⟩
        · rcases putK_mem hp with rfl | hp
          · exact ⟨by simpa using hs, hz.2.1, by simp only [hl]; exact hz.2.2⟩
          · exact h2 p hp
        · simp only [putK_keys]
          split
          · exact h3
          · rename_i hx
            rw [List.nodup_append]
            exact ⟨h3, by simp, fun a ha b hb => by simp at hb; rintro rfl; exact hx (hb ▸ ha)⟩
theorem settle_ok {D : DK} (h : D.ok) {i : Int} {b : By} (hg : getK D.pd i = some b) (p : Int) : (settleS D i b p).ok := by
  obtain ⟨h1, h2, h3, h4, h5, h6, h7, h8⟩ := h
  obtain ⟨hb, hi1, hi2⟩ := h2 _ (getK_mem hg)
  simp only at hb hi1 hi2
  have hsub := delK_sub D.pd i
  have hl : (settleS D i b p).bl.length = D.bl.length := by simp only [settleS]; split <;> simp
  refine ⟨fun c hc => ?_, fun q hq => ?_, ?_, fun k hk => by rw [hl]; exact h4 k hk, h5, by rw [hl]; exact h6, by rw [hl]; exact h7, h8⟩
  · simp only [settleS] at hc
    split at hc
    · exact h1 c hc
    · rcases List.mem_or_eq_of_mem_set hc with h | rfl
      · exact h1 c h
      · refine tearS_len ?_ hb p
        have hi : i.toNat < D.bl.length := by omega
        simp only [List.getD, List.getElem?_eq_getElem hi, Option.getD_some]
        exact h1 _ (List.getElem_mem hi)
  · rw [hl]; exact h2 q (hsub.mem hq)
  · exact h3.sublist (hsub.map _)
theorem wear_ok {D : DK} (h : D.ok) (i : Int) : (wearS D i).1.ok := by
  unfold wearS
  split
  · exact h
  · rename_i hc
    obtain ⟨h1, h2, h3, h4, h5, h6, h7, h8⟩ := h
    refine ⟨h1, h2, h3, fun k hk => ?_, addK_nodup h5 i, h6, h7, h8⟩
    rcases mem_addK.1 hk with rfl | hk
    · simp only; omega
    · exact h4 k hk
theorem rotB_len (b : By) (bit : Nat) : (rotB b bit).length = b.length := by simp [rotB]
theorem rot_ok {D : DK} (h : D.ok) (i bit : Int) : (rotS D i bit).1.ok := by
  unfold rotS
  split
  · exact h
  · rename_i hc
    obtain ⟨h1, h2, h3, h4, h5, h6, h7, h8⟩ := h
    have hi : i.toNat < D.bl.length := by omega
    refine ⟨fun c hc => ?_, by simpa using h2, h3, by simpa using h4, h5, by simpa using h6, by simpa using h7, h8⟩
    rcases List.mem_or_eq_of_mem_set hc with h | rfl
    · exact h1 c h
    · rw [rotB_len]
      simp only [List.getD, List.getElem?_eq_getElem hi, Option.getD_some]
      exact h1 _ (List.getElem_mem hi)
/-- Pending sectors are settled one after another. -/
def settle1 (D : DK) (i p : Int) : DK := match getK D.pd i with
  | some b => settleS D i b p
  | none => D
def settleN (D : DK) (l : List Int) (ps : Nat → Int) : Nat → DK
  | 0 => D
  | j + 1 => settle1 (settleN D l ps j) (l.getD j 0) (ps j)
theorem pend_nodup {D : DK} (h : D.ok) : (pendS D).Nodup := (List.mergeSort_perm _ _).nodup_iff.2 h.2.2.1
theorem mem_pend {D : DK} {x : Int} : x ∈ pendS D ↔ ∃ b, getK D.pd x = some b := by
  rw [pendS, List.mem_mergeSort]
  have := getK_none D.pd x
  cases hg : getK D.pd x with
  | none => rw [hg] at this; simp at this ⊢; simpa using this
  | some b => rw [hg] at this; simp at this ⊢; simpa using this
theorem settleN_ok {D : DK} (h : D.ok) (ps : Nat → Int) : ∀ j, j ≤ (pendS D).length → (settleN D (pendS D) ps j).ok ∧ (settleN D (pendS D) ps j).bl.length = D.bl.length ∧ (∀ x, getK (settleN D (pendS D) ps j).pd x = if x ∈ (pendS D).take j then none else getK D.pd x)
  | 0, _ => ⟨h, rfl, fun x => by simp [settleN]⟩
  | j + 1, hj => by
    obtain ⟨h1, h2, h3⟩ := settleN_ok h ps j (by omega)
    have hn := pend_nodup h
    have hjl : j < (pendS D).length := by omega
    have hx : (pendS D).getD j 0 = (pendS D)[j] := by simp [List.getD, hjl]
    obtain ⟨b, hb⟩ := mem_pend.1 (List.getElem_mem hjl)
    have hnt : (pendS D)[j] ∉ (pendS D).take j := by
      intro hm
      obtain ⟨i, hi, he⟩ := List.getElem_of_mem hm
      rw [List.length_take] at hi
      rw [List.getElem_take] at he
      have := (List.getElem_inj hn).1 he
      omega
    have hg : getK (settleN D (pendS D) ps j).pd (pendS D)[j] = some b := by rw [h3, if_neg hnt, hb]
    have e : settleN D (pendS D) ps (j + 1) = settleS (settleN D (pendS D) ps j) (pendS D)[j] b (ps j) := by
      simp only [settleN, hx, settle1, hg]
    rw [e]
    refine ⟨settle_ok h1 hg _, ?_, fun x => ?_⟩
    · rw [← h2]; simp only [settleS]; split <;> simp
    · simp only [settleS]
      have hm : x ∈ (pendS D).take (j + 1) ↔ x ∈ (pendS D).take j ∨ x = (pendS D)[j] := by rw [List.take_succ_eq_append_getElem hjl, List.mem_append, List.mem_singleton]
      by_cases hxx : x = (pendS D)[j]
      · rw [if_pos (hm.2 (.inr hxx)), hxx, getK_del_self _ _ h1.2.2.1]
      · rw [getK_del_ne hxx, h3]
        by_cases ht : x ∈ (pendS D).take j
        · rw [if_pos ht, if_pos (hm.2 (.inl ht))]
        · rw [if_neg ht, if_neg (fun h => (hm.1 h).elim ht hxx)]
def flushS (D : DK) : DK × Int :=
  if checkS D 0 ≠ 0 then (D, checkS D 0) else if (stepS D).2 ≠ 0 then ((stepS D).1, (stepS D).2) else (settleN (stepS D).1 (pendS (stepS D).1) (fun _ => 64) (pendS (stepS D).1).length, 0)
def pickS (picks : List Int) (j : Nat) : Int := picks.getD j 64
def mountS (D : DK) (picks : List Int) : DK := { settleN D (pendS D) (pickS picks) (pendS D).length with off := false, lf := -1 }
theorem flush_ok {D : DK} (h : D.ok) : (flushS D).1.ok := by
  unfold flushS
  split
  · exact h
  · split
    · exact step_ok h
    · exact (settleN_ok (step_ok h) _ _ (Nat.le_refl _)).1
theorem mount_ok {D : DK} (h : D.ok) (picks : List Int) : (mountS D picks).ok := by
  obtain ⟨h1, h2, h3, h4, h5, h6, h7, h8⟩ := (settleN_ok h (pickS picks) _ (Nat.le_refl _)).1
  exact ⟨h1, h2, h3, h4, h5, h6, h7, by simp [mountS, Big]⟩
end Go.Proofs.Ytghdanpigohnjaa
namespace Go.Proofs.Ytghdanpigohnjaa
open Go Go.RowKit

attribute [local irreducible] EvOps EvC
attribute [local go_sem] List.getElem?_toArray List.flatten_cons List.flatten_nil List.contains_nil List.append_nil List.nil_append List.length_set Bool.and_self implies_true eq_self Nat.zero_mul Nat.add_zero Nat.zero_add Nat.sub_zero List.take_zero List.drop_zero List.drop_replicate Nat.sub_self List.replicate_zero List.map_nil List.map_append List.length_replicate
attribute [local go_sem] bytesV_bs strV_u8s bs_size u8s_len bs_extract bs_append bs_beq bs_nil bs_nil2
attribute [local go_sem] putD_len putD_b putD_p putD_w putD_d putD_app putD_put putD_get0 putD_get putD_set0 putD_set putD_take putD_takeN putD_setd putD_setw putD_setp getLD setLD
set_option linter.unusedSimpArgs false
set_option linter.unusedVariables false
set_option maxRecDepth 100000
set_option maxHeartbeats 4000000
attribute [local go_sem] take_u8 take_u8v drop_u8v len_u8v viewL_mv eqVs_u8s zsV_Z64 Z64_len Nat.min_self Nat.min_eq_right

theorem settleN_ev {D : DK} (hD : D.ok) (ps : Nat → Int) (hps : ∀ j, Big (ps j)) (j : Nat) (hj : j < (pendS D).length) (k : Nat) : DiskW 50 [.ptr (k + 3) 0, .v (VI (pendS D)[j]), .v (VI (ps j))] k (settleN D (pendS D) ps j) (.v (.tup [])) (settleN D (pendS D) ps (j + 1)) := by
  obtain ⟨h1, h2, h3⟩ := settleN_ok hD ps j (by omega)
  obtain ⟨b, hb⟩ := mem_pend.1 (List.getElem_mem hj)
  have hn := pend_nodup hD
  have hnt : (pendS D)[j] ∉ (pendS D).take j := by
    intro hm
    obtain ⟨i, hi, he⟩ := List.getElem_of_mem hm
    rw [List.length_take] at hi
    rw [List.getElem_take] at he
    have := (List.getElem_inj hn).1 he
    omega
  have hg : getK (settleN D (pendS D) ps j).pd (pendS D)[j] = some b := by rw [h3, if_neg hnt, hb]
  have hx : (pendS D).getD j 0 = (pendS D)[j] := by simp [List.getD, hj]
  have e : settleN D (pendS D) ps (j + 1) = settleS (settleN D (pendS D) ps j) (pendS D)[j] b (ps j) := by
    simp only [settleN, hx, settle1, hg]
  rw [e]
  exact settle_ev _ h1 _ b hg _ (hps j) k
theorem pend_len {D : DK} (hD : D.ok) : (pendS D).length ≤ 4096 := by
  rw [pendS, List.length_mergeSort, List.length_map]; exact pd_len hD
theorem flush_ev (D : DK) (hD : D.ok) (k : Nat) : DiskW 27 [.ptr (k + 3) 0] k D (.v (VI (flushS D).2)) (flushS D).1 := by
  have hc := check_ev D hD 0 k
  have hst := step_ev D hD k
  have hpe := pending_ev (stepS D).1 (step_ok hD) k
  have hse := settleN_ev (step_ok hD) (fun _ => 64) (fun _ => by simp [Big])
  have hpl := pend_len (step_ok hD)
  intro sto lo hlt hlo; refine CallEv.intro ⟨_, _, [], Try.func27, rfl, by decide, ?_⟩; simp only [go_sem, Try.ntmps27]
  by_cases h1 : checkS D 0 = 0
  · by_cases h3 : (stepS D).2 = 0
    · have e : flushS D = (settleN (stepS D).1 (pendS (stepS D).1) (fun _ => 64) (pendS (stepS D).1).length, 0) := by simp [flushS, h1, h3]
      rw [e]
      (try refine go ⟨?_⟩)
      ((refine call ?_); (refine ⟨_, hc _ _ (by omega) (by first | omega | (simp; done) | (simp; omega)), ?_⟩); (try simp only [go_sem]))
      (try refine go ⟨?_⟩)
      ((with_reducible apply ops_callW); rfl; (simp (disch := (first | omega | assumption | ((repeat' with_reducible apply And.intro) <;> first | omega | assumption | rfl | (apply Or.inl; rfl) | (apply Or.inr; first | rfl | trivial | fail) | fail) | fail)) only [go_sem, if_pos, if_neg, wrapI, wrapU, decide_eq_true, decide_eq_false, beqT, beqF, bneT, bneF] <;> rfl); (exact hst _ _ (by omega) (by omega)); (exact ho_putD0 (by first | omega | (simp; done)) (by first | omega | (simp only [putD_len]; omega))); (try simp only [go_sem]))
      (try refine go ⟨?_⟩)
      ((refine call ?_); (refine ⟨_, hpe _ _ (by omega) (by first | omega | (simp; done) | (simp; omega)), ?_⟩); (try simp only [go_sem]))
      (try refine go ⟨?_⟩)
      clear hc hst hpe e
      obtain ⟨SN, hSN⟩ : ∃ SN : Nat → DK, SN = settleN (stepS D).1 (pendS (stepS D).1) (fun _ => 64) := ⟨_, rfl⟩
      have h0 : (stepS D).1 = SN 0 := by rw [hSN]; rfl
      rw [← hSN]
      simp only [← hSN] at hse
      generalize pendS (stepS D).1 = L at *
      rw [h0]
      clear h0 hSN hD
      refine c_loop (fun m s => ∃ (j : Nat), (j ≤ L.length ∧ m = L.length - j) ∧ (s.env.length = 28 ∧ s.sto = putD sto k (SN j) ∧ s.env[0]? = some (.ptr (k + 3) 0) ∧ s.env[2]? = some (.v (VI 0)) ∧ s.env[18]? = some (.v (LI L)) ∧ s.env[19]? = some (.v (VI L.length)) ∧ s.env[20]? = some (.v (VI j)))) (.refl _) ⟨0, ⟨by omega, rfl⟩, rfl, rfl, ?_, ?_, ?_, ?_, ?_⟩ ?_
      all_goals first | rfl | skip
      rintro m s ⟨j, ⟨h1, rfl⟩, hL, hT, k0, k2, k18, k19, k20⟩
      obtain ⟨env, st0⟩ := s; obtain ⟨J, hJ⟩ := listJ hL; rw [show (List.range 28).map J = J 0 :: J 1 :: J 2 :: J 3 :: J 4 :: J 5 :: J 6 :: J 7 :: J 8 :: J 9 :: J 10 :: J 11 :: J 12 :: J 13 :: J 14 :: J 15 :: J 16 :: J 17 :: J 18 :: J 19 :: J 20 :: J 21 :: J 22 :: J 23 :: J 24 :: J 25 :: J 26 :: J 27 :: [] from by kernel_rfl] at hJ; replace k0 := Option.some.inj ((congrArg (·[0]?) hJ).symm.trans k0); replace k2 := Option.some.inj ((congrArg (·[2]?) hJ).symm.trans k2); replace k18 := Option.some.inj ((congrArg (·[18]?) hJ).symm.trans k18); replace k19 := Option.some.inj ((congrArg (·[19]?) hJ).symm.trans k19); replace k20 := Option.some.inj ((congrArg (·[20]?) hJ).symm.trans k20); rw [k0, k2, k18, k19, k20] at hJ; dsimp only at hJ hT; subst hJ; replace hT := hT.symm; subst hT; clear hL k0 k2 k18 k19 k20
      by_cases hb : j < L.length
      · (try refine go ⟨?_⟩)
        ((with_reducible apply ops_callW); rfl; (simp (disch := (first | omega | assumption | ((repeat' with_reducible apply And.intro) <;> first | omega | assumption | rfl | (apply Or.inl; rfl) | (apply Or.inr; first | rfl | trivial | fail) | fail) | fail)) only [go_sem, if_pos, if_neg, wrapI, wrapU, decide_eq_true, decide_eq_false, beqT, beqF, bneT, bneF] <;> rfl); (exact hse j hb k _ _ (by omega) (by omega)); (exact ho_putD0 (by first | omega | (simp; done)) (by first | omega | (simp only [putD_len]; omega))); (try simp only [go_sem]))
        (try refine go ⟨?_⟩)
        refine ⟨_, _, ?_, .refl _, j + 1, ⟨by omega, rfl⟩, rfl, rfl, ?_, ?_, ?_, ?_, ?_⟩
        · omega
        all_goals rfl
      · obtain rfl : j = L.length := by omega
        (try refine go ⟨?_⟩)
        refine ⟨by first | exact .inr rfl | exact .inl rfl, .inl ⟨[], _, (by dsimp only [Try.f27]; exact sv), ?_, ?_⟩⟩; all_goals (first | rfl | (simp (disch := omega) only [putD_setd, putD_setw, putD_setp, putD_takeN, putD_take]; done) | (simp (disch := omega) only [putD_setd, putD_setw, putD_setp, putD_takeN, putD_take]; rfl) | skip)
    · have e : flushS D = ((stepS D).1, (stepS D).2) := by simp [flushS, h1, h3]
      rw [e]
      (try refine go ⟨?_⟩)
      ((refine call ?_); (refine ⟨_, hc _ _ (by omega) (by first | omega | (simp; done) | (simp; omega)), ?_⟩); (try simp only [go_sem]))
      (try refine go ⟨?_⟩)
      ((with_reducible apply ops_callW); rfl; (simp (disch := (first | omega | assumption | ((repeat' with_reducible apply And.intro) <;> first | omega | assumption | rfl | (apply Or.inl; rfl) | (apply Or.inr; first | rfl | trivial | fail) | fail) | fail)) only [go_sem, if_pos, if_neg, wrapI, wrapU, decide_eq_true, decide_eq_false, beqT, beqF, bneT, bneF] <;> rfl); (exact hst _ _ (by omega) (by omega)); (exact ho_putD0 (by first | omega | (simp; done)) (by first | omega | (simp only [putD_len]; omega))); (try simp only [go_sem]))
      (try refine go ⟨?_⟩)
      refine ⟨by first | exact .inr rfl | exact .inl rfl, .inl ⟨[], _, (by dsimp only [Try.f27]; exact sv), ?_, ?_⟩⟩; all_goals (first | rfl | (simp (disch := omega) only [putD_setd, putD_setw, putD_setp, putD_takeN, putD_take]; done) | (simp (disch := omega) only [putD_setd, putD_setw, putD_setp, putD_takeN, putD_take]; rfl) | skip)
  · have e : flushS D = (D, checkS D 0) := by simp [flushS, h1]
    rw [e]
    (try refine go ⟨?_⟩)
    ((refine call ?_); (refine ⟨_, hc _ _ (by omega) (by first | omega | (simp; done) | (simp; omega)), ?_⟩); (try simp only [go_sem]))
    (try refine go ⟨?_⟩)
    refine ⟨by first | exact .inr rfl | exact .inl rfl, .inl ⟨[], _, (by dsimp only [Try.f27]; exact sv), ?_, ?_⟩⟩; all_goals (first | rfl | (simp (disch := omega) only [putD_setd, putD_setw, putD_setp, putD_takeN, putD_take]; done) | (simp (disch := omega) only [putD_setd, putD_setw, putD_setp, putD_takeN, putD_take]; rfl) | skip)
theorem mount_ev (D : DK) (hD : D.ok) (picks : List Int) (hpi : ∀ p ∈ picks, Big p) (hpl2 : picks.length < 9223372036854775808) (k : Nat) : DiskW 23 [.ptr (k + 3) 0, .v (LI picks)] k D (.v (.tup [])) (mountS D picks) := by
  have hpe := pending_ev D hD k
  have hse := settleN_ev hD (pickS picks) (fun j => by
    unfold pickS
    by_cases h : j < picks.length
    · simp only [List.getD, List.getElem?_eq_getElem h, Option.getD_some]; exact hpi _ (List.getElem_mem h)
    · simp only [List.getD, List.getElem?_eq_none (Nat.le_of_not_lt h), Option.getD_none]; simp [Big])
  have hpl := pend_len hD
  have e : mountS D picks = { settleN D (pendS D) (pickS picks) (pendS D).length with off := false, lf := -1 } := rfl
  rw [e]
  intro sto lo hlt hlo; refine CallEv.intro ⟨_, _, [], Try.func23, rfl, by decide, ?_⟩; simp only [go_sem, Try.ntmps23]
  (try refine go ⟨?_⟩)
  ((refine call ?_); (refine ⟨_, hpe _ _ (by omega) (by first | omega | (simp; done) | (simp; omega)), ?_⟩); (try simp only [go_sem]))
  (try refine go ⟨?_⟩)
  clear hpe e hpi
  obtain ⟨SN, hSN⟩ : ∃ SN : Nat → DK, SN = settleN D (pendS D) (pickS picks) := ⟨_, rfl⟩
  have h0 : D = SN 0 := by rw [hSN]; rfl
  rw [← hSN]
  simp only [← hSN] at hse
  clear hSN hD
  generalize pendS D = L at *
  rw [h0]
  clear h0
  refine c_loop (fun m s => ∃ (j : Nat), (j ≤ L.length ∧ m = L.length - j) ∧ (s.env.length = 34 ∧ s.sto = putD sto k (SN j) ∧ s.env[0]? = some (.ptr (k + 3) 0) ∧ s.env[1]? = some (.v (LI picks)) ∧ s.env[8]? = some (.v (LI L)) ∧ s.env[9]? = some (.v (VI L.length)) ∧ s.env[10]? = some (.v (VI j)))) (.refl _) ⟨0, ⟨by omega, rfl⟩, rfl, rfl, ?_, ?_, ?_, ?_, ?_⟩ ?_
  all_goals first | rfl | skip
  rintro m s ⟨j, ⟨h1, rfl⟩, hL, hT, k0, k1, k8, k9, k10⟩
  obtain ⟨env, st0⟩ := s; obtain ⟨J, hJ⟩ := listJ hL; rw [show (List.range 34).map J = J 0 :: J 1 :: J 2 :: J 3 :: J 4 :: J 5 :: J 6 :: J 7 :: J 8 :: J 9 :: J 10 :: J 11 :: J 12 :: J 13 :: J 14 :: J 15 :: J 16 :: J 17 :: J 18 :: J 19 :: J 20 :: J 21 :: J 22 :: J 23 :: J 24 :: J 25 :: J 26 :: J 27 :: J 28 :: J 29 :: J 30 :: J 31 :: J 32 :: J 33 :: [] from by kernel_rfl] at hJ; replace k0 := Option.some.inj ((congrArg (·[0]?) hJ).symm.trans k0); replace k1 := Option.some.inj ((congrArg (·[1]?) hJ).symm.trans k1); replace k8 := Option.some.inj ((congrArg (·[8]?) hJ).symm.trans k8); replace k9 := Option.some.inj ((congrArg (·[9]?) hJ).symm.trans k9); replace k10 := Option.some.inj ((congrArg (·[10]?) hJ).symm.trans k10); rw [k0, k1, k8, k9, k10] at hJ; dsimp only at hJ hT; subst hJ; replace hT := hT.symm; subst hT; clear hL k0 k1 k8 k9 k10
  by_cases hb : j < L.length
  · have hs := hse j hb k
    clear hse
    by_cases hp : j < picks.length
    · rw [show pickS picks j = picks[j] by simp [pickS, List.getD, hp]] at hs
      (try refine go ⟨?_⟩)
      ((with_reducible apply ops_callW); rfl; (simp (disch := (first | omega | assumption | ((repeat' with_reducible apply And.intro) <;> first | omega | assumption | rfl | (apply Or.inl; rfl) | (apply Or.inr; first | rfl | trivial | fail) | fail) | fail)) only [go_sem, if_pos, if_neg, wrapI, wrapU, decide_eq_true, decide_eq_false, beqT, beqF, bneT, bneF] <;> rfl); (exact hs _ _ (by omega) (by omega)); (exact ho_putD0 (by first | omega | (simp; done)) (by first | omega | (simp only [putD_len]; omega))); (try simp only [go_sem]))
      (try refine go ⟨?_⟩)
      refine ⟨_, _, ?_, .refl _, j + 1, ⟨by omega, rfl⟩, rfl, rfl, ?_, ?_, ?_, ?_, ?_⟩
      · omega
      all_goals rfl
    · rw [show pickS picks j = 64 by simp [pickS, List.getD, List.getElem?_eq_none (Nat.le_of_not_lt hp)]] at hs
      (try refine go ⟨?_⟩)
      ((with_reducible apply ops_callW); rfl; (simp (disch := (first | omega | assumption | ((repeat' with_reducible apply And.intro) <;> first | omega | assumption | rfl | (apply Or.inl; rfl) | (apply Or.inr; first | rfl | trivial | fail) | fail) | fail)) only [go_sem, if_pos, if_neg, wrapI, wrapU, decide_eq_true, decide_eq_false, beqT, beqF, bneT, bneF] <;> rfl); (exact hs _ _ (by omega) (by omega)); (exact ho_putD0 (by first | omega | (simp; done)) (by first | omega | (simp only [putD_len]; omega))); (try simp only [go_sem]))
      (try refine go ⟨?_⟩)
      refine ⟨_, _, ?_, .refl _, j + 1, ⟨by omega, rfl⟩, rfl, rfl, ?_, ?_, ?_, ?_, ?_⟩
      · omega
      all_goals rfl
  · obtain rfl : j = L.length := by omega
    generalize SN L.length = E
    obtain ⟨bl, pd, wn, off, lf⟩ := E
    (try refine go ⟨?_⟩)
    refine ⟨by first | exact .inr rfl | exact .inl rfl, .inl ⟨[], _, (by dsimp only [Try.f23]; exact sv), ?_, ?_⟩⟩; all_goals (first | rfl | (simp (disch := omega) only [putD_setd, putD_setw, putD_setp, putD_takeN, putD_take]; done) | (simp (disch := omega) only [putD_setd, putD_setw, putD_setp, putD_takeN, putD_take]; rfl) | skip)
end Go.Proofs.Ytghdanpigohnjaa
namespace Go.Proofs.Ytghdanpigohnjaa
open Go Go.RowKit
structure SecR where
  tx : By
  nx : By
  dy : Bool
  wn : Bool
structure RK where
  s : List SecR
  off : Bool
  lf : Int
def cellsR (x : SecR) : List V := [.str (bs x.tx), .str (bs x.nx), .bool x.dy, .bool x.wn]
def flatR (s : List SecR) : List V := (s.map cellsR).flatten
theorem cellsR_len (x : SecR) : (cellsR x).length = 4 := rfl
theorem rlen (s : List SecR) : ∀ l ∈ s.map cellsR, l.length = 4 := by
  intro l hl
  obtain ⟨x, _, rfl⟩ := List.mem_map.1 hl
  rfl
theorem flatR_len (s : List SecR) : (flatR s).length = s.length * 4 := by rw [flatR, flat_len (rlen s), List.length_map]
theorem flatR_get {s : List SecR} {i : Nat} (hi : i < s.length) : ((flatR s).drop (i * 4)).take 4 = cellsR s[i] := by
  rw [flatR, flat_get (rlen s) (by simpa using hi), List.getElem_map]
theorem flatR_get1 {s : List SecR} {i : Nat} (hi : i < s.length) : (flatR s)[i * 4]? = some (.str (bs s[i].tx)) ∧ (flatR s)[i * 4 + 1]? = some (.str (bs s[i].nx)) ∧ (flatR s)[i * 4 + 2]? = some (.bool s[i].dy) ∧ (flatR s)[i * 4 + 3]? = some (.bool s[i].wn) := by
  have h := fun (j : Nat) (hj : j < 4) => flat_get1 (rlen s) (i := i) (j := j) (by simpa using hi) hj
  simp only [List.getElem_map] at h
  exact ⟨h 0 (by omega), h 1 (by omega), h 2 (by omega), h 3 (by omega)⟩
theorem flatR_put {s : List SecR} {i j : Nat} (hi : i < s.length) (X : List V) (y : SecR) (hj : j + X.length ≤ 4) (hy : cellsR y = (cellsR s[i]).take j ++ X ++ (cellsR s[i]).drop (j + X.length)) : (flatR s).take (i * 4 + j) ++ X ++ (flatR s).drop (i * 4 + j + X.length) = flatR (s.set i y) := by
  have := flat_put (rlen s) (i := i) (j := j) (by simpa using hi) X hj
  rw [flatR, flatR, this, List.getElem_map, ← hy, List.map_set]
def eS (R : RK) : Ent := .arr (some (51, 4)) true R.s.length (flatR R.s)
def eR (a : Nat) (R : RK) : Ent := .cells [.arr a R.s.length, .v (.bool R.off), .v (VI R.lf)]
structure RefAt (sto : Sto) (q a : Nat) (R : RK) : Prop where
  s : sto[a]? = some (.arr (some (51, 4)) true R.s.length (flatR R.s))
  d : sto[q]? = some (.cells [.arr a R.s.length, .v (.bool R.off), .v (VI R.lf)])
theorem RefAt.lt {sto : Sto} {q a : Nat} {R : RK} (h : RefAt sto q a R) : q < sto.length ∧ a < sto.length := ⟨(List.getElem?_eq_some_iff.1 h.d).1, (List.getElem?_eq_some_iff.1 h.s).1⟩
@[irreducible] def putR (sto : Sto) (q a : Nat) (R : RK) : Sto := (sto.set a (eS R)).set q (eR a R)
theorem putR_len {sto : Sto} {q a : Nat} {R : RK} : (putR sto q a R).length = sto.length := by unfold putR; simp
theorem putR_s {sto : Sto} {q a : Nat} {R : RK} (h : q ≠ a) (ha : a < sto.length) : (putR sto q a R)[a]? = some (.arr (some (51, 4)) true R.s.length (flatR R.s)) := by
  unfold putR
  rw [List.getElem?_set_ne h, List.getElem?_set_self ha]; rfl
theorem putR_d {sto : Sto} {q a : Nat} {R : RK} (hq : q < sto.length) : (putR sto q a R)[q]? = some (.cells [.arr a R.s.length, .v (.bool R.off), .v (VI R.lf)]) := by
  unfold putR
  rw [List.getElem?_set_self (by simpa using hq)]; rfl
theorem putR_at {sto : Sto} {q a : Nat} {R : RK} (h : q ≠ a) (hq : q < sto.length) (ha : a < sto.length) : RefAt (putR sto q a R) q a R := ⟨putR_s h ha, putR_d hq⟩
theorem putR_ne {sto : Sto} {q a i : Nat} {R : RK} (h1 : i ≠ q) (h2 : i ≠ a) : (putR sto q a R)[i]? = sto[i]? := by
  unfold putR
  rw [List.getElem?_set_ne (fun e => h1 e.symm), List.getElem?_set_ne (fun e => h2 e.symm)]
theorem putR_eq {s sto : Sto} {q a : Nat} {R : RK} (hqa : q ≠ a) (hl : s.length = sto.length) (h : RefAt s q a R) (hne : ∀ i, i ≠ q → i ≠ a → s[i]? = sto[i]?) : s = putR sto q a R := by
  obtain ⟨hq, ha⟩ := h.lt
  have h2 := putR_at (R := R) (sto := sto) hqa (by omega) (by omega)
  apply List.ext_getElem?
  intro i
  by_cases h1 : i = q
  · subst h1; rw [h.d, h2.d]
  · by_cases h3 : i = a
    · subst h3; rw [h.s, h2.s]
    · rw [hne i h1 h3, putR_ne h1 h3]
theorem putR_same {sto : Sto} {q a : Nat} {R : RK} (hqa : q ≠ a) (h : RefAt sto q a R) : putR sto q a R = sto := (putR_eq hqa rfl h fun _ _ _ => rfl).symm
theorem putR_app {sto l : Sto} {q a : Nat} {R : RK} (hq : q < sto.length) (ha : a < sto.length) : putR (sto ++ l) q a R = putR sto q a R ++ l := by
  unfold putR
  rw [List.set_append_left _ _ ha, List.set_append_left _ _ (by simpa using hq)]
theorem putR_put {sto : Sto} {q a : Nat} {R S : RK} : putR (putR sto q a R) q a S = putR sto q a S := by
  unfold putR
  by_cases h : q = a
  · subst h; simp [List.set_set]
  · rw [List.set_comm _ _ h, List.set_set, List.set_set]
theorem putR_setd {sto : Sto} {q a : Nat} {s : List SecR} {off o : Bool} {lf l : Int} : (putR sto q a ⟨s, off, lf⟩).set q (.cells [.arr a s.length, .v (.bool o), .v (VI l)]) = putR sto q a ⟨s, o, l⟩ := by
  unfold putR; rw [List.set_set]; rfl
theorem putR_sets {sto : Sto} {q a : Nat} (hqa : q ≠ a) {s t : List SecR} {off : Bool} {lf : Int} (h : t.length = s.length) : (putR sto q a ⟨s, off, lf⟩).set a (.arr (some (51, 4)) true s.length (flatR t)) = putR sto q a ⟨t, off, lf⟩ := by
  unfold putR; rw [List.set_comm _ _ hqa, List.set_set]; simp only [eS, eR, h]
theorem putR_get0 {sto l : Sto} {q a : Nat} {R : RK} : (putR sto q a R ++ l)[sto.length]? = l[0]? := by
  rw [List.getElem?_append_right (by rw [putR_len]; omega), putR_len, Nat.sub_self]
theorem putR_get {sto l : Sto} {q a n : Nat} {R : RK} : (putR sto q a R ++ l)[sto.length + n]? = l[n]? := by
  rw [List.getElem?_append_right (by rw [putR_len]; omega), putR_len]; congr 1; omega
theorem putR_set0 {sto l : Sto} {q a : Nat} {R : RK} {e : Ent} : (putR sto q a R ++ l).set sto.length e = putR sto q a R ++ l.set 0 e := by
  rw [List.set_append_right _ _ (by rw [putR_len]; omega), putR_len, Nat.sub_self]
theorem putR_set {sto l : Sto} {q a n : Nat} {R : RK} {e : Ent} : (putR sto q a R ++ l).set (sto.length + n) e = putR sto q a R ++ l.set n e := by
  rw [List.set_append_right _ _ (by rw [putR_len]; omega), putR_len]; congr 2; omega
theorem putR_take {sto l : Sto} {q a : Nat} {R : RK} : (putR sto q a R ++ l).take sto.length = putR sto q a R := by
  rw [List.take_append_of_le_length (by rw [putR_len]; omega), List.take_of_length_le (by rw [putR_len]; omega)]
theorem putR_takeN {sto : Sto} {q a : Nat} {R : RK} : (putR sto q a R).take sto.length = putR sto q a R := List.take_of_length_le (by rw [putR_len]; omega)
theorem getLR {sto l : Sto} {q a i : Nat} {R : RK} (h : i < sto.length) : (putR sto q a R ++ l)[i]? = (putR sto q a R)[i]? := List.getElem?_append_left (by rw [putR_len]; exact h)
theorem setLR {sto l : Sto} {q a i : Nat} {R : RK} {e : Ent} (h : i < sto.length) : (putR sto q a R ++ l).set i e = (putR sto q a R).set i e ++ l := List.set_append_left _ _ (by rw [putR_len]; exact h)
def RefR (f : FuncId) (args : List D) (q a : Nat) (R : RK) (r : D) : Prop := ∀ sto lo, q < sto.length → a < sto.length → lo ≤ sto.length → CD f args (putR sto q a R) lo r (putR sto q a R)
def RefW (f : FuncId) (args : List D) (q a : Nat) (R : RK) (r : D) (S : RK) : Prop := ∀ sto lo, q < sto.length → a < sto.length → lo ≤ q → lo ≤ a → CD f args (putR sto q a R) lo r (putR sto q a S)
theorem RefR.app {f : FuncId} {args : List D} {q a : Nat} {R : RK} {r : D} (h : RefR f args q a R r) {sto l : Sto} {lo : Nat} (hq : q < sto.length) (ha : a < sto.length) (hlo : lo ≤ (sto ++ l).length) : CD f args (putR sto q a R ++ l) lo r (putR sto q a R ++ l) := by
  have := h (sto ++ l) lo (by simp; omega) (by simp; omega) hlo
  rwa [putR_app hq ha] at this
theorem RefW.app {f : FuncId} {args : List D} {q a : Nat} {R S : RK} {r : D} (h : RefW f args q a R r S) {sto l : Sto} {lo : Nat} (hq : q < sto.length) (ha : a < sto.length) (h1 : lo ≤ q) (h2 : lo ≤ a) : CD f args (putR sto q a R ++ l) lo r (putR sto q a S ++ l) := by
  have := h (sto ++ l) lo (by simp; omega) (by simp; omega) h1 h2
  rwa [putR_app hq ha, putR_app hq ha] at this
theorem ho_putRa {n0 lo q a : Nat} {sto l : Sto} {R S : RK} (hqa : q ≠ a) (hq : q < sto.length) (ha : a < sto.length) (hn : n0 ≤ sto.length) (hk : (q < n0 ∧ a < n0) ∨ (n0 ≤ q ∧ n0 ≤ a)) : ∀ i ds, lo ≤ i → i < n0 → (putR sto q a S ++ l)[i]? = some (.cells ds) → (putR sto q a R ++ l)[i]? = some (.cells ds) ∨ scopedL n0 ds = true := by
  intro i ds h1 h2 h3
  rw [List.getElem?_append_left (by rw [putR_len]; omega)] at h3 ⊢
  rcases hk with hk | hk
  · by_cases e1 : i = q
    · subst e1
      rw [putR_d hq] at h3
      simp only [Option.some.injEq, Ent.cells.injEq] at h3
      subst h3
      right
      simp [scopedL, D.inside]
      omega
    · by_cases e2 : i = a
      · subst e2; rw [putR_s hqa ha] at h3; cases h3
      · rw [putR_ne e1 e2] at h3 ⊢; exact .inl h3
  · rw [putR_ne (by omega) (by omega)] at h3 ⊢; exact .inl h3
theorem ho_putR0 {n0 lo q a : Nat} {sto : Sto} {R S : RK} (hqa : q ≠ a) (hq : q < sto.length) (ha : a < sto.length) (hn : n0 ≤ sto.length) (hk : (q < n0 ∧ a < n0) ∨ (n0 ≤ q ∧ n0 ≤ a)) : ∀ i ds, lo ≤ i → i < n0 → (putR sto q a S)[i]? = some (.cells ds) → (putR sto q a R)[i]? = some (.cells ds) ∨ scopedL n0 ds = true := by
  have := ho_putRa (l := []) (R := R) (S := S) (lo := lo) hqa hq ha hn hk
  simpa using this
end Go.Proofs.Ytghdanpigohnjaa
namespace Go.Proofs.Ytghdanpigohnjaa
open Go Go.RowKit

attribute [local irreducible] EvOps EvC
attribute [local go_sem] List.getElem?_toArray List.flatten_cons List.flatten_nil List.contains_nil List.append_nil List.nil_append List.length_set Bool.and_self implies_true eq_self Nat.zero_mul Nat.add_zero Nat.zero_add Nat.sub_zero List.take_zero List.drop_zero List.drop_replicate Nat.sub_self List.replicate_zero List.map_nil List.map_append List.length_replicate
attribute [local go_sem] bytesV_bs strV_u8s bs_size u8s_len bs_extract bs_append bs_beq bs_nil bs_nil2
attribute [local go_sem] putD_len putD_b putD_p putD_w putD_d putD_app putD_put putD_get0 putD_get putD_set0 putD_set putD_take putD_takeN putD_setd putD_setw putD_setp getLD setLD
set_option linter.unusedSimpArgs false
set_option linter.unusedVariables false
set_option maxRecDepth 100000
set_option maxHeartbeats 4000000
attribute [local go_sem] take_u8 take_u8v drop_u8v len_u8v viewL_mv eqVs_u8s zsV_Z64 Z64_len Nat.min_self Nat.min_eq_right

attribute [local go_sem] putR_len putR_s putR_d putR_app putR_put putR_get0 putR_get putR_set0 putR_set putR_take putR_takeN putR_setd getLR setLR cellsR

def RK.ok (R : RK) : Prop := (∀ x ∈ R.s, x.tx.length = 64 ∧ (x.dy = true → x.nx.length = 64)) ∧ R.s.length ≤ 4096 ∧ 0 < R.s.length ∧ Big R.lf
def isR (R : RK) (i : Int) : Bool := decide (0 ≤ i ∧ i < R.s.length)
theorem rlen_ev (R : RK) (q a : Nat) (hqa : q ≠ a) : RefR 43 [.ptr q 0] q a R (.v (VI R.s.length)) := by
  intro sto lo hq ha hlo; refine CallEv.intro ⟨_, _, [], Try.func43, rfl, by decide, ?_⟩; simp only [go_sem, Try.ntmps43]
  (try refine go ⟨?_⟩)
  refine ⟨by first | exact .inr rfl | exact .inl rfl, .inl ⟨[], _, (by dsimp only [Try.f43]; exact sv), ?_, ?_⟩⟩; all_goals (first | rfl | (simp (disch := first | omega | assumption) only [putR_setd, putR_takeN, putR_take]; done) | (simp (disch := first | omega | assumption) only [putR_setd, putR_takeN, putR_take]; rfl) | skip)
theorem rup_ev (R : RK) (q a : Nat) (hqa : q ≠ a) : RefR 44 [.ptr q 0] q a R (.v (.bool (!R.off))) := by
  intro sto lo hq ha hlo; refine CallEv.intro ⟨_, _, [], Try.func44, rfl, by decide, ?_⟩; simp only [go_sem, Try.ntmps44]
  (try refine go ⟨?_⟩)
  refine ⟨by first | exact .inr rfl | exact .inl rfl, .inl ⟨[], _, (by dsimp only [Try.f44]; exact sv), ?_, ?_⟩⟩; all_goals (first | rfl | (simp (disch := first | omega | assumption) only [putR_setd, putR_takeN, putR_take]; done) | (simp (disch := first | omega | assumption) only [putR_setd, putR_takeN, putR_take]; rfl) | skip)
theorem is_ev (R : RK) (i : Int) (q a : Nat) (hqa : q ≠ a) : RefR 54 [.ptr q 0, .v (VI i)] q a R (.v (.bool (isR R i))) := by
  intro sto lo hq ha hlo; refine CallEv.intro ⟨_, _, [], Try.func54, rfl, by decide, ?_⟩; simp only [go_sem, Try.ntmps54]
  by_cases h1 : 0 ≤ i
  · by_cases h2 : i < R.s.length
    · rw [show isR R i = true by simp [isR, h1, h2]]
      (try refine go ⟨?_⟩)
      refine ⟨by first | exact .inr rfl | exact .inl rfl, .inl ⟨[], _, (by dsimp only [Try.f54]; exact sv), ?_, ?_⟩⟩; all_goals (first | rfl | (simp (disch := first | omega | assumption) only [putR_setd, putR_takeN, putR_take]; done) | (simp (disch := first | omega | assumption) only [putR_setd, putR_takeN, putR_take]; rfl) | skip)
    · rw [show isR R i = false by simp [isR, h2]]
      (try refine go ⟨?_⟩)
      refine ⟨by first | exact .inr rfl | exact .inl rfl, .inl ⟨[], _, (by dsimp only [Try.f54]; exact sv), ?_, ?_⟩⟩; all_goals (first | rfl | (simp (disch := first | omega | assumption) only [putR_setd, putR_takeN, putR_take]; done) | (simp (disch := first | omega | assumption) only [putR_setd, putR_takeN, putR_take]; rfl) | skip)
  · rw [show isR R i = false by simp [isR, h1]]
    (try refine go ⟨?_⟩)
    refine ⟨by first | exact .inr rfl | exact .inl rfl, .inl ⟨[], _, (by dsimp only [Try.f54]; exact sv), ?_, ?_⟩⟩; all_goals (first | rfl | (simp (disch := first | omega | assumption) only [putR_setd, putR_takeN, putR_take]; done) | (simp (disch := first | omega | assumption) only [putR_setd, putR_takeN, putR_take]; rfl) | skip)
def rstepS (R : RK) : RK × Int := if R.lf = 0 then ({ R with off := true }, 18) else if R.lf > 0 then ({ R with lf := R.lf - 1 }, 0) else (R, 0)
theorem rstep_ev (R : RK) (hR : R.ok) (q a : Nat) (hqa : q ≠ a) : RefW 55 [.ptr q 0] q a R (.v (VI (rstepS R).2)) (rstepS R).1 := by
  obtain ⟨s, off, lf⟩ := R
  obtain ⟨-, -, -, hl1, hl2⟩ := hR
  simp only at hl1 hl2
  intro sto lo hq ha hlq hla; refine CallEv.intro ⟨_, _, [], Try.func55, rfl, by decide, ?_⟩; simp only [go_sem, Try.ntmps55]
  by_cases h1 : lf = 0
  · rw [show rstepS ⟨s, off, lf⟩ = (⟨s, true, lf⟩, 18) by simp [rstepS, h1]]
    (try refine go ⟨?_⟩)
    refine ⟨by first | exact .inr rfl | exact .inl rfl, .inl ⟨[], _, (by dsimp only [Try.f55]; exact sv), ?_, ?_⟩⟩; all_goals (first | rfl | (simp (disch := first | omega | assumption) only [putR_setd, putR_takeN, putR_take]; done) | (simp (disch := first | omega | assumption) only [putR_setd, putR_takeN, putR_take]; rfl) | skip)
  · by_cases h2 : lf > 0
    · rw [show rstepS ⟨s, off, lf⟩ = (⟨s, off, lf - 1⟩, 0) by simp [rstepS, h1, h2]]
      (try refine go ⟨?_⟩)
      refine ⟨by first | exact .inr rfl | exact .inl rfl, .inl ⟨[], _, (by dsimp only [Try.f55]; exact sv), ?_, ?_⟩⟩; all_goals (first | rfl | (simp (disch := first | omega | assumption) only [putR_setd, putR_takeN, putR_take]; done) | (simp (disch := first | omega | assumption) only [putR_setd, putR_takeN, putR_take]; rfl) | skip)
    · rw [show rstepS ⟨s, off, lf⟩ = (⟨s, off, lf⟩, 0) by simp [rstepS, h1, h2]]
      (try refine go ⟨?_⟩)
      refine ⟨by first | exact .inr rfl | exact .inl rfl, .inl ⟨[], _, (by dsimp only [Try.f55]; exact sv), ?_, ?_⟩⟩; all_goals (first | rfl | (simp (disch := first | omega | assumption) only [putR_setd, putR_takeN, putR_take]; done) | (simp (disch := first | omega | assumption) only [putR_setd, putR_takeN, putR_take]; rfl) | skip)
theorem rtrip_ev (R : RK) (n : Int) (q a : Nat) (hqa : q ≠ a) : RefW 35 [.ptr q 0, .v (VI n)] q a R (.v (.tup [])) { R with lf := max (-1) n } := by
  obtain ⟨s, off, lf⟩ := R
  intro sto lo hq ha hlq hla; refine CallEv.intro ⟨_, _, [], Try.func35, rfl, by decide, ?_⟩; simp only [go_sem, Try.ntmps35]
  by_cases h : n > -1
  · rw [show max (-1) n = n by omega]
    (try refine go ⟨?_⟩)
    refine ⟨by first | exact .inr rfl | exact .inl rfl, .inl ⟨[], _, (by dsimp only [Try.f35]; exact sv), ?_, ?_⟩⟩; all_goals (first | rfl | (simp (disch := first | omega | assumption) only [putR_setd, putR_takeN, putR_take]; done) | (simp (disch := first | omega | assumption) only [putR_setd, putR_takeN, putR_take]; rfl) | skip)
  · rw [show max (-1) n = -1 by omega]
    (try refine go ⟨?_⟩)
    refine ⟨by first | exact .inr rfl | exact .inl rfl, .inl ⟨[], _, (by dsimp only [Try.f35]; exact sv), ?_, ?_⟩⟩; all_goals (first | rfl | (simp (disch := first | omega | assumption) only [putR_setd, putR_takeN, putR_take]; done) | (simp (disch := first | omega | assumption) only [putR_setd, putR_takeN, putR_take]; rfl) | skip)
end Go.Proofs.Ytghdanpigohnjaa
namespace Go.Proofs.Ytghdanpigohnjaa
open Go Go.RowKit

attribute [local irreducible] EvOps EvC
attribute [local go_sem] List.getElem?_toArray List.flatten_cons List.flatten_nil List.contains_nil List.append_nil List.nil_append List.length_set Bool.and_self implies_true eq_self Nat.zero_mul Nat.add_zero Nat.zero_add Nat.sub_zero List.take_zero List.drop_zero List.drop_replicate Nat.sub_self List.replicate_zero List.map_nil List.map_append List.length_replicate
attribute [local go_sem] bytesV_bs strV_u8s bs_size u8s_len bs_extract bs_append bs_beq bs_nil bs_nil2
attribute [local go_sem] putD_len putD_b putD_p putD_w putD_d putD_app putD_put putD_get0 putD_get putD_set0 putD_set putD_take putD_takeN putD_setd putD_setw putD_setp getLD setLD
set_option linter.unusedSimpArgs false
set_option linter.unusedVariables false
set_option maxRecDepth 100000
set_option maxHeartbeats 4000000
attribute [local go_sem] take_u8 take_u8v drop_u8v len_u8v viewL_mv eqVs_u8s zsV_Z64 Z64_len Nat.min_self Nat.min_eq_right

attribute [local go_sem] putR_len putR_s putR_d putR_app putR_put putR_get0 putR_get putR_set0 putR_set putR_take putR_takeN putR_setd getLR setLR cellsR

theorem rrgo {p q : Prop} (k : Later q) (h : Later q → p := by (intro k; (first | with_reducible (first | refine c_seq ?_ | refine c_block ?_ | refine c_region ?_ | refine c_skip ?_ | refine c_exit ?_ | refine c_ret ?_ | refine then_normal ?_ | refine then_exit ?_ | refine then_ret ?_ | refine block_normal ?_ | refine block_here ?_ | refine block_ret ?_ | refine block_far (by decide) ?_ | refine ops_nil ?_ | refine c_cond_t rfl ?_ | refine c_cond_f rfl ?_) | ((with_reducible apply ops_pure); rfl; (simp (disch := (first | omega | assumption | ((repeat' with_reducible apply And.intro) <;> first | omega | assumption | rfl | (apply Or.inl; rfl) | (apply Or.inr; first | rfl | trivial | fail) | fail) | fail)) only [go_sem, if_pos, if_neg, wrapI, wrapU, decide_eq_true, decide_eq_false, beqT, beqF, bneT, bneF, hm, hm2, hm3, hm4, hm5] <;> rfl); simp only [go_sem]) | ((with_reducible apply ops_pureF); rfl; (intro _; simp (disch := (first | omega | assumption | ((repeat' with_reducible apply And.intro) <;> first | omega | assumption | rfl | (apply Or.inl; rfl) | (apply Or.inr; first | rfl | trivial | fail) | fail) | fail)) only [go_sem, if_pos, if_neg, wrapI, wrapU, decide_eq_true, decide_eq_false, beqT, beqF, bneT, bneF, hm, hm2, hm3, hm4, hm5] <;> rfl); simp only [go_sem]) | ((with_reducible apply ops_pureD); kernel_rfl; rfl; (simp (disch := (first | omega | assumption | ((repeat' with_reducible apply And.intro) <;> first | omega | assumption | rfl | (apply Or.inl; rfl) | (apply Or.inr; first | rfl | trivial | fail) | fail) | fail)) only [go_sem, if_pos, if_neg, wrapI, wrapU, decide_eq_true, decide_eq_false, beqT, beqF, bneT, bneF, hm, hm2, hm3, hm4, hm5] <;> rfl); simp only [go_sem]) | ((with_reducible apply ops_skip); rfl; simp only [go_sem]) | ((with_reducible apply c_regionD); kernel_rfl) | ((first | ((with_reducible apply ops_eff); decide) | (with_reducible apply ops_lit)); rfl; (simp (disch := (first | omega | assumption | ((repeat' with_reducible apply And.intro) <;> first | omega | assumption | rfl | (apply Or.inl; rfl) | (apply Or.inr; first | rfl | trivial | fail) | fail) | fail)) only [go_sem, if_pos, if_neg, wrapI, wrapU, decide_eq_true, decide_eq_false, beqT, beqF, bneT, bneF, hm, hm2, hm3, hm4, hm5] <;> rfl); simp only [go_sem])); (repeat (first | with_reducible (first | refine c_seq ?_ | refine c_block ?_ | refine c_region ?_ | refine c_skip ?_ | refine c_exit ?_ | refine c_ret ?_ | refine then_normal ?_ | refine then_exit ?_ | refine then_ret ?_ | refine block_normal ?_ | refine block_here ?_ | refine block_ret ?_ | refine block_far (by decide) ?_ | refine ops_nil ?_ | refine c_cond_t rfl ?_ | refine c_cond_f rfl ?_) | ((with_reducible apply ops_pure); rfl; (simp (disch := (first | omega | assumption | ((repeat' with_reducible apply And.intro) <;> first | omega | assumption | rfl | (apply Or.inl; rfl) | (apply Or.inr; first | rfl | trivial | fail) | fail) | fail)) only [go_sem, if_pos, if_neg, wrapI, wrapU, decide_eq_true, decide_eq_false, beqT, beqF, bneT, bneF, hm, hm2, hm3, hm4, hm5] <;> rfl); simp only [go_sem]) | ((with_reducible apply ops_pureF); rfl; (intro _; simp (disch := (first | omega | assumption | ((repeat' with_reducible apply And.intro) <;> first | omega | assumption | rfl | (apply Or.inl; rfl) | (apply Or.inr; first | rfl | trivial | fail) | fail) | fail)) only [go_sem, if_pos, if_neg, wrapI, wrapU, decide_eq_true, decide_eq_false, beqT, beqF, bneT, bneF, hm, hm2, hm3, hm4, hm5] <;> rfl); simp only [go_sem]) | ((with_reducible apply ops_pureD); kernel_rfl; rfl; (simp (disch := (first | omega | assumption | ((repeat' with_reducible apply And.intro) <;> first | omega | assumption | rfl | (apply Or.inl; rfl) | (apply Or.inr; first | rfl | trivial | fail) | fail) | fail)) only [go_sem, if_pos, if_neg, wrapI, wrapU, decide_eq_true, decide_eq_false, beqT, beqF, bneT, bneF, hm, hm2, hm3, hm4, hm5] <;> rfl); simp only [go_sem]) | ((with_reducible apply ops_skip); rfl; simp only [go_sem]) | ((with_reducible apply c_regionD); kernel_rfl) | ((first | ((with_reducible apply ops_eff); decide) | (with_reducible apply ops_lit)); rfl; (simp (disch := (first | omega | assumption | ((repeat' with_reducible apply And.intro) <;> first | omega | assumption | rfl | (apply Or.inl; rfl) | (apply Or.inr; first | rfl | trivial | fail) | fail) | fail)) only [go_sem, if_pos, if_neg, wrapI, wrapU, decide_eq_true, decide_eq_false, beqT, beqF, bneT, bneF, hm, hm2, hm3, hm4, hm5] <;> rfl); simp only [go_sem]))); exact k.get)) : p := h k
theorem rrgoL {p q : Prop} (k : Later q) (h : Later q → p := by (intro k; (first | with_reducible (first | refine c_seq ?_ | refine c_block ?_ | refine c_region ?_ | refine c_skip ?_ | refine c_exit ?_ | refine c_ret ?_ | refine then_normal ?_ | refine then_exit ?_ | refine then_ret ?_ | refine block_normal ?_ | refine block_here ?_ | refine block_ret ?_ | refine block_far (by decide) ?_ | refine ops_nil ?_ | refine c_cond_t rfl ?_ | refine c_cond_f rfl ?_) | ((with_reducible apply ops_lit); rfl; (simp (disch := (first | omega | assumption | ((repeat' with_reducible apply And.intro) <;> first | omega | assumption | rfl | (apply Or.inl; rfl) | (apply Or.inr; first | rfl | trivial | fail) | fail) | fail)) only [go_sem, if_pos, if_neg, wrapI, wrapU, decide_eq_true, decide_eq_false, beqT, beqF, bneT, bneF, hm, hm2, hm3, hm4, hm5] <;> rfl); simp only [go_sem]) | ((with_reducible apply ops_pure); rfl; (simp (disch := (first | omega | assumption | ((repeat' with_reducible apply And.intro) <;> first | omega | assumption | rfl | (apply Or.inl; rfl) | (apply Or.inr; first | rfl | trivial | fail) | fail) | fail)) only [go_sem, if_pos, if_neg, wrapI, wrapU, decide_eq_true, decide_eq_false, beqT, beqF, bneT, bneF, hm, hm2, hm3, hm4, hm5] <;> rfl); simp only [go_sem]) | ((with_reducible apply ops_pureF); rfl; (intro _; simp (disch := (first | omega | assumption | ((repeat' with_reducible apply And.intro) <;> first | omega | assumption | rfl | (apply Or.inl; rfl) | (apply Or.inr; first | rfl | trivial | fail) | fail) | fail)) only [go_sem, if_pos, if_neg, wrapI, wrapU, decide_eq_true, decide_eq_false, beqT, beqF, bneT, bneF, hm, hm2, hm3, hm4, hm5] <;> rfl); simp only [go_sem]) | ((with_reducible apply ops_pureD); kernel_rfl; rfl; (simp (disch := (first | omega | assumption | ((repeat' with_reducible apply And.intro) <;> first | omega | assumption | rfl | (apply Or.inl; rfl) | (apply Or.inr; first | rfl | trivial | fail) | fail) | fail)) only [go_sem, if_pos, if_neg, wrapI, wrapU, decide_eq_true, decide_eq_false, beqT, beqF, bneT, bneF, hm, hm2, hm3, hm4, hm5] <;> rfl); simp only [go_sem]) | ((with_reducible apply ops_skip); rfl; simp only [go_sem]) | ((with_reducible apply c_regionD); kernel_rfl) | ((first | ((with_reducible apply ops_eff); decide) | (with_reducible apply ops_lit)); rfl; (simp (disch := (first | omega | assumption | ((repeat' with_reducible apply And.intro) <;> first | omega | assumption | rfl | (apply Or.inl; rfl) | (apply Or.inr; first | rfl | trivial | fail) | fail) | fail)) only [go_sem, if_pos, if_neg, wrapI, wrapU, decide_eq_true, decide_eq_false, beqT, beqF, bneT, bneF, hm, hm2, hm3, hm4, hm5] <;> rfl); simp only [go_sem])); (repeat (first | with_reducible (first | refine c_seq ?_ | refine c_block ?_ | refine c_region ?_ | refine c_skip ?_ | refine c_exit ?_ | refine c_ret ?_ | refine then_normal ?_ | refine then_exit ?_ | refine then_ret ?_ | refine block_normal ?_ | refine block_here ?_ | refine block_ret ?_ | refine block_far (by decide) ?_ | refine ops_nil ?_ | refine c_cond_t rfl ?_ | refine c_cond_f rfl ?_) | ((with_reducible apply ops_lit); rfl; (simp (disch := (first | omega | assumption | ((repeat' with_reducible apply And.intro) <;> first | omega | assumption | rfl | (apply Or.inl; rfl) | (apply Or.inr; first | rfl | trivial | fail) | fail) | fail)) only [go_sem, if_pos, if_neg, wrapI, wrapU, decide_eq_true, decide_eq_false, beqT, beqF, bneT, bneF, hm, hm2, hm3, hm4, hm5] <;> rfl); simp only [go_sem]) | ((with_reducible apply ops_pure); rfl; (simp (disch := (first | omega | assumption | ((repeat' with_reducible apply And.intro) <;> first | omega | assumption | rfl | (apply Or.inl; rfl) | (apply Or.inr; first | rfl | trivial | fail) | fail) | fail)) only [go_sem, if_pos, if_neg, wrapI, wrapU, decide_eq_true, decide_eq_false, beqT, beqF, bneT, bneF, hm, hm2, hm3, hm4, hm5] <;> rfl); simp only [go_sem]) | ((with_reducible apply ops_pureF); rfl; (intro _; simp (disch := (first | omega | assumption | ((repeat' with_reducible apply And.intro) <;> first | omega | assumption | rfl | (apply Or.inl; rfl) | (apply Or.inr; first | rfl | trivial | fail) | fail) | fail)) only [go_sem, if_pos, if_neg, wrapI, wrapU, decide_eq_true, decide_eq_false, beqT, beqF, bneT, bneF, hm, hm2, hm3, hm4, hm5] <;> rfl); simp only [go_sem]) | ((with_reducible apply ops_pureD); kernel_rfl; rfl; (simp (disch := (first | omega | assumption | ((repeat' with_reducible apply And.intro) <;> first | omega | assumption | rfl | (apply Or.inl; rfl) | (apply Or.inr; first | rfl | trivial | fail) | fail) | fail)) only [go_sem, if_pos, if_neg, wrapI, wrapU, decide_eq_true, decide_eq_false, beqT, beqF, bneT, bneF, hm, hm2, hm3, hm4, hm5] <;> rfl); simp only [go_sem]) | ((with_reducible apply ops_skip); rfl; simp only [go_sem]) | ((with_reducible apply c_regionD); kernel_rfl) | ((first | ((with_reducible apply ops_eff); decide) | (with_reducible apply ops_lit)); rfl; (simp (disch := (first | omega | assumption | ((repeat' with_reducible apply And.intro) <;> first | omega | assumption | rfl | (apply Or.inl; rfl) | (apply Or.inr; first | rfl | trivial | fail) | fail) | fail)) only [go_sem, if_pos, if_neg, wrapI, wrapU, decide_eq_true, decide_eq_false, beqT, beqF, bneT, bneF, hm, hm2, hm3, hm4, hm5] <;> rfl); simp only [go_sem]))); exact k.get)) : p := h k
theorem rrgoX {p q : Prop} (k : Later q) (h : Later q → p := by (intro k; (first | with_reducible (first | refine c_seq ?_ | refine c_block ?_ | refine c_skip ?_ | refine c_exit ?_ | refine c_ret ?_ | refine then_normal ?_ | refine then_exit ?_ | refine then_ret ?_ | refine block_normal ?_ | refine block_here ?_ | refine block_ret ?_ | refine block_far (by decide) ?_ | refine ops_nil ?_ | refine c_cond_t rfl ?_ | refine c_cond_f rfl ?_) | ((with_reducible apply ops_pure); rfl; (simp (disch := (first | omega | assumption | ((repeat' with_reducible apply And.intro) <;> first | omega | assumption | rfl | (apply Or.inl; rfl) | (apply Or.inr; first | rfl | trivial | fail) | fail) | fail)) only [go_sem, if_pos, if_neg, wrapI, wrapU, decide_eq_true, decide_eq_false, beqT, beqF, bneT, bneF, hm, hm2, hm3, hm4, hm5] <;> rfl); simp only [go_sem]) | ((with_reducible apply ops_pureF); rfl; (intro _; simp (disch := (first | omega | assumption | ((repeat' with_reducible apply And.intro) <;> first | omega | assumption | rfl | (apply Or.inl; rfl) | (apply Or.inr; first | rfl | trivial | fail) | fail) | fail)) only [go_sem, if_pos, if_neg, wrapI, wrapU, decide_eq_true, decide_eq_false, beqT, beqF, bneT, bneF, hm, hm2, hm3, hm4, hm5] <;> rfl); simp only [go_sem]) | ((with_reducible apply ops_pureD); kernel_rfl; rfl; (simp (disch := (first | omega | assumption | ((repeat' with_reducible apply And.intro) <;> first | omega | assumption | rfl | (apply Or.inl; rfl) | (apply Or.inr; first | rfl | trivial | fail) | fail) | fail)) only [go_sem, if_pos, if_neg, wrapI, wrapU, decide_eq_true, decide_eq_false, beqT, beqF, bneT, bneF, hm, hm2, hm3, hm4, hm5] <;> rfl); simp only [go_sem]) | ((with_reducible apply ops_skip); rfl; simp only [go_sem]) | ((with_reducible apply c_regionD); kernel_rfl) | ((first | ((with_reducible apply ops_eff); decide) | (with_reducible apply ops_lit)); rfl; (simp (disch := (first | omega | assumption | ((repeat' with_reducible apply And.intro) <;> first | omega | assumption | rfl | (apply Or.inl; rfl) | (apply Or.inr; first | rfl | trivial | fail) | fail) | fail)) only [go_sem, if_pos, if_neg, wrapI, wrapU, decide_eq_true, decide_eq_false, beqT, beqF, bneT, bneF, hm, hm2, hm3, hm4, hm5] <;> rfl); simp only [go_sem])); (repeat (first | with_reducible (first | refine c_seq ?_ | refine c_block ?_ | refine c_skip ?_ | refine c_exit ?_ | refine c_ret ?_ | refine then_normal ?_ | refine then_exit ?_ | refine then_ret ?_ | refine block_normal ?_ | refine block_here ?_ | refine block_ret ?_ | refine block_far (by decide) ?_ | refine ops_nil ?_ | refine c_cond_t rfl ?_ | refine c_cond_f rfl ?_) | ((with_reducible apply ops_pure); rfl; (simp (disch := (first | omega | assumption | ((repeat' with_reducible apply And.intro) <;> first | omega | assumption | rfl | (apply Or.inl; rfl) | (apply Or.inr; first | rfl | trivial | fail) | fail) | fail)) only [go_sem, if_pos, if_neg, wrapI, wrapU, decide_eq_true, decide_eq_false, beqT, beqF, bneT, bneF, hm, hm2, hm3, hm4, hm5] <;> rfl); simp only [go_sem]) | ((with_reducible apply ops_pureF); rfl; (intro _; simp (disch := (first | omega | assumption | ((repeat' with_reducible apply And.intro) <;> first | omega | assumption | rfl | (apply Or.inl; rfl) | (apply Or.inr; first | rfl | trivial | fail) | fail) | fail)) only [go_sem, if_pos, if_neg, wrapI, wrapU, decide_eq_true, decide_eq_false, beqT, beqF, bneT, bneF, hm, hm2, hm3, hm4, hm5] <;> rfl); simp only [go_sem]) | ((with_reducible apply ops_pureD); kernel_rfl; rfl; (simp (disch := (first | omega | assumption | ((repeat' with_reducible apply And.intro) <;> first | omega | assumption | rfl | (apply Or.inl; rfl) | (apply Or.inr; first | rfl | trivial | fail) | fail) | fail)) only [go_sem, if_pos, if_neg, wrapI, wrapU, decide_eq_true, decide_eq_false, beqT, beqF, bneT, bneF, hm, hm2, hm3, hm4, hm5] <;> rfl); simp only [go_sem]) | ((with_reducible apply ops_skip); rfl; simp only [go_sem]) | ((with_reducible apply c_regionD); kernel_rfl) | ((first | ((with_reducible apply ops_eff); decide) | (with_reducible apply ops_lit)); rfl; (simp (disch := (first | omega | assumption | ((repeat' with_reducible apply And.intro) <;> first | omega | assumption | rfl | (apply Or.inl; rfl) | (apply Or.inr; first | rfl | trivial | fail) | fail) | fail)) only [go_sem, if_pos, if_neg, wrapI, wrapU, decide_eq_true, decide_eq_false, beqT, beqF, bneT, bneF, hm, hm2, hm3, hm4, hm5] <;> rfl); simp only [go_sem]))); exact k.get)) : p := h k
theorem rrsv {p : Prop} (h : p := by simp (disch := (first | omega | assumption | ((repeat' with_reducible apply And.intro) <;> first | omega | assumption | rfl | (apply Or.inl; rfl) | (apply Or.inr; first | rfl | trivial | fail) | fail) | fail)) only [go_sem, if_pos, if_neg, wrapI, wrapU, decide_eq_true, decide_eq_false, beqT, beqF, bneT, bneF, hm, hm2, hm3, hm4, hm5] <;> rfl) : p := h
theorem rrcall {T : Tab} {X : CallP} {n0 lo : Nat} {wt : List Tmp} {draw : Bool} {ops : Array Oper} {Q : St → Prop} {rest : List Oper} {o : Oper} {env : List D} {sto : Sto} {f : FuncId} {args : List D} (k : ∃ r, X f args sto (if draw then sto.length else lo) r sto ∧ EvOps T X n0 lo wt draw ops Q rest (St.put ⟨env, sto⟩ o.dst r)) (hg : guardD ops o env = some true := by rfl) (h : evCallee (opd env) sto o = some (f, args) := by simp (disch := (first | omega | assumption | ((repeat' with_reducible apply And.intro) <;> first | omega | assumption | rfl | (apply Or.inl; rfl) | (apply Or.inr; first | rfl | trivial | fail) | fail) | fail)) only [go_sem, if_pos, if_neg, wrapI, wrapU, decide_eq_true, decide_eq_false, beqT, beqF, bneT, bneF, hm, hm2, hm3, hm4, hm5] <;> rfl) : EvOps T X n0 lo wt draw ops Q (o :: rest) ⟨env, sto⟩ := k.elim fun _ k => ops_call hg h k.1 k.2
def secAt (R : RK) (i : Int) : SecR := R.s.getD i.toNat ⟨[], [], false, false⟩
theorem secAt_eq {R : RK} {i : Nat} (h : i < R.s.length) : secAt R i = R.s[i] := by simp [secAt, List.getD, h]
theorem isR_iff {R : RK} {i : Int} : isR R i = true ↔ 0 ≤ i ∧ i < R.s.length := by simp [isR]
def rreadS (R : RK) (i : Int) : By × Int :=
  if R.off then ([], 18) else if isR R i = false then ([], 1) else if (secAt R i).dy then ((secAt R i).nx, 0) else ((secAt R i).tx, 0)
theorem rread_ev (R : RK) (hR : R.ok) (i : Int) (q a : Nat) (hqa : q ≠ a) : RefR 33 [.ptr q 0, .v (VI i)] q a R (.v (.tup [STR (rreadS R i).1, VI (rreadS R i).2])) := by
  have hc := is_ev R i q a hqa
  have hfl := flatR_len R.s
  intro sto lo hq ha hlo; refine CallEv.intro ⟨_, _, [], Try.func33, rfl, by decide, ?_⟩; simp only [go_sem, Try.ntmps33]
  cases ho : R.off with
  | true =>
    rw [show rreadS R i = ([], 18) by simp [rreadS, ho]]
    have hm := ho
    have hm2 : True := trivial
    have hm3 := hm2
    have hm4 := hm2
    have hm5 := hm2
    (try refine rrgo ⟨?_⟩)
    refine ⟨by first | exact .inr rfl | exact .inl rfl, .inl ⟨[], _, (by dsimp only [Try.f33]; exact rrsv), ?_, ?_⟩⟩; all_goals (first | rfl | (simp (disch := first | omega | assumption) only [putR_setd, putR_takeN, putR_take]; done) | (simp (disch := first | omega | assumption) only [putR_setd, putR_takeN, putR_take]; rfl) | skip)
  | false =>
    cases hi : isR R i with
    | false =>
      rw [show rreadS R i = ([], 1) by simp [rreadS, ho, hi]]
      rw [hi] at hc
      have hm := ho
      have hm2 : True := trivial
      have hm3 := hm2
      have hm4 := hm2
      have hm5 := hm2
      (try refine rrgo ⟨?_⟩)
      ((refine rrcall ?_); (refine ⟨_, hc _ _ hq ha (by first | omega | (simp only [putR_len, if_true, if_false, reduceIte, Bool.false_eq_true, List.length_append]; omega)), ?_⟩); (try simp only [go_sem]))
      (try refine rrgo ⟨?_⟩)
      refine ⟨by first | exact .inr rfl | exact .inl rfl, .inl ⟨[], _, (by dsimp only [Try.f33]; exact rrsv), ?_, ?_⟩⟩; all_goals (first | rfl | (simp (disch := first | omega | assumption) only [putR_setd, putR_takeN, putR_take]; done) | (simp (disch := first | omega | assumption) only [putR_setd, putR_takeN, putR_take]; rfl) | skip)
    | true =>
      obtain ⟨h3, h4⟩ := isR_iff.1 hi
      rw [hi] at hc
      obtain ⟨i, rfl⟩ := Int.eq_ofNat_of_zero_le h3
      have h4' : i < R.s.length := by omega
      obtain ⟨hm2, hm3, hm4, hm5⟩ := flatR_get1 h4'
      have hm := ho
      have hsec := secAt_eq h4'
      cases hd : (R.s[i]).dy with
      | true =>
        rw [show rreadS R i = ((R.s[i]).nx, 0) by simp [rreadS, ho, hi, hsec, hd]]
        rw [hd] at hm4
        (try refine rrgo ⟨?_⟩)
        ((refine rrcall ?_); (refine ⟨_, hc _ _ hq ha (by first | omega | (simp only [putR_len, if_true, if_false, reduceIte, Bool.false_eq_true, List.length_append]; omega)), ?_⟩); (try simp only [go_sem]))
        (try refine rrgo ⟨?_⟩)
        refine ⟨by first | exact .inr rfl | exact .inl rfl, .inl ⟨[], _, (by dsimp only [Try.f33]; exact rrsv), ?_, ?_⟩⟩; all_goals (first | rfl | (simp (disch := first | omega | assumption) only [putR_setd, putR_takeN, putR_take]; done) | (simp (disch := first | omega | assumption) only [putR_setd, putR_takeN, putR_take]; rfl) | skip)
      | false =>
        rw [show rreadS R i = ((R.s[i]).tx, 0) by simp [rreadS, ho, hi, hsec, hd]]
        rw [hd] at hm4
        (try refine rrgo ⟨?_⟩)
        ((refine rrcall ?_); (refine ⟨_, hc _ _ hq ha (by first | omega | (simp only [putR_len, if_true, if_false, reduceIte, Bool.false_eq_true, List.length_append]; omega)), ?_⟩); (try simp only [go_sem]))
        (try refine rrgo ⟨?_⟩)
        refine ⟨by first | exact .inr rfl | exact .inl rfl, .inl ⟨[], _, (by dsimp only [Try.f33]; exact rrsv), ?_, ?_⟩⟩; all_goals (first | rfl | (simp (disch := first | omega | assumption) only [putR_setd, putR_takeN, putR_take]; done) | (simp (disch := first | omega | assumption) only [putR_setd, putR_takeN, putR_take]; rfl) | skip)
def rwearS (R : RK) (i : Int) : RK × Int := if isR R i = false then (R, 1) else ({ R with s := R.s.set i.toNat { secAt R i with wn := true } }, 0)
theorem rwear_ev (R : RK) (hR : R.ok) (i : Int) (q a : Nat) (hqa : q ≠ a) : RefW 38 [.ptr q 0, .v (VI i)] q a R (.v (VI (rwearS R i).2)) (rwearS R i).1 := by
  have hc := is_ev R i q a hqa
  have hfl := flatR_len R.s
  have hm : True := trivial
  have hm2 := hm
  have hm3 := hm
  have hm4 := hm
  intro sto lo hq ha hlq hla; refine CallEv.intro ⟨_, _, [], Try.func38, rfl, by decide, ?_⟩; simp only [go_sem, Try.ntmps38]
  cases hi : isR R i with
  | false =>
    rw [show rwearS R i = (R, 1) by simp [rwearS, hi]]
    rw [hi] at hc
    have hm5 := hm
    (try refine rrgo ⟨?_⟩)
    ((refine rrcall ?_); (refine ⟨_, hc _ _ hq ha (by first | omega | (simp only [putR_len, if_true, if_false, reduceIte, Bool.false_eq_true, List.length_append]; omega)), ?_⟩); (try simp only [go_sem]))
    (try refine rrgo ⟨?_⟩)
    refine ⟨by first | exact .inr rfl | exact .inl rfl, .inl ⟨[], _, (by dsimp only [Try.f38]; exact rrsv), ?_, ?_⟩⟩; all_goals (first | rfl | (simp (disch := first | omega | assumption) only [putR_setd, putR_takeN, putR_take]; done) | (simp (disch := first | omega | assumption) only [putR_setd, putR_takeN, putR_take]; rfl) | skip)
  | true =>
    obtain ⟨h3, h4⟩ := isR_iff.1 hi
    obtain ⟨i, rfl⟩ := Int.eq_ofNat_of_zero_le h3
    have h4' : i < R.s.length := by omega
    rw [show rwearS R i = ({ R with s := R.s.set i { R.s[i] with wn := true } }, 0) by simp [rwearS, hi, secAt_eq h4']]
    rw [hi] at hc
    have hm5 := flatR_put h4' (j := 3) [.bool true] { R.s[i] with wn := true } (by simp) rfl
    simp only [List.length_cons, List.length_nil, Nat.zero_add, List.append_assoc, List.cons_append, List.nil_append] at hm5
    have hl : (R.s.set i { R.s[i] with wn := true }).length = R.s.length := by simp
    obtain ⟨s, off, lf⟩ := R
    simp only at *
    (try refine rrgo ⟨?_⟩)
    ((refine rrcall ?_); (refine ⟨_, hc _ _ hq ha (by first | omega | (simp only [putR_len, if_true, if_false, reduceIte, Bool.false_eq_true, List.length_append]; omega)), ?_⟩); (try simp only [go_sem]))
    (try refine rrgo ⟨?_⟩)
    rw [putR_sets hqa hl]
    refine ⟨by first | exact .inr rfl | exact .inl rfl, .inl ⟨[], _, (by dsimp only [Try.f38]; exact rrsv), ?_, ?_⟩⟩; all_goals (first | rfl | (simp (disch := first | omega | assumption) only [putR_setd, putR_takeN, putR_take]; done) | (simp (disch := first | omega | assumption) only [putR_setd, putR_takeN, putR_take]; rfl) | skip)
end Go.Proofs.Ytghdanpigohnjaa
