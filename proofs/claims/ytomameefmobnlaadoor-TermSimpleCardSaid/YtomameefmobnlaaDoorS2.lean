/-
  One operation of the evaluator is one of the model's; regions in the order of the text. No condition of its own. Regions that draw their order: whatever order the tape picks, they come to what the order of the text comes to. No condition of its own. Regions that draw their order: the walk of all orders. No condition of its own. Regions that draw their order and make boxes: the boxes' entries are laid by first, so that no order moves another. No condition of its own. Code in the evaluator is code in the model: sequences, branches, blocks, loops; calls. No condition of its own. The evaluator is right: what it says of a call holds of the model's run. No condition of its own. The table of the types of this program, for the evaluator. No condition of its own. The rules by which a walk goes through code in the evaluator. No condition of its own. Plain data's names and small laws for walks in the evaluator. No condition of its own. The numbers that the reference draws. Plain Lean. No condition of its own. What the row's list gives the walks: word's table of operations stands in memory. And from the row's arguments to plain data. No condition of its own. Rules for walks that part by themselves. No condition of its own. Cuts: what is known of the state takes the state's place. No condition of its own. The walk's tactics, each laid into a hypothesis that it proves itself, so that a text only names it. No condition of its own. The shelf's layings: slices.Sort at ints, slices.Sorted(maps.Keys(m)) at int keys, as plain text (printed by tools/lay_shelf.py). No condition of its own. slices.Sorted(maps.Keys(m)) at int keys, in the evaluator's words: a new slice of the sorted keys. No condition of its own. The reference's small functions: Around, At, SameInts. No condition of its own. slices.Equal at ints. No condition of its own. Memories that agree on all that is older than a region's new boxes. No condition of its own. Terms: trees of nodes as plain data, what the reference says of them, and that what it makes are terms. Plain Lean. No condition of its own. Terms: what the reference makes of numbers are terms; how large they are. Plain Lean. No condition of its own.
-/
import Derived.Test.YtomameefmobnlaaDoorS1
import Derived.Test.YtomameefmobnlaaDoorProg
import Derived.Test.YtomameefmobnlaaDoorS0
import Derived.LaidMore
import Derived.MakeChecks
import Derived.Stop.Joined
import Derived.Shelf.SlIterI.Nil
import Derived.Shelf.SortM.Plain
import Derived.Shelf.SortM.SortNone
import Derived.WalkKit
namespace Go.Proofs.YtomameefmobnlaaDoor
open Go Go.RowKit

/-- What the evaluator says of a call, said of the model's. -/
def CallOK (P : Program) : CallP := fun f args sto lo r sto' =>
  callable P f = true ∧ ∀ S gh w vals, lo ≤ sto.length → SR S gh w sto → GlobOK S w → Pw (RepD S gh sto w) vals args →
    Calls P f vals.toArray w fun e w' => ∃ v S' gh', e = .returned v ∧ RepD S' gh' sto' w' v r ∧ SR S' gh' w' sto' ∧ Fr sto.length lo S gh w sto S' gh' w' sto' ∧ sto.length ≤ sto'.length
section
variable {P : Program} {T : Tab} {S : Stay} {gh : List Value} {w : World} {a : Act} {st : St} {n0 lo : Nat} {wt : List Tmp} {draw : Bool} {ops : Array Oper}
theorem RS.put {S' : Stay} {gh' : List Value} {w' : World} {sto' : Sto} (h : RS S gh w a st) (hs : SR S' gh' w' sto') (hf : Fr st.sto.length lo S gh w st.sto S' gh' w' sto') {v : Value} {d : D} (hd : RepD S' gh' sto' w' v d) (dst : Option Tmp) : RS S' gh' w' (a.put dst v) (St.put { st with sto := sto' } dst d) := by
  have henv : ∀ (t : Nat) (u : Value) (e : D), a.tmps.toList[t]? = some u → st.env[t]? = some e → RepD S' gh' sto' w' u e := fun t u e hu he => RepD.mono h.sto hf (h.env t u e hu he)
  cases dst with
  | none => exact ⟨h.size, henv, hs, h.defers, h.glob.mono hf.stable⟩
  | some t =>
    refine ⟨?_, fun t' u e hu he => ?_, hs, h.defers, h.glob.mono hf.stable⟩
    · simp only [Act.put, St.put, Array.toList_setIfInBounds, List.length_set]; exact h.size
    · simp only [Act.put, St.put, Array.toList_setIfInBounds] at hu he
      rcases Nat.decEq t t' with hne | heq
      · rw [List.getElem?_set_ne hne] at hu he
        exact henv t' u e hu he
      · subst heq
        have h1 : t < a.tmps.toList.length := by have := (List.getElem?_eq_some_iff.1 hu).1; simpa using this
        rw [List.getElem?_set_self h1] at hu
        rw [List.getElem?_set_self (by rw [← h.size]; exact h1)] at he
        cases hu; cases he
        exact hd
theorem RS.opd (h : RS S gh w a st) (x : Operand) : RepD S gh st.sto w (a.eval x) (opd st.env x) := opd_rep h.glob h.size h.env x
theorem guard_sound (h : RS S gh w a st) {o : Oper} {b : Bool} (hg : guardD ops o st.env = some b) : Region.wanted o (yielded ops a.tmps) = b := by
  unfold guardD at hg
  unfold Region.wanted
  split at hg
  · rename_i h0
    simp only [h0]
    simpa using hg
  · rename_i j want h0
    simp only [h0]
    split at hg
    · rename_i hd
      simp only [Option.some.injEq] at hg
      subst hg
      simp [yielded, hd]
    · rename_i d hd
      have key : ∀ v, a.tmps[d]? = some v ↔ a.tmps.toList[d]? = some v := fun v => by rw [Array.getElem?_toList]
      split at hg
      · rename_i he
        simp only [Option.some.injEq] at hg
        subst hg
        have : a.tmps[d]? = none := by
          rw [← Array.getElem?_toList, List.getElem?_eq_none_iff]
          rw [List.getElem?_eq_none_iff] at he
          rw [h.size]; exact he
        simp [yielded, hd, this]
      · rename_i b' he
        simp only [Option.some.injEq] at hg
        subst hg
        have hlt : d < a.tmps.toList.length := by rw [h.size]; exact (List.getElem?_eq_some_iff.1 he).1
        have hv := List.getElem?_eq_getElem hlt
        have hr := h.env d _ _ hv he
        have hb := RepV.bool_inv hr
        rw [hb] at hv
        have hv' : a.tmps[d]? = some (.bool b') := (key _).2 hv
        simp only [yielded, hd, Option.bind_some, hv']
        cases b' <;> cases want <;> rfl
      · rename_i he
        simp only [Option.some.injEq] at hg
        subst hg
        have hlt : d < a.tmps.toList.length := by rw [h.size]; exact (List.getElem?_eq_some_iff.1 he).1
        have hv := List.getElem?_eq_getElem hlt
        have hr : a.tmps.toList[d] = undef := h.env d _ _ hv he
        rw [hr] at hv
        have hv' : a.tmps[d]? = some undef := (key _).2 hv
        simp [yielded, hd, hv', undef]
      · cases hg
theorem argD_sound {sto : Sto} (hs : SR S gh w sto) {v : Value} {d d' : D} (h : RepD S gh sto w v d) (ha : argD sto d = some d') : RepD S gh sto w v d' := by
  unfold argD at ha
  split at ha
  · simp only [Option.some.injEq] at ha; subst ha; exact h
  · simp only [Option.some.injEq] at ha; subst ha; exact h
  · simp only [Option.some.injEq] at ha; subst ha; exact h
  · simp only [Option.some.injEq] at ha; subst ha; exact h
  · simp only [Option.some.injEq] at ha; subst ha; exact h
  · simp only [Option.some.injEq] at ha; subst ha; exact h
  · simp only [Option.some.injEq] at ha; subst ha; exact h
  · simp only [Option.some.injEq] at ha; subst ha; exact h
  · simp only [Option.some.injEq] at ha; subst ha; exact h
  · rename_i id n
    split at ha
    · split at ha
      · simp only [Option.some.injEq] at ha; subst ha; exact h
      · cases ha
    · cases hv : view sto (.arr id n) with
      | none => rw [hv] at ha; cases ha
      | some x =>
        rw [hv] at ha
        simp only [Option.map_some, Option.some.injEq] at ha
        subst ha
        exact view_rep hs h hv
  · cases hv : view sto d with
    | none => rw [hv] at ha; cases ha
    | some x =>
      rw [hv] at ha
      simp only [Option.map_some, Option.some.injEq] at ha
      subst ha
      exact view_rep hs h hv
theorem argsD_sound {sto : Sto} (hs : SR S gh w sto) : ∀ (vs : List Value) (ds ds' : List D), Pw (RepD S gh sto w) vs ds → argsD sto ds = some ds' → Pw (RepD S gh sto w) vs ds'
  | [], [], ds', _, h => by simp only [argsD, Option.some.injEq] at h; subst h; exact Pw.nil
  | [], _ :: _, _, h, _ => by have := h.1; simp at this
  | _ :: _, [], _, h, _ => by have := h.1; simp at this
  | v :: vs, d :: ds, ds', hp, h => by
    simp only [argsD] at h
    split at h
    · rename_i x xs h1 h2
      simp only [Option.some.injEq] at h
      subst h
      exact Pw.cons (argD_sound hs (hp.2 0 v d rfl rfl) h1) (argsD_sound hs vs ds xs (by have := hp.drop 1; simpa using this) h2)
    · cases h
theorem evCallee_sound {sto : Sto} (hs : SR S gh w sto) {e : Operand → Value} {ρ : Operand → D} (hρ : ∀ x, RepD S gh sto w (e x) (ρ x)) {o : Oper} {f : FuncId} {args : List D} (h : evCallee ρ sto o = some (f, args)) (hc : callable P f = true) :
    ∃ vals : List Value, (execOp e o).run P w = .ok (.enter f vals.toArray) w ∧ Pw (RepD S gh sto w) vals args := by
  unfold evCallee at h
  split at h
  · rename_i c hop
    have go : ∀ (f0 : Operand), c.callee = .value f0 → ∀ (fid : FuncId) (vs : List Value), e f0 = .func (.func fid) #[] vs.toArray → ∀ (l : List D), argsD sto (c.args.toList.map ρ) = some l → ∀ (ds : List D), Pw (RepD S gh sto w) vs ds → callable P fid = true →
        ∃ vals : List Value, (execOp e o).run P w = .ok (.enter fid vals.toArray) w ∧ Pw (RepD S gh sto w) vals (l ++ ds) := by
      intro f0 hcal fid vs hv l hl ds hds hc
      have ha := argsD_sound hs _ _ _ (argsRep hρ c.args.toList) hl
      refine ⟨c.args.toList.map e ++ vs, ?_, ha.append hds⟩
      have hcal' : (callFunc fid ((c.args.map e) ++ vs.toArray)).run P w = .ok (.enter fid ((c.args.map e) ++ vs.toArray)) w := by
        unfold callable at hc
        split at hc
        · rename_i fn hfn
          simp only [Bool.and_eq_true, bne_iff_ne, ne_eq] at hc
          obtain ⟨b1, b2⟩ := hc
          cases hb : fn.body with
          | none => rw [hb] at b1; cases b1
          | some body => simp [callFunc, hfn, b2, hb]
        · cases hc
      unfold execOp
      simp only [hop, resolve, hcal, hv, Deferred.ofValue, Sem.run_bind, Sem.run_pure, Result.andThen_ok, invoke, Array.empty_append, hcal']
      congr 3
      apply Array.ext'
      simp
    split at h
    · rename_i f0 hcal
      split at h
      · rename_i fid caps hf
        cases hl : argsD sto (c.args.toList.map ρ) with
        | none => rw [hl] at h; cases h
        | some l =>
          rw [hl] at h
          simp only [Option.map_some, Option.some.injEq, Prod.mk.injEq] at h
          obtain ⟨rfl, rfl⟩ := h
          have h0 := hρ f0
          rw [hf] at h0
          obtain ⟨vs, hv, h1, h2⟩ := h0
          exact go f0 hcal fid vs hv l hl (caps.map (.ptr · 0)) ⟨by simp [h1], fun j u d hu hd => by
            rw [List.getElem?_map] at hd
            cases hx : caps[j]? with
            | none => rw [hx] at hd; cases hd
            | some id =>
              rw [hx] at hd
              simp only [Option.map_some, Option.some.injEq] at hd
              subst hd
              obtain ⟨a1, g, a2, a3⟩ := h2 j id hx
              rw [a3] at hu
              cases hu
              exact ⟨a1, g, a2, rfl⟩⟩ hc
      · rename_i fid hf
        cases hl : argsD sto (c.args.toList.map ρ) with
        | none => rw [hl] at h; cases h
        | some l =>
          rw [hl] at h
          simp only [Option.map_some, Option.some.injEq, Prod.mk.injEq] at h
          obtain ⟨rfl, rfl⟩ := h
          have h0 := hρ f0
          rw [hf] at h0
          have h0' : RepV S w (e f0) (.fn fid) := h0
          have hv : e f0 = .func (.func fid) #[] ([] : List Value).toArray := by
            generalize e f0 = v at h0'
            cases h0'; rfl
          have := go f0 hcal fid [] hv l hl [] Pw.nil hc
          rw [List.append_nil] at this
          exact this
      · cases h
    · cases h
  · cases h
/-- A composite slice that stays. -/
theorem lit_stay (hT : T.OK P) {sto : Sto} (hs : SR S gh w sto) {e : Operand → Value} {ρ : Operand → D} (hρ : ∀ x, RepD S gh sto w (e x) (ρ x)) {o : Oper} {t : TypeId} {len : Nat} {ps : Array (Nat × Operand)} (ho : o.op = .buildSlice t len ps) {d : D} (h : evPure T ρ sto o = some d) (lo : Nat) : EffN P lo S gh w sto (execOp e o) d sto := by
  unfold evPure at h
  simp only [ho] at h
  cases hl : evSliceLit T sto t len (ps.toList.map fun p => (p.1, ρ p.2)) with
  | none => rw [hl] at h; cases h
  | some x =>
    rw [hl] at h
    simp only [Option.map_some, Option.some.injEq] at h
    subst h
    obtain ⟨arr, h1, h2, h3, h4, h5⟩ := sliceLit_run (P := P) hT hs hρ hl
    have hb := below_new w (.cells arr x.1)
    obtain ⟨S', hS'⟩ : ∃ S' : Stay, S' = fun b o => S b o ∨ (b = w.heap.size ∧ o < x.2.2.length) := ⟨_, rfl⟩
    have hf : Fr sto.length lo S gh w sto S' gh (w.alloc (.cells arr x.1)) sto := by
      refine ⟨rfl, rfl, rfl, hb.size, fun b o h => ⟨by rw [hS']; exact .inl h, hb.cell (p := ⟨b, o, none⟩) (hs.stay b o h)⟩, fun b hlt _ => hb.block b hlt, fun i _ => ⟨rfl, rfl⟩, fun i g hi hg => .inl ⟨i, hi, hg⟩, fun i e gv _ a1 a2 => ⟨e, gv, a1, a2, KeepE.refl gv e⟩⟩
    refine ⟨_, .slice (some ⟨w.heap.size, 0, none⟩) len len, S', gh, w.alloc (.cells arr x.1), ?_, .inl rfl, ?_, ?_, hf⟩
    · unfold execOp
      simp only [ho, Sem.run_bind, h1, Result.andThen_ok, Sem.run_pure]
    · show RepV S' _ _ _
      have hcell : ∀ j, j < x.2.2.length → ∃ u, arr.toList[j]? = some u := fun j hj => ⟨_, List.getElem?_eq_getElem (by rw [Array.length_toList, h3, ← h4]; exact hj)⟩
      refine .sl w.heap.size 0 len len (fun j => (arr.toList[j]?).getD undef) x.2.2 (Nat.le_refl _) h2 (fun j hj => ?_) (fun j c hc => ?_)
      · obtain ⟨u, hu⟩ := hcell j hj
        have hc : x.2.2[j]? = some x.2.2[j] := List.getElem?_eq_getElem hj
        refine ⟨by rw [hS']; exact .inr ⟨rfl, by omega⟩, ?_, ?_⟩
        · rw [hu]; exact (h5 j u _ hu hc).1
        · rw [Nat.zero_add, cell_heap (heap_alloc_new w _), hu]; rfl
      · obtain ⟨u, hu⟩ := hcell j (List.getElem?_eq_some_iff.1 hc).1
        simp only [hu, Option.getD_some]
        exact RepV.mono hf.stable (h5 j u c hu hc).2
    · refine ⟨hs.len, fun i en hi => ?_, hs.inj, fun b o h => ?_⟩
      · obtain ⟨gv, q1, q2⟩ := hs.ent i en hi
        refine ⟨gv, q1, RepE.mono hs hf q2 fun g hg => ?_⟩
        have hlt := q2.lt hg
        refine ⟨hb.block g hlt, fun o => ⟨fun ho => ?_, fun ho => (hf.stable g o ho).1⟩⟩
        rw [hS'] at ho
        rcases ho with ho | ⟨ho, _⟩
        · exact ho
        · omega
      · rw [hS'] at h
        rcases h with h | ⟨rfl, _⟩
        · exact Nat.lt_of_lt_of_le (hs.stay b o h) hb.size
        · simp
/-- The entries that are older than the call name none of its own. -/
def OutSc (n0 : Nat) (sto : Sto) : Prop := ∀ i ds, i < n0 → sto[i]? = some (.cells ds) → scopedL n0 ds = true
theorem scopedL_iff {m : Nat} : ∀ {ds : List D}, scopedL m ds = true ↔ ∀ d ∈ ds, d.inside m = true
  | [] => by simp [scopedL]
  | d :: ds => by simp [scopedL, scopedL_iff (ds := ds)]
theorem scopedL_app {m : Nat} {as1 bs : List D} : scopedL m (as1 ++ bs) = true ↔ scopedL m as1 = true ∧ scopedL m bs = true := by
  simp only [scopedL_iff, List.mem_append]
  exact ⟨fun h => ⟨fun d hd => h d (.inl hd), fun d hd => h d (.inr hd)⟩, fun h d hd => hd.elim (h.1 d) (h.2 d)⟩
theorem OutSc.push {sto : Sto} (h : OutSc n0 sto) (hn : n0 ≤ sto.length) (e : Ent) : OutSc n0 (sto ++ [e]) := fun i ds hi hd => h i ds hi (by rw [List.getElem?_append_left (by omega)] at hd; exact hd)
theorem OutSc.setArr {sto : Sto} (h : OutSc n0 sto) {id : Nat} {es : Option (TypeId × Nat)} {wr : Bool} {n : Nat} {cs : List V} : OutSc n0 (sto.set id (.arr es wr n cs)) := fun i ds hi hd => by
  rcases Nat.decEq id i with hne | heq
  · rw [List.getElem?_set_ne hne] at hd; exact h i ds hi hd
  · subst heq
    rw [List.getElem?_set] at hd
    split at hd
    · split at hd <;> cases hd
    · exact h _ ds hi hd
theorem OutSc.setMap {sto : Sto} (h : OutSc n0 sto) {id : Nat} {k : IntKind} {kvs : List (Int × V)} : OutSc n0 (sto.set id (.map k kvs)) := fun i ds hi hd => by
  rcases Nat.decEq id i with hne | heq
  · rw [List.getElem?_set_ne hne] at hd; exact h i ds hi hd
  · subst heq
    rw [List.getElem?_set] at hd
    split at hd
    · split at hd <;> cases hd
    · exact h _ ds hi hd
theorem evEff_out {wr : Bool} {ρ : Operand → D} {sto : Sto} {o : Oper} {d : D} {sto' : Sto} (hn : n0 ≤ sto.length) (ho : OutSc n0 sto) (h : evEff T n0 lo wr ρ sto o = some (d, sto')) : OutSc n0 sto' := by
  unfold evEff at h
  split at h
  · rename_i t x _
    cases hc : (ρ x).cells with
    | none => rw [hc] at h; cases h
    | some ds => rw [hc] at h; simp only [Option.map_some, Option.some.injEq, Prod.mk.injEq] at h; rw [← h.2]; exact ho.push hn _
  · split at h
    · rename_i i _
      cases hc : zeroD i with
      | none => rw [hc] at h; cases h
      | some ds => rw [hc] at h; simp only [Option.map_some, Option.some.injEq, Prod.mk.injEq] at h; rw [← h.2]; exact ho.push hn _
    · cases h
  · rename_i t len ps _
    cases hl : evSliceLit T sto t len (ps.toList.map fun p => (p.1, ρ p.2)) with
    | none => rw [hl] at h; cases h
    | some x => rw [hl] at h; simp only [Option.map_some, Option.some.injEq, Prod.mk.injEq] at h; rw [← h.2]; exact ho.push hn _
  · split at h
    · split at h
      · split at h
        · split at h
          · simp only [Option.some.injEq, Prod.mk.injEq] at h; rw [← h.2]; exact ho.push hn _
          · cases h
        · cases h
      · cases h
    · cases h
  · split at h
    · rename_i i ds _ _
      split at h
      · split at h
        · rename_i id off _
          split at h
          · rename_i cs hcs
            split at h
            · rename_i hc
              simp only [Option.some.injEq, Prod.mk.injEq] at h
              rw [← h.2]
              intro k es hk he
              rcases Nat.decEq id k with hne | heq
              · rw [List.getElem?_set_ne hne] at he; exact ho k es hk he
              · subst heq
                rw [List.getElem?_set_self (by omega)] at he
                simp only [Option.some.injEq, Ent.cells.injEq] at he
                subst he
                have h1 := ho id cs hk hcs
                rw [scopedL_iff] at h1
                rw [scopedL_app, scopedL_app]
                refine ⟨⟨scopedL_iff.2 fun d hd => h1 d (List.mem_of_mem_take hd), hc.2.2 hk⟩, scopedL_iff.2 fun d hd => h1 d (List.mem_of_mem_drop hd)⟩
            · cases h
          · cases h
        · split at h
          · split at h
            · simp only [Option.some.injEq, Prod.mk.injEq] at h; rw [← h.2]; exact ho.setArr
            · cases h
          · cases h
        · cases h
      · cases h
    · cases h
  · unfold evMakeMap at h
    split at h
    · split at h
      · simp only [Option.some.injEq, Prod.mk.injEq] at h; rw [← h.2]; exact ho.push hn _
      · simp only [Option.some.injEq, Prod.mk.injEq] at h; rw [← h.2]; exact ho.push hn _
      · cases h
    · cases h
  · unfold evUpdate at h
    split at h
    · split at h
      · split at h
        · simp only [Option.some.injEq, Prod.mk.injEq] at h; rw [← h.2]; exact ho.setMap
        · cases h
      · cases h
    · cases h
  · split at h
    · split at h
      · unfold evAppend at h
        split at h
        · split at h
          · split at h
            · split at h
              · split at h
                · split at h
                  · simp only [Option.some.injEq, Prod.mk.injEq] at h; rw [← h.2]; exact ho
                  · simp only [Option.some.injEq, Prod.mk.injEq] at h; rw [← h.2]; exact ho.push hn _
                · cases h
              · split at h
                · split at h
                  · split at h
                    · simp only [Option.some.injEq, Prod.mk.injEq] at h; rw [← h.2]; exact ho
                    · simp only [Option.some.injEq, Prod.mk.injEq] at h; rw [← h.2]; exact ho.setArr
                  · cases h
                · cases h
              · cases h
            · cases h
          · cases h
        · cases h
      · split at h
        · unfold evAppendZ at h
          split at h
          · split at h
            · split at h
              · split at h
                · simp only [Option.some.injEq, Prod.mk.injEq] at h; rw [← h.2]; exact ho.setArr
                · cases h
              · cases h
            · cases h
          · cases h
        · cases h
    · unfold evClear at h
      split at h
      · split at h
        · split at h
          · split at h
            · simp only [Option.some.injEq, Prod.mk.injEq] at h
              rw [← h.2]
              split
              · exact ho
              · exact ho.setArr
            · cases h
          · cases h
        · cases h
      · cases h
    · unfold evDelete at h
      split at h
      · split at h
        · split at h
          · simp only [Option.some.injEq, Prod.mk.injEq] at h; rw [← h.2]; exact ho.setMap
          · cases h
        · cases h
      · cases h
    · cases h
  · cases h
/-- One operation. -/
theorem op_step (hT : T.OK P) {Q : St → Prop} {Q' : Exit → Act → World → Prop} {K : Act → World → Prop} {o : Oper} {rest : List Oper} (hn : n0 ≤ st.sto.length) (hlo : lo ≤ n0) (hout : OutSc n0 st.sto) (h : EvOps T (CallOK P) n0 lo wt draw ops Q (o :: rest) st) (hrs : RS S gh w a st)
    (hK : ∀ a' w' st' S' gh', EvOps T (CallOK P) n0 lo wt draw ops Q rest st' → RS S' gh' w' a' st' → Fr n0 lo S gh w st.sto S' gh' w' st'.sto → n0 ≤ st'.sto.length → OutSc n0 st'.sto → K a' w') :
    if Region.wanted o (yielded ops a.tmps) = true then o.wp P a w K Q' else K (a.put o.dst undef) w := by
  have hlen : ∀ {S' : Stay} {gh' : List Value} {w' : World} {sto' : Sto}, Fr st.sto.length lo S gh w st.sto S' gh' w' sto' → n0 ≤ sto'.length := by
    intro S' gh' w' sto' hf
    rcases Nat.eq_zero_or_pos n0 with h0 | h0
    · omega
    · obtain ⟨gv, hg, _⟩ := hrs.sto.ent (n0 - 1) _ (List.getElem?_eq_getElem (by omega))
      obtain ⟨e', gv', h1, _⟩ := hf.keep (n0 - 1) _ gv (by omega) (List.getElem?_eq_getElem (by omega)) hg
      have := (List.getElem?_eq_some_iff.1 h1).1
      omega
  have eff : ∀ {d : D} {sto' : Sto}, EffN P lo S gh w st.sto (execOp a.eval o) d sto' → OutSc n0 sto' → EvOps T (CallOK P) n0 lo wt draw ops Q rest (St.put { st with sto := sto' } o.dst d) → o.wp P a w K Q' := by
    intro d sto' ⟨nx, v, S', gh', w', h1, h2, h3, h4, h5⟩ hos k
    have hrs' := RS.put hrs h4 h5 h3 o.dst
    have hst : (St.put { st with sto := sto' } o.dst d).sto = sto' := by cases o.dst <;> rfl
    have fin := hK (a.put o.dst v) w' _ S' gh' k hrs' (by rw [hst]; exact h5.weaken hn) (by rw [hst]; exact hlen h5) (by rw [hst]; exact hos)
    unfold Oper.wp
    rw [h1]
    rcases h2 with rfl | ⟨rfl, rfl⟩
    · exact fin
    · exact fin
  unfold EvOps at h
  split at h
  · rename_i hg
    rw [if_pos (guard_sound hrs hg)]
    rcases h with ⟨d, h1, _, h2⟩ | ⟨d, sto', h1, _, h2⟩ | ⟨f, args, r, sto', h1, h2, _, hso, h3⟩ | ⟨f, args, r, sto', _, _, h1, h2, _, hso, h3⟩
    · by_cases hb : ∃ t n ps, o.op = .buildSlice t n ps
      · obtain ⟨t, n, ps, ho⟩ := hb
        exact eff (lit_stay hT hrs.sto hrs.opd ho h1 lo) hout h2
      · obtain ⟨u, q1, q2⟩ := evPure_sound hT hrs.sto hrs.opd (fun t n ps ho => hb ⟨t, n, ps, ho⟩) h1
        exact eff ⟨.value u, u, S, gh, w, q1, .inl rfl, q2, hrs.sto, Fr.refl _ _ _ _ _ _⟩ hout h2
    · exact eff (evEff_sound hT (by omega) hrs.sto hrs.opd h1) (evEff_out hn hout h1) h2
    · obtain ⟨hc, hcall⟩ := h2
      obtain ⟨vals, q1, q2⟩ := evCallee_sound hrs.sto hrs.opd h1 hc
      unfold Oper.wp
      rw [q1]
      refine Calls.mono (hcall S gh w vals (by cases draw <;> simp <;> omega) hrs.sto hrs.glob q2) ?_
      rintro e w' ⟨v, S', gh', rfl, r1, r2, r3, r4⟩
      have r3' : Fr st.sto.length lo S gh w st.sto S' gh' w' sto' := by
        cases draw with
        | false => simpa using r3
        | true =>
          simp only [if_true] at r3
          refine { r3 with block := fun b hb hn => r3.block b hb fun i hi hg => hn i (by omega) hg, low := fun i hi => r3.low i (by omega), new := fun i g hi hg => ?_ }
          rcases Nat.lt_or_ge i st.sto.length with hlt | hge
          · left
            refine ⟨i, hi, ?_⟩
            unfold blkAt at hg ⊢
            rw [(r3.low i hlt).1] at hg
            exact hg
          · rcases r3.new i g hge hg with ⟨j, hj, hg'⟩ | h'
            · exact .inl ⟨j, by omega, hg'⟩
            · exact .inr h'
      have hrs' := RS.put hrs r2 r3' (d := r) r1 o.dst
      have hst : (St.put { st with sto := sto' } o.dst r).sto = sto' := by cases o.dst <;> rfl
      exact hK _ w' _ S' gh' h3 hrs' (by rw [hst]; exact r3'.weaken hn) (by rw [hst]; omega) (by
        rw [hst]
        rcases hso with rfl | hso
        · exact hout
        · intro i ds hi hd
          rcases Nat.lt_or_ge i lo with hl | hl
          · rw [(r3'.low i hl).2] at hd; exact hout i ds hi hd
          · exact (hso i ds hl hi hd).elim (fun h => hout i ds hi h) id)
    · obtain ⟨hc, hcall⟩ := h2
      obtain ⟨vals, q1, q2⟩ := evCallee_sound hrs.sto hrs.opd h1 hc
      unfold Oper.wp
      rw [q1]
      refine Calls.mono (hcall S gh w vals (by omega) hrs.sto hrs.glob q2) ?_
      rintro e w' ⟨v, S', gh', rfl, r1, r2, r3, r4⟩
      have hrs' := RS.put hrs r2 r3 (d := r) r1 o.dst
      have hst : (St.put { st with sto := sto' } o.dst r).sto = sto' := by cases o.dst <;> rfl
      exact hK _ w' _ S' gh' h3 hrs' (by rw [hst]; exact r3.weaken hn) (by rw [hst]; omega) (by
        rw [hst]
        intro i ds hi hd
        rcases Nat.lt_or_ge i lo with hl | hl
        · rw [(r3.low i hl).2] at hd; exact hout i ds hi hd
        · exact (hso i ds hl hi hd).elim (fun h => hout i ds hi h) id)
  · rename_i hg
    rw [if_neg (by rw [guard_sound hrs hg]; simp)]
    exact hK _ w _ S gh h (RS.put hrs hrs.sto (Fr.refl st.sto.length lo _ _ _ _) (d := .undef) rfl o.dst) (by cases o.dst <;> exact Fr.refl _ _ _ _ _ _) (by cases o.dst <;> exact hn) (by cases o.dst <;> exact hout)
  · exact h.elim
def okExit : Exit → Bool
  | .normal => true
  | .exit _ => true
  | .ret => true
  | _ => false
/-- What a piece of code leaves. -/
def PostOK (n0 lo : Nat) (S : Stay) (gh : List Value) (w : World) (sto : Sto) (R : Exit → St → Prop) (e : Exit) (a' : Act) (w' : World) : Prop :=
  okExit e = true ∧ ∃ st' S' gh', R e st' ∧ RS S' gh' w' a' st' ∧ Fr n0 lo S gh w sto S' gh' w' st'.sto ∧ n0 ≤ st'.sto.length ∧ OutSc n0 st'.sto
theorem PostOK.trans {S' : Stay} {gh' : List Value} {w' : World} {sto sto' : Sto} {R : Exit → St → Prop} (hf : Fr n0 lo S gh w sto S' gh' w' sto') {e : Exit} {a2 : Act} {w2 : World} (h : PostOK n0 lo S' gh' w' sto' R e a2 w2) : PostOK n0 lo S gh w sto R e a2 w2 := by
  obtain ⟨h0, st2, S2, gh2, h1, h2, h3, h4⟩ := h
  exact ⟨h0, st2, S2, gh2, h1, h2, hf.trans h3, h4⟩
/-- A region in the order of the text. -/
theorem evOps_list (hT : T.OK P) {R : Exit → St → Prop} {S0 : Stay} {gh0 : List Value} {w0 : World} {sto0 : Sto} (hlo : lo ≤ n0) : ∀ (l : List Oper) (st : St) (S : Stay) (gh : List Value) (a : Act) (w : World), n0 ≤ st.sto.length → OutSc n0 st.sto → EvOps T (CallOK P) n0 lo wt draw ops (R .normal) l st → RS S gh w a st → Fr n0 lo S0 gh0 w0 sto0 S gh w st.sto →
    wpList P ops (PostOK n0 lo S0 gh0 w0 sto0 R) l a w
  | [], st, S, gh, a, w, hn, ho, h, hrs, hf => ⟨rfl, st, S, gh, h, hrs, hf, hn, ho⟩
  | o :: rest, st, S, gh, a, w, hn, ho, h, hrs, hf => by
    refine wpList_step fun K hK => ?_
    exact op_step hT hn hlo ho h hrs fun a' w' st' S' gh' h1 h2 h3 h4 h5 => hK a' w' (evOps_list hT hlo rest st' S' gh' a' w' h4 h5 h1 h2 (hf.trans h3))
end
end Go.Proofs.YtomameefmobnlaaDoor
namespace Go.Proofs.YtomameefmobnlaaDoor
open Go Go.RowKit

section
variable {T : Tab} {X : CallP} {n0 lo : Nat} {wt : List Tmp} {ops : Array Oper}
theorem evPure_kind {ρ : Operand → D} {sto : Sto} {o : Oper} {d : D} (h : evPure T ρ sto o = some d) : effKind o = 0 := by
  unfold evPure at h
  unfold effKind
  cases hop : o.op <;> rw [hop] at h <;> simp only at h ⊢
  all_goals first | (cases h; done) | skip
  case call c =>
    split at h
    · rename_i b hb
      simp only [hb]
      cases b <;> first | rfl | (simp only [evBuiltin] at h; cases h)
    · cases h
theorem evEff_kind {wr : Bool} {ρ : Operand → D} {sto : Sto} {o : Oper} {x : D × Sto} (h : evEff T n0 lo wr ρ sto o = some x) : effKind o ≠ 3 := by
  unfold evEff at h
  unfold effKind
  cases hop : o.op <;> rw [hop] at h <;> simp only at h ⊢
  all_goals first | (intro h; cases h; done) | (cases h; done) | skip
  case call c =>
    split at h
    · rename_i hb _ _
      simp only [hb]
      intro h; cases h
    · rename_i hb _ _
      simp only [hb]
      intro h; cases h
    · rename_i hb _ _
      simp only [hb]
      intro h; cases h
    · cases h
theorem evCallee_kind {ρ : Operand → D} {sto : Sto} {o : Oper} {x : FuncId × List D} (h : evCallee ρ sto o = some x) : effKind o = 3 := by
  unfold evCallee at h
  unfold effKind
  split at h
  · rename_i hop
    simp only [hop]
    split at h
    · rename_i hb
      simp only [hb]
    · cases h
  · cases h
theorem map_agree {ρ ρ' : Operand → D} {l : List Operand} (h : ∀ x ∈ l, ρ x = ρ' x) : l.map ρ = l.map ρ' := List.map_congr_left h
theorem parts_agree {ρ ρ' : Operand → D} {ps : Array (Nat × Operand)} (h : ∀ x ∈ (ps.toList.map (·.2)).toArray, ρ x = ρ' x) : (ps.toList.map fun p => (p.1, ρ p.2)) = ps.toList.map fun p => (p.1, ρ' p.2) := by
  apply List.map_congr_left
  intro p hp
  rw [h p.2 (by simp only [List.mem_toArray]; exact List.mem_map.2 ⟨p, hp, rfl⟩)]
theorem opt_agree {ρ ρ' : Operand → D} {m : Option Operand} (h : ∀ x ∈ m.toArray, ρ x = ρ' x) : m.map ρ = m.map ρ' := by
  cases m with
  | none => rfl
  | some x => simp only [Option.map_some]; rw [h x (by simp)]
theorem evPure_congr {ρ ρ' : Operand → D} {sto : Sto} {o : Oper} (h : ∀ x ∈ o.op.operands, ρ x = ρ' x) : evPure T ρ sto o = evPure T ρ' sto o := by
  unfold evPure
  cases hop : o.op <;> rw [hop] at h <;> simp only [Op.operands] at h ⊢
  case move x => rw [h x (by simp)]
  case assign x => rw [h x (by simp)]
  case pick c a b => rw [h c (by simp), h a (by simp), h b (by simp)]
  case build t ps => rw [parts_agree h]
  case buildSlice t n ps => rw [parts_agree h]
  case load t x => rw [h x (by simp)]
  case nilCheck x => rw [h x (by simp)]
  case binOp op t x y ty => rw [h x (by simp), h y (by simp)]
  case unOp op t x => rw [h x (by simp)]
  case convert s t x => rw [h x (by simp)]
  case makeFunc fn f c =>
    have hc : c.toList.map ρ = c.toList.map ρ' := map_agree fun x hx => h x (by simp; exact .inr (by simpa using hx))
    cases fn <;> simp only [hc]
  case slice t x l hi m =>
    rw [h x (by simp), opt_agree (m := l) (fun y hy => h y (by simp at hy ⊢; simp [hy])), opt_agree (m := hi) (fun y hy => h y (by simp at hy ⊢; simp [hy])), opt_agree (m := m) (fun y hy => h y (by simp at hy ⊢; simp [hy]))]
  case fieldAddr t x f => rw [h x (by simp)]
  case field t x f => rw [h x (by simp)]
  case indexAddr t x i => rw [h x (by simp), h i (by simp)]
  case index t x i => rw [h x (by simp), h i (by simp)]
  case extract x i => rw [h x (by simp)]
  case lookup t x i ok => rw [h x (by simp), h i (by simp)]
  case call c =>
    have hc : c.args.toList.map ρ = c.args.toList.map ρ' := map_agree fun x hx => h x (by simp only [Call.operands, Array.mem_append]; exact .inr (by simpa using hx))
    rw [hc]
theorem evEff_congr {wr : Bool} {ρ ρ' : Operand → D} {sto : Sto} {o : Oper} (h : ∀ x ∈ o.op.operands, ρ x = ρ' x) : evEff T n0 lo wr ρ sto o = evEff T n0 lo wr ρ' sto o := by
  unfold evEff
  cases hop : o.op <;> rw [hop] at h <;> simp only [Op.operands] at h ⊢
  case box t x => rw [h x (by simp)]
  case buildSlice t n ps => rw [parts_agree h]
  case makeSlice t l c => rw [h l (by simp), h c (by simp)]
  case store t p x => rw [h p (by simp), h x (by simp)]
  case makeMap t r => rw [opt_agree h]
  case mapUpdate t m x v => rw [h m (by simp), h x (by simp), h v (by simp)]
  case call c =>
    have hc : ∀ x ∈ c.args.toList, ρ x = ρ' x := fun x hx => h x (by simp only [Call.operands, Array.mem_append]; exact .inr (by simpa using hx))
    split
    · rename_i x y t t' hb ha ht
      rw [hc x (by rw [ha]; simp), hc y (by rw [ha]; simp)]
    · rename_i x t hb ha ht
      rw [hc x (by rw [ha]; simp)]
    · rename_i m x t t' hb ha ht
      rw [hc m (by rw [ha]; simp), hc x (by rw [ha]; simp)]
    · rfl
theorem evCallee_congr {ρ ρ' : Operand → D} {sto : Sto} {o : Oper} (h : ∀ x ∈ o.op.operands, ρ x = ρ' x) : evCallee ρ sto o = evCallee ρ' sto o := by
  unfold evCallee
  cases hop : o.op <;> rw [hop] at h <;> simp only [Op.operands] at h ⊢
  case call c =>
    have hc : c.args.toList.map ρ = c.args.toList.map ρ' := map_agree fun x hx => h x (by simp only [Call.operands, Array.mem_append]; exact .inr (by simpa using hx))
    split
    · rename_i f hf
      rw [h f (by simp only [Call.operands, hf, Array.mem_append]; exact .inl (by simp)), hc]
    · rfl
/-- What an operation yields. -/
def ValR (T : Tab) (X : CallP) (n0 lo : Nat) (wt : List Tmp) (ops : Array Oper) (o : Oper) (env : List D) (sto : Sto) (d : D) (sto' : Sto) : Prop :=
  (guardD ops o env = some true ∧ ((evPure T (opd env) sto o = some d ∧ ((needsFree ops o = true → ∀ s, evPure T (opd env) s o = some d) ∧ (wCall wt = true → besideCall ops o = true → ∀ s, Own n0 sto s → evPure T (opd env) s o = some d)) ∧ sto' = sto) ∨
    (evEff T n0 lo (wrOf wt o) (opd env) sto o = some (d, sto') ∧ effKind o ≠ 0) ∨
    (∃ f args r, d = r ∧ evCallee (opd env) sto o = some (f, args) ∧ X f args sto sto.length r sto ∧ sto' = sto ∧ needsFree ops o = needsFree ops o) ∨
    (∃ f args r, d = r ∧ wCall wt = true ∧ aloneCall ops o = true ∧ evCallee (opd env) sto o = some (f, args) ∧ X f args sto lo r sto' ∧ Own n0 sto sto' ∧ ∀ i ds, lo ≤ i → i < n0 → sto'[i]? = some (.cells ds) → sto[i]? = some (.cells ds) ∨ scopedL n0 ds = true))) ∨
  (guardD ops o env = some false ∧ d = .undef ∧ sto' = sto)
theorem evOps_cons {Q : St → Prop} {o : Oper} {rest : List Oper} {st : St} : EvOps T X n0 lo wt true ops Q (o :: rest) st ↔ ∃ d sto', ValR T X n0 lo wt ops o st.env st.sto d sto' ∧ EvOps T X n0 lo wt true ops Q rest (St.put ⟨st.env, sto'⟩ o.dst d) := by
  rw [EvOps]
  constructor
  · intro h
    split at h
    · rename_i hg
      rcases h with ⟨d, h1, h2, h3⟩ | ⟨d, sto', h1, h2, h3⟩ | ⟨f, args, r, sto', h1, h2, h3, _, h4⟩ | ⟨f, args, r, sto', hw, ha, h1, h2, h3, h5, h4⟩
      · exact ⟨d, st.sto, .inl ⟨hg, .inl ⟨h1, h2 rfl, rfl⟩⟩, h3⟩
      · exact ⟨d, sto', .inl ⟨hg, .inr (.inl ⟨h1, h2 rfl⟩)⟩, h3⟩
      · obtain rfl := h3 rfl
        exact ⟨r, st.sto, .inl ⟨hg, .inr (.inr (.inl ⟨f, args, r, rfl, h1, h2, rfl, rfl⟩))⟩, h4⟩
      · exact ⟨r, sto', .inl ⟨hg, .inr (.inr (.inr ⟨f, args, r, rfl, hw, ha, h1, h2, h3, h5⟩))⟩, h4⟩
    · rename_i hg
      exact ⟨.undef, st.sto, .inr ⟨hg, rfl, rfl⟩, h⟩
    · exact h.elim
  · rintro ⟨d, sto', ⟨hg, h⟩ | ⟨hg, rfl, rfl⟩, k⟩
    · rw [hg]
      rcases h with ⟨h1, h2, rfl⟩ | ⟨h1, h2⟩ | ⟨f, args, r, rfl, h1, h2, rfl, _⟩ | ⟨f, args, r, rfl, hw, ha, h1, h2, h3, h5⟩
      · exact .inl ⟨d, h1, fun _ => h2, k⟩
      · exact .inr (.inl ⟨d, sto', h1, fun _ => h2, k⟩)
      · exact .inr (.inr (.inl ⟨f, args, d, st.sto, h1, h2, fun _ => rfl, .inl rfl, k⟩))
      · exact .inr (.inr (.inr ⟨f, args, d, sto', hw, ha, h1, h2, h3, h5, k⟩))
    · rw [hg]; exact k
/-- A step that leaves the entries, or a call that writes those that are not the call's own. -/
theorem ValR.same {o : Oper} {env : List D} {sto sto' : Sto} {d : D} (h : ValR T X n0 lo wt ops o env sto d sto') (hk : effKind o = 0 ∨ effKind o = 3) : sto' = sto ∨ (effKind o = 3 ∧ wCall wt = true ∧ aloneCall ops o = true ∧ Own n0 sto sto') := by
  rcases h with ⟨hg, ⟨h1, h2, rfl⟩ | ⟨h1, h2⟩ | ⟨f, args, r, rfl, h1, h2, rfl, _⟩ | ⟨f, args, r, rfl, hw, ha, h1, h2, h3, h5⟩⟩ | ⟨hg, rfl, rfl⟩
  · exact .inl rfl
  · rcases hk with hk | hk
    · exact absurd hk h2
    · exact absurd hk (evEff_kind h1)
  · exact .inl rfl
  · exact .inr ⟨evCallee_kind h1, hw, ha, h3⟩
  · exact .inl rfl
theorem ValR.same0 {o : Oper} {env : List D} {sto sto' : Sto} {d : D} (h : ValR T X n0 lo wt ops o env sto d sto') (hk : effKind o = 0) : sto' = sto :=
  (h.same (.inl hk)).resolve_right fun h => by rw [hk] at h; cases h.1
theorem ValR.free {o : Oper} {env : List D} {sto sto' : Sto} {d : D} (h : ValR T X n0 lo wt ops o env sto d sto') (hk : effKind o = 0) (hn : needsFree ops o = true) (s : Sto) : ValR T X n0 lo wt ops o env s d s := by
  rcases h with ⟨hg, ⟨h1, h2, rfl⟩ | ⟨h1, h2⟩ | ⟨f, args, r, rfl, h1, h2, rfl, _⟩ | ⟨f, args, r, rfl, hw, ha, h1, h2, h3, h5⟩⟩ | ⟨hg, rfl, rfl⟩
  · exact .inl ⟨hg, .inl ⟨h2.1 hn s, ⟨h2.1, fun _ _ s _ => h2.1 hn s⟩, rfl⟩⟩
  · exact absurd hk h2
  · rw [evCallee_kind h1] at hk; cases hk
  · rw [evCallee_kind h1] at hk; cases hk
  · exact .inr ⟨hg, rfl, rfl⟩
theorem ValR.own {o : Oper} {env : List D} {sto sto' : Sto} {d : D} (h : ValR T X n0 lo wt ops o env sto d sto') (hk : effKind o = 0) (hw : wCall wt = true) (hb : besideCall ops o = true) {s : Sto} (hs : Own n0 sto s) : ValR T X n0 lo wt ops o env s d s := by
  rcases h with ⟨hg, ⟨h1, h2, rfl⟩ | ⟨h1, h2⟩ | ⟨f, args, r, rfl, h1, h2, rfl, _⟩ | ⟨f, args, r, rfl, _, ha, h1, h2, h3, h5⟩⟩ | ⟨hg, rfl, rfl⟩
  · exact .inl ⟨hg, .inl ⟨h2.2 hw hb s hs, ⟨h2.1, fun _ _ s' hs' => h2.2 hw hb s' (hs.trans hs')⟩, rfl⟩⟩
  · exact absurd hk h2
  · rw [evCallee_kind h1] at hk; cases hk
  · rw [evCallee_kind h1] at hk; cases hk
  · exact .inr ⟨hg, rfl, rfl⟩
theorem opd_agree {env : List D} {d : Tmp} {u : D} {x : Operand} (h : x ≠ .tmp d) : opd (env.set d u) x = opd env x := by
  cases x with
  | tmp t =>
    have : d ≠ t := fun e => h (by rw [e])
    simp only [opd, List.getElem?_set_ne this]
  | _ => rfl
theorem looks_op {o : Oper} {d : Tmp} (h : d ∉ o.looksAt ops) : ∀ x ∈ o.op.operands, x ≠ .tmp d := by
  intro x hx e
  subst e
  apply h
  unfold Oper.looksAt
  refine List.mem_append_left _ (List.mem_filterMap.2 ⟨.tmp d, by simpa using hx, rfl⟩)
theorem looks_guard {o : Oper} {d : Tmp} {env : List D} {u : D} (h : d ∉ o.looksAt ops) : guardD ops o (env.set d u) = guardD ops o env := by
  unfold guardD
  cases hg : o.guard with
  | none => rfl
  | some p =>
    obtain ⟨j, want⟩ := p
    cases hd : (ops[j]?).bind (·.dst) with
    | none => simp only [hd]
    | some e =>
      have hne : d ≠ e := by
        intro heq
        subst heq
        apply h
        unfold Oper.looksAt
        refine List.mem_append_right _ ?_
        simp [hg, hd]
      simp only [hd, List.getElem?_set_ne hne]
theorem ValR.congr {o : Oper} {env : List D} {sto sto' : Sto} {d : D} {t : Option Tmp} {u : D} (ht : ∀ x, t = some x → x ∉ o.looksAt ops) : ValR T X n0 lo wt ops o (St.put ⟨env, sto⟩ t u).env sto d sto' ↔ ValR T X n0 lo wt ops o env sto d sto' := by
  cases t with
  | none => exact Iff.rfl
  | some x =>
    have h := ht x rfl
    have hop : ∀ y ∈ o.op.operands, opd (env.set x u) y = opd env y := fun y hy => opd_agree (looks_op h y hy)
    show ValR T X n0 lo wt ops o (env.set x u) sto d sto' ↔ _
    unfold ValR
    rw [looks_guard h, evEff_congr hop, evCallee_congr hop]
    simp only [fun s => evPure_congr (T := T) (sto := s) hop]
theorem put_comm {env : List D} {sto : Sto} {x y : Option Tmp} {u v : D} (h : ∀ d, x = some d → y ≠ some d) : St.put (St.put ⟨env, sto⟩ x u) y v = St.put (St.put ⟨env, sto⟩ y v) x u := by
  cases x with
  | none => rfl
  | some a =>
    cases y with
    | none => rfl
    | some b =>
      have hne : a ≠ b := fun e => h a rfl (by rw [e])
      simp only [St.put]
      rw [List.set_comm _ _ hne]
theorem put_env {env : List D} {sto s2 : Sto} {x : Option Tmp} {u : D} : (St.put ⟨env, sto⟩ x u).env = (St.put ⟨env, s2⟩ x u).env := by cases x <;> rfl
theorem put_sto {env : List D} {sto : Sto} {x : Option Tmp} {u : D} : (St.put ⟨env, sto⟩ x u).sto = sto := by cases x <;> rfl
/-- Two neighbours change places. -/
theorem evOps_swap {Q : St → Prop} {x y : Oper} {rest : List Oper} {st : St} (ha : x.apart ops y = true) (hk : kindsOk (effKind x) (effKind y) = true) (hx : effKind x = 0 → (effKind y = 1 ∨ effKind y = 2) → needsFree ops x = true) (hy : effKind y = 0 → (effKind x = 1 ∨ effKind x = 2) → needsFree ops y = true)
    (bx : effKind y = 3 → besideCall ops x = true) (by' : effKind x = 3 → besideCall ops y = true) (ax : effKind y = 3 → aloneCall ops x = false) (ay : effKind x = 3 → aloneCall ops y = false)
    (h : EvOps T X n0 lo wt true ops Q (x :: y :: rest) st) : EvOps T X n0 lo wt true ops Q (y :: x :: rest) st := by
  obtain ⟨a1, a2, a3⟩ := Oper.apart_spec ha
  obtain ⟨dx, sx, hvx, h'⟩ := evOps_cons.1 h
  obtain ⟨dy, sy, hvy, hrest⟩ := evOps_cons.1 h'
  rw [put_sto] at hvy
  have hvy' : ValR T X n0 lo wt ops y st.env sx dy sy := (ValR.congr a1).1 hvy
  have fin : ∀ s1, ValR T X n0 lo wt ops y st.env st.sto dy s1 → ValR T X n0 lo wt ops x st.env s1 dx sy → EvOps T X n0 lo wt true ops Q (y :: x :: rest) st := by
    intro s1 q1 q2
    refine evOps_cons.2 ⟨dy, s1, q1, evOps_cons.2 ⟨dx, sy, ?_, ?_⟩⟩
    · rw [put_sto]
      exact (ValR.congr a3).2 q2
    · have e1 : St.put ⟨(St.put ⟨st.env, sx⟩ x.dst dx).env, sy⟩ y.dst dy = St.put (St.put ⟨st.env, sy⟩ x.dst dx) y.dst dy := by cases x.dst <;> rfl
      have e2 : St.put ⟨(St.put ⟨st.env, s1⟩ y.dst dy).env, sy⟩ x.dst dx = St.put (St.put ⟨st.env, sy⟩ y.dst dy) x.dst dx := by cases y.dst <;> rfl
      rw [e2, ← put_comm a2, ← e1]
      exact hrest
  simp only [kindsOk, Bool.or_eq_true, Bool.and_eq_true, beq_iff_eq] at hk
  rcases hk with (⟨k1, k2⟩ | ⟨k1, k2⟩) | ⟨k1, k2⟩
  · rcases hvx.same k1 with rfl | ⟨e3, hw, ha, ho⟩
    · rcases hvy'.same k2 with rfl | ⟨e3, hw, ha, ho⟩
      · exact fin _ hvy' hvx
      · have k1' : effKind x = 0 := k1.resolve_right fun e => by rw [ay e] at ha; cases ha
        exact fin _ hvy' (hvx.own k1' hw (bx e3) ho)
    · have k2' : effKind y = 0 := k2.resolve_right fun e => by rw [ax e] at ha; cases ha
      obtain rfl := hvy'.same0 k2'
      exact fin _ (hvy'.own k2' hw (by' e3) ho.symm) hvx
  · obtain rfl := hvx.same0 k1
    exact fin _ hvy' (hvx.free k1 (hx k1 k2) sy)
  · obtain rfl := hvy'.same0 k2
    exact fin _ (hvy'.free k2 (hy k2 k1) st.sto) hvx
end
end Go.Proofs.YtomameefmobnlaaDoor
namespace Go.Proofs.YtomameefmobnlaaDoor
open Go Go.RowKit

theorem anc_fold (acc : List Nat) (i : Nat) : ∀ (l : List Edge) (s : Nat), (l.foldl (fun s e => if Region.binds .any e then s ||| 2 ^ e.on ||| acc.getD e.on 0 else s) s).testBit i = true → s.testBit i = true ∨ ∃ e ∈ l, Region.binds .any e = true ∧ (e.on = i ∨ (acc.getD e.on 0).testBit i = true)
  | [], s, h => .inl h
  | e :: l, s, h => by
    rw [List.foldl_cons] at h
    rcases anc_fold acc i l _ h with h | ⟨e', he, h⟩
    · by_cases hb : Region.binds .any e = true
      · rw [if_pos hb, Nat.testBit_or, Nat.testBit_or, Nat.testBit_two_pow] at h
        simp only [Bool.or_eq_true, decide_eq_true_eq] at h
        rcases h with (h | h) | h
        · exact .inl h
        · exact .inr ⟨e, by simp, hb, .inl h⟩
        · exact .inr ⟨e, by simp, hb, .inr h⟩
      · rw [if_neg hb] at h
        exact .inl h
    · exact .inr ⟨e', List.mem_cons_of_mem _ he, h⟩
theorem ancs_get : ∀ (l : List Oper) (acc : List Nat), ∃ tail, ancs l acc = acc ++ tail ∧ tail.length = l.length ∧ ∀ (m : Nat) (o : Oper), l[m]? = some o → tail[m]? = some (ancOf (acc ++ tail.take m) o)
  | [], acc => ⟨[], by simp [ancs], rfl, fun m o h => by simp at h⟩
  | o :: l, acc => by
    obtain ⟨tail, h1, h2, h3⟩ := ancs_get l (acc ++ [ancOf acc o])
    refine ⟨ancOf acc o :: tail, by rw [ancs, h1, List.append_assoc]; rfl, by simp [h2], fun m o' hm => ?_⟩
    cases m with
    | zero =>
      simp only [List.getElem?_cons_zero, Option.some.injEq] at hm
      subst hm
      simp
    | succ m =>
      have := h3 m o' (by simpa using hm)
      simp only [List.getElem?_cons_succ, List.take_succ_cons]
      rw [this, List.append_assoc]
      rfl
section
variable {ops : Array Oper}
/-- Who comes before whom. -/
theorem anc_step {j i : Nat} {o : Oper} (ho : ops[j]? = some o) (h : ((ancs ops.toList []).getD j 0).testBit i = true) : ∃ e ∈ o.after, Region.binds .any e = true ∧ (e.on = i ∨ (e.on < j ∧ ((ancs ops.toList []).getD e.on 0).testBit i = true)) := by
  obtain ⟨tail, h1, h2, h3⟩ := ancs_get ops.toList []
  rw [List.nil_append] at h1
  have hj : ops.toList[j]? = some o := by rw [Array.getElem?_toList]; exact ho
  have ht := h3 j o hj
  rw [h1, List.getD_eq_getElem?_getD, ht, Option.getD_some, List.nil_append] at h
  rcases anc_fold _ i _ _ h with h | ⟨e, he, hb, h⟩
  · simp at h
  · refine ⟨e, by simpa using he, hb, ?_⟩
    rcases h with h | h
    · exact .inl h
    · right
      rw [List.getD_eq_getElem?_getD] at h
      rcases Nat.lt_or_ge e.on j with hlt | hge
      · refine ⟨hlt, ?_⟩
        rw [List.getElem?_take_of_lt hlt] at h
        rw [h1, List.getD_eq_getElem?_getD]; exact h
      · rw [List.getElem?_eq_none (by simp; omega)] at h
        simp at h
/-- What is listed: with each operation those that it waits for. -/
def Closed (ops : Array Oper) (L : Nat → Prop) : Prop := ∀ k o, ops[k]? = some o → L k → ∀ e ∈ o.after, Region.binds .any e = true → L e.on
theorem anc_listed {L : Nat → Prop} (hc : Closed ops L) : ∀ (j : Nat) (o : Oper), ops[j]? = some o → (∀ e ∈ o.after, Region.binds .any e = true → L e.on) → ∀ i, ((ancs ops.toList []).getD j 0).testBit i = true → L i := by
  intro j
  induction j using Nat.strongRecOn with
  | _ j ih =>
    intro o ho hp i hi
    obtain ⟨e, he, hb, h⟩ := anc_step ho hi
    rcases h with h | ⟨hlt, h⟩
    · rw [← h]; exact hp e he hb
    · have hl := hp e he hb
      cases ho2 : ops[e.on]? with
      | none =>
        exfalso
        obtain ⟨tail, h1, h2, _⟩ := ancs_get ops.toList []
        rw [List.nil_append] at h1
        rw [h1, List.getD_eq_getElem?_getD, List.getElem?_eq_none (by rw [h2, Array.length_toList]; simpa using ho2)] at h
        simp at h
      | some o2 => exact ih e.on hlt o2 ho2 (hc e.on o2 ho2 hl) i h
theorem drawOk_spec (h : drawOk ops = true) : (∀ j o, ops[j]? = some o → ∀ e ∈ o.after, Region.binds .any e = true → e.on < j) ∧ ∀ i j x y, i < j → ops[i]? = some x → ops[j]? = some y → ((ancs ops.toList []).getD j 0).testBit i = true ∨ (x.apart ops y = true ∧ kindsOk (effKind x) (effKind y) = true) := by
  unfold drawOk at h
  simp only [List.all_eq_true, List.mem_range, Bool.and_eq_true, Bool.or_eq_true] at h
  have lt : ∀ j o, ops[j]? = some o → j < ops.size := fun j o ho => (Array.getElem?_eq_some_iff.1 ho).1
  refine ⟨fun j o ho e he hb => ?_, fun i j x y hij hx hy => ?_⟩
  · have := (h j (lt j o ho)).1
    rw [ho] at this
    simp only [List.all_eq_true, Bool.or_eq_true, Bool.not_eq_true', decide_eq_true_eq] at this
    rcases this e (by simpa using he) with h | h
    · rw [hb] at h; cases h
    · exact h
  · have := (h j (lt j y hy)).2 i hij
    rw [hx, hy] at this
    simpa using this
theorem needsFree_of {i j : Nat} {x y : Oper} (hij : i ≠ j) (hx : ops[i]? = some x) (hy : ops[j]? = some y) (ht : ((ancs ops.toList []).getD (max j i) 0).testBit (min j i) = false) (hk : effKind y = 1 ∨ effKind y = 2) : needsFree ops x = true := by
  have lt : ∀ j o, ops[j]? = some o → j < ops.size := fun j o ho => (Array.getElem?_eq_some_iff.1 ho).1
  unfold needsFree
  simp only [List.any_eq_true, List.mem_range]
  refine ⟨i, lt i x hx, ?_⟩
  rw [hx]
  simp only [beq_self_eq_true, Bool.true_and, List.any_eq_true, List.mem_range]
  refine ⟨j, lt j y hy, ?_⟩
  rw [hy]
  simp only [Bool.and_eq_true, bne_iff_ne, ne_eq, Bool.not_eq_true', Bool.or_eq_true, beq_iff_eq]
  exact ⟨⟨fun e => hij e.symm, ht⟩, hk⟩
theorem besideCall_of {i j : Nat} {x y : Oper} (hij : i ≠ j) (hx : ops[i]? = some x) (hy : ops[j]? = some y) (ht : ((ancs ops.toList []).getD (max j i) 0).testBit (min j i) = false) (hk : effKind y = 3) : besideCall ops x = true := by
  have lt : ∀ j o, ops[j]? = some o → j < ops.size := fun j o ho => (Array.getElem?_eq_some_iff.1 ho).1
  unfold besideCall
  simp only [List.any_eq_true, List.mem_range]
  refine ⟨i, lt i x hx, ?_⟩
  rw [hx]
  simp only [beq_self_eq_true, Bool.true_and, List.any_eq_true, List.mem_range]
  refine ⟨j, lt j y hy, ?_⟩
  rw [hy]
  simp only [Bool.and_eq_true, bne_iff_ne, ne_eq, Bool.not_eq_true', beq_iff_eq]
  exact ⟨⟨fun e => hij e.symm, ht⟩, hk⟩
theorem aloneCall_of {i j : Nat} {x y : Oper} (hij : i ≠ j) (hx : ops[i]? = some x) (hy : ops[j]? = some y) (ht : ((ancs ops.toList []).getD (max j i) 0).testBit (min j i) = false) (hk : effKind y = 3) : aloneCall ops x = false := by
  have lt : ∀ j o, ops[j]? = some o → j < ops.size := fun j o ho => (Array.getElem?_eq_some_iff.1 ho).1
  rw [← Bool.not_eq_true]
  intro h
  unfold aloneCall at h
  simp only [List.all_eq_true, List.mem_range] at h
  have h1 := h i (lt i x hx)
  rw [hx] at h1
  simp only [beq_self_eq_true, Bool.not_true, Bool.false_or, List.all_eq_true, List.mem_range] at h1
  have h2 := h1 j (lt j y hy)
  rw [hy] at h2
  simp only [Bool.or_eq_true, beq_iff_eq, Bool.not_eq_true', ht, hk] at h2
  rcases h2 with (h2 | h2) | h2
  · exact hij h2.symm
  · cases h2
  · simp at h2
def opsOf (ops : Array Oper) (l : List Nat) : List Oper := l.map fun i => ops.getD i default
variable {T : Tab} {X : CallP} {n0 lo : Nat} {wt : List Tmp}
/-- An operation that may come up now, taken first. -/
theorem bubble (hd : drawOk ops = true) {Q : St → Prop} {i : Nat} {y : Oper} (hy : ops[i]? = some y) (l2 : List Nat) : ∀ (l1 : List Nat) (st : St), (∀ k ∈ l1, k < i ∧ ((ancs ops.toList []).getD i 0).testBit k = false) →
    EvOps T X n0 lo wt true ops Q (opsOf ops (l1 ++ i :: l2)) st → EvOps T X n0 lo wt true ops Q (y :: opsOf ops (l1 ++ l2)) st
  | [], st, _, h => by
    have : ops.getD i default = y := by rw [Array.getD_eq_getD_getElem?, hy]; rfl
    have h' : EvOps T X n0 lo wt true ops Q (ops.getD i default :: opsOf ops l2) st := h
    rw [this] at h'; exact h'
  | k :: l1, st, hl, h => by
    obtain ⟨hk, ht⟩ := hl k (by simp)
    have hsz : i < ops.size := (Array.getElem?_eq_some_iff.1 hy).1
    have hx : ops[k]? = some (ops[k]'(by omega)) := Array.getElem?_eq_getElem (by omega)
    have hxd : ops.getD k default = ops[k]'(by omega) := by rw [Array.getD_eq_getD_getElem?, hx]; rfl
    have h1 : EvOps T X n0 lo wt true ops Q (ops[k]'(by omega) :: opsOf ops (l1 ++ i :: l2)) st := by
      have h' : EvOps T X n0 lo wt true ops Q (ops.getD k default :: opsOf ops (l1 ++ i :: l2)) st := h
      rw [hxd] at h'; exact h'
    obtain ⟨d, sto', hv, hr⟩ := evOps_cons.1 h1
    have hr' := bubble hd hy l2 l1 _ (fun k' hk' => hl k' (List.mem_cons_of_mem _ hk')) hr
    have h2 : EvOps T X n0 lo wt true ops Q (ops[k]'(by omega) :: y :: opsOf ops (l1 ++ l2)) st := evOps_cons.2 ⟨d, sto', hv, hr'⟩
    have hok := ((drawOk_spec hd).2 k i _ y hk hx hy).resolve_left (by rw [ht]; simp)
    have hmm : max i k = i ∧ min i k = k := ⟨by omega, by omega⟩
    have h3 := evOps_swap hok.1 hok.2 (fun _ hk2 => needsFree_of (by omega) hx hy (by rw [hmm.1, hmm.2]; exact ht) hk2) (fun _ hk2 => needsFree_of (by omega) hy hx (by rw [Nat.max_comm, Nat.min_comm, hmm.1, hmm.2]; exact ht) hk2)
      (fun e => besideCall_of (by omega) hx hy (by rw [hmm.1, hmm.2]; exact ht) e) (fun e => besideCall_of (by omega) hy hx (by rw [Nat.max_comm, Nat.min_comm, hmm.1, hmm.2]; exact ht) e)
      (fun e => aloneCall_of (by omega) hx hy (by rw [hmm.1, hmm.2]; exact ht) e) (fun e => aloneCall_of (by omega) hy hx (by rw [Nat.max_comm, Nat.min_comm, hmm.1, hmm.2]; exact ht) e) h2
    have : opsOf ops (k :: l1 ++ l2) = (ops[k]'(by omega)) :: opsOf ops (l1 ++ l2) := by rw [← hxd]; rfl
    rw [this]; exact h3
end
section
variable {P : Program} {T : Tab} {n0 lo : Nat} {wt : List Tmp} {ops : Array Oper}
theorem RS.drew {S : Stay} {gh : List Value} {w : World} {a : Act} {st : St} (h : RS S gh w a st) : RS S gh w.drew a st ∧ Fr st.sto.length lo S gh w st.sto S gh w.drew st.sto := by
  have hf : Fr st.sto.length lo S gh w st.sto S gh w.drew st.sto := ⟨rfl, rfl, rfl, Nat.le_refl _, fun b o h => ⟨h, rfl⟩, fun b _ _ => rfl, fun i _ => ⟨rfl, rfl⟩, fun i g hi hg => .inl ⟨i, hi, hg⟩, fun i e gv _ h1 h2 => ⟨e, gv, h1, h2, KeepE.refl gv e⟩⟩
  refine ⟨⟨h.size, fun t v d hv hd => RepD.mono h.sto hf (h.env t v d hv hd), ⟨h.sto.len, fun i e hi => ?_, h.sto.inj, h.sto.stay⟩, h.defers, h.glob.mono hf.stable⟩, hf⟩
  obtain ⟨gv, h1, h2⟩ := h.sto.ent i e hi
  exact ⟨gv, h1, RepE.mono h.sto hf h2 fun g _ => ⟨rfl, fun o => Iff.rfl⟩⟩
/-- A region, whatever its order. -/
theorem evOps_any (hT : T.OK P) (hd : drawOk ops = true) {R : Exit → St → Prop} {S0 : Stay} {gh0 : List Value} {w0 : World} {sto0 : Sto} (hlo : lo ≤ n0) : ∀ (l : List Nat) (listed : Array Bool) (st : St) (S : Stay) (gh : List Value) (a : Act) (w : World), l.Pairwise (· < ·) → (∀ k, k ∈ l ↔ k < ops.size ∧ listed.getD k true = false) → listed.size = ops.size → Closed ops (fun k => listed.getD k false = true) →
    n0 ≤ st.sto.length → OutSc n0 st.sto → EvOps T (CallOK P) n0 lo wt true ops (R .normal) (opsOf ops l) st → RS S gh w a st → Fr n0 lo S0 gh0 w0 sto0 S gh w st.sto → wpAny P .any ops (PostOK n0 lo S0 gh0 w0 sto0 R) l.length listed a w := by
  intro l
  generalize hn : l.length = n
  induction n generalizing l with
  | zero =>
    intro listed st S gh a w hp hm hsz hc hn0 hos h hrs hf
    have hl : l = [] := List.length_eq_zero_iff.1 hn
    subst hl
    refine ⟨?_, ⟨rfl, st, S, gh, h, hrs, hf, hn0, hos⟩⟩
    rw [Region.ready, List.filter_eq_nil_iff]
    intro k hk
    have hk' : k < ops.size := by simpa using hk
    have : listed.getD k true = true := by
      have := (not_congr (hm k)).1 (by simp)
      simpa [hk'] using this
    simp [this]
  | succ n ih =>
    intro listed st S gh a w hp hm hsz hc hn0 hos h hrs hf
    have rdy : ∀ i, i ∈ Region.ready .any ops listed ↔ ∃ o, ops[i]? = some o ∧ listed.getD i true = false ∧ ∀ e ∈ o.after, Region.binds .any e = true → listed.getD e.on false = true := by
      intro i
      rw [Region.ready, List.mem_filter, List.mem_range]
      constructor
      · rintro ⟨h1, h2⟩
        have ho : ops[i]? = some ops[i] := Array.getElem?_eq_getElem h1
        simp only [ho, Option.map_some, Option.getD_some, Bool.and_eq_true, Bool.not_eq_true'] at h2
        refine ⟨_, ho, h2.1, fun e he hb => ?_⟩
        have h3 := Array.all_eq_true'.1 h2.2 e he
        simp only [hb, Bool.not_true, Bool.false_or] at h3
        exact h3
      · rintro ⟨o, ho, h1, h2⟩
        refine ⟨(Array.getElem?_eq_some_iff.1 ho).1, ?_⟩
        simp only [ho, Option.map_some, Option.getD_some, h1, Bool.not_false, Bool.true_and]
        refine Array.all_eq_true'.2 fun e he => ?_
        by_cases hb : Region.binds .any e = true
        · simp [h2 e he hb]
        · simp [hb]
    refine ⟨fun hnil => ?_, fun i hi => ?_⟩
    · -- somebody is ready
      exfalso
      cases l with
      | nil => simp at hn
      | cons i l =>
        obtain ⟨hi1, hi2⟩ := (hm i).1 (by simp)
        have ho : ops[i]? = some ops[i] := Array.getElem?_eq_getElem hi1
        have : i ∈ Region.ready .any ops listed := (rdy i).2 ⟨_, ho, hi2, fun e he hb => by
          have hlt := (drawOk_spec hd).1 i _ ho e he hb
          have hnot : e.on ∉ i :: l := by
            intro hmem
            rcases List.mem_cons.1 hmem with h | h
            · omega
            · have := (List.pairwise_cons.1 hp).1 e.on h; omega
          have := (not_congr (hm e.on)).1 hnot
          have hes : e.on < ops.size := by omega
          have hlt2 : e.on < listed.size := by omega
          simp only [hes, true_and, Array.getD_eq_getD_getElem?, Array.getElem?_eq_getElem hlt2, Option.getD_some] at this ⊢
          simpa using this⟩
        rw [hnil] at this
        cases this
    · obtain ⟨o, ho, hi2, hpre⟩ := (rdy i).1 hi
      have hisz : i < ops.size := (Array.getElem?_eq_some_iff.1 ho).1
      have hil : i ∈ l := (hm i).2 ⟨hisz, hi2⟩
      obtain ⟨l1, l2, rfl⟩ := List.append_of_mem hil
      have hpw := List.pairwise_append.1 hp
      have hl1 : ∀ k ∈ l1, k < i := fun k hk => hpw.2.2 k hk i (by simp)
      have hanc : ∀ k ∈ l1, k < i ∧ ((ancs ops.toList []).getD i 0).testBit k = false := by
        intro k hk
        refine ⟨hl1 k hk, ?_⟩
        cases hb : ((ancs ops.toList []).getD i 0).testBit k with
        | false => rfl
        | true =>
          exfalso
          have h1 : listed.getD k false = true := anc_listed hc i o ho hpre k hb
          have h2 := ((hm k).1 (by simp [hk])).2
          have hk2 : k < listed.size := by have := hl1 k hk; omega
          simp only [Array.getD_eq_getD_getElem?, Array.getElem?_eq_getElem hk2, Option.getD_some] at h1 h2
          rw [h1] at h2; cases h2
      have hb := bubble hd ho l2 l1 st hanc h
      unfold wpOp
      simp only [ho]
      have hstep := op_step (Q' := PostOK n0 lo S0 gh0 w0 sto0 R) (K := wpAny P .any ops (PostOK n0 lo S0 gh0 w0 sto0 R) n (listed.setIfInBounds i true)) hT hn0 hlo hos hb hrs fun a' w' st' S' gh' h1 h2 h3 h4 h5 => by
        have hisz2 : i < listed.size := by omega
        have look : ∀ k d, (listed.setIfInBounds i true).getD k d = if k = i then true else listed.getD k d := by
          intro k d
          simp only [Array.getD_eq_getD_getElem?]
          by_cases hk : k = i
          · subst hk
            rw [if_pos rfl, Array.getElem?_setIfInBounds_self_of_lt hisz2]; rfl
          · rw [if_neg hk, Array.getElem?_setIfInBounds_ne (fun e => hk e.symm)]
        have hni : i ∉ l1 ++ l2 := by
          intro hmem
          rcases List.mem_append.1 hmem with h | h
          · have := hl1 i h; omega
          · have := (List.pairwise_cons.1 hpw.2.1).1 i h; omega
        refine ih (l1 ++ l2) (by simp at hn ⊢; omega) (listed.setIfInBounds i true) st' S' gh' a' w' ?_ ?_ (by simp [hsz]) ?_ h4 h5 h1 h2 (hf.trans h3)
        · exact List.pairwise_append.2 ⟨hpw.1, (List.pairwise_cons.1 hpw.2.1).2, fun x hx y hy => hpw.2.2 x hx y (by simp [hy])⟩
        · intro k
          rw [look]
          by_cases hk : k = i
          · subst hk
            simp [hni]
          · rw [if_neg hk, ← hm k]
            simp [hk]
        · intro k o' ho' hk e he hb'
          rw [look] at hk ⊢
          by_cases hki : k = i
          · subst hki
            rw [ho] at ho'
            cases ho'
            have := hpre e he hb'
            split
            · rfl
            · exact this
          · rw [if_neg hki] at hk
            have := hc k o' ho' hk e he hb'
            split
            · rfl
            · exact this
      by_cases hw : Region.wanted o (yielded ops a.tmps) = true
      · rw [if_pos hw] at hstep ⊢
        exact .inl hstep
      · rw [if_neg hw] at hstep ⊢
        exact hstep
theorem evOps_draw (hT : T.OK P) (hm : P.follows .mixedOrders = true) (hd : drawOk ops = true) {R : Exit → St → Prop} (hlo : lo ≤ n0) {st : St} {S : Stay} {gh : List Value} {a : Act} {w : World} (hn : n0 ≤ st.sto.length) (hos : OutSc n0 st.sto) (h : EvOps T (CallOK P) n0 lo wt true ops (R .normal) ops.toList st) (hrs : RS S gh w a st) (id : Nat) :
    (Code.region id ops true).wp P (PostOK n0 lo S gh w st.sto R) a w := by
  refine wp_region_any hm ?_
  obtain ⟨hrs', hf⟩ := RS.drew (lo := lo) hrs
  have hl : opsOf ops (List.range ops.size) = ops.toList := by
    apply List.ext_getElem?
    intro k
    simp only [opsOf, List.getElem?_map]
    rcases Nat.lt_or_ge k ops.size with hk | hk
    · rw [List.getElem?_range hk, Array.getElem?_toList, Array.getElem?_eq_getElem hk]
      simp [Array.getD_eq_getD_getElem?, hk]
    · rw [List.getElem?_eq_none (by simpa using hk), List.getElem?_eq_none (by simpa using hk)]; rfl
  have := evOps_any (P := P) hT hd (R := R) (S0 := S) (gh0 := gh) (w0 := w) (sto0 := st.sto) hlo (List.range ops.size) (Array.replicate ops.size false) st S gh a w.drew List.pairwise_lt_range (fun k => by
    simp only [List.mem_range, Array.getD_eq_getD_getElem?]
    constructor
    · intro hk; exact ⟨hk, by simp [hk]⟩
    · exact fun h => h.1) (by simp) (fun k o ho hk => by
    exfalso
    simp only [Array.getD_eq_getD_getElem?] at hk
    rcases Nat.lt_or_ge k ops.size with h | h
    · simp [h] at hk
    · simp [h] at hk) hn hos (by rw [hl]; exact h) hrs' (hf.weaken hn)
  rw [List.length_range] at this
  exact this
end
end Go.Proofs.YtomameefmobnlaaDoor
namespace Go.Proofs.YtomameefmobnlaaDoor
open Go Go.RowKit

section
variable {P : Program} {T : Tab} {S : Stay} {gh : List Value} {sto : Sto} {w : World}
/-- A box in an entry that was laid by. -/
theorem fill_eff {lo id : Nat} (hs : SR S gh w sto) (hes : sto[id]? = some PH) (hlid : lo ≤ id) (t : TypeId) {v : Value} {ds : List D} (h : Pw (fun u d => u.oneCell' = true ∧ RepC S gh sto w u d) v.cells.toList ds) : Eff P lo S gh w sto (do pure (.pointer (some (← newVar t v)))) (.ptr id 0) (sto.set id (.cells ds)) := by
  have hb := below_new w (.cells v.cells t)
  obtain ⟨gv, hg, hE⟩ := hs.ent id _ hes
  obtain ⟨rfl, _, _⟩ : gv = .slice none 0 0 ∧ _ := hE
  have hnew : ∀ g, blk (.pointer (some ⟨w.heap.size, 0, none⟩)) = some g → blk (.slice none 0 0) = some g ∨ w.heap.size ≤ g := by
    intro g hg
    simp only [blk, Option.some.injEq] at hg
    exact .inr (by omega)
  have hblock : ∀ b, b < w.heap.size → blk (.slice none 0 0) ≠ some b → (w.alloc (.cells v.cells t)).heap[b]? = w.heap[b]? := fun b hlt _ => hb.block b hlt
  have hst : ∀ b o, S b o → S b o ∧ (w.alloc (.cells v.cells t)).cell? ⟨b, o, none⟩ = w.cell? ⟨b, o, none⟩ := fun b o h => ⟨h, hb.cell (p := ⟨b, o, none⟩) (hs.stay b o h)⟩
  have hf : Fr sto.length lo S gh w sto S (gh.set id (.pointer (some ⟨w.heap.size, 0, none⟩))) (w.alloc (.cells v.cells t)) (sto.set id (.cells ds)) := upd_fr hes hg hlid hb.os hb.tape hb.output hb.size hblock hst hnew True.intro
  refine ⟨.pointer (some ⟨w.heap.size, 0, none⟩), S, _, _, ?_, ?_, upd_sr hs hes hg hf hblock (fun b o h => .inl h) hnew ?_, hf⟩
  · simp only [Sem.run_bind, newVar_run, Result.andThen_ok, Sem.run_pure]
  · have h1 := (List.getElem?_eq_some_iff.1 hes).1
    refine ⟨by simpa using h1, w.heap.size, ?_, rfl⟩
    rw [List.getElem?_set_self (List.getElem?_eq_some_iff.1 hg).1]
  · refine ⟨w.heap.size, v.cells, t, rfl, heap_alloc_new w _, h.1, fun o ho => ?_, fun k u d hu hd => ?_⟩
    · have := hs.stay _ _ ho; omega
    · have := h.2 k u d hu hd
      exact ⟨this.1, RepC.mono hs hf this.2⟩
theorem boxCells_sound (hT : T.OK P) {lo id : Nat} (hs : SR S gh w sto) {e : Operand → Value} {ρ : Operand → D} (hρ : ∀ x, RepD S gh sto w (e x) (ρ x)) {o : Oper} {ds : List D} (h : boxCells T ρ o = some ds) (hes : sto[id]? = some PH) (hlid : lo ≤ id) : EffN P lo S gh w sto (execOp e o) (.ptr id 0) (sto.set id (.cells ds)) := by
  unfold boxCells at h
  unfold execOp
  split at h <;> rename_i hop <;> simp only [hop]
  · exact (fill_eff hs hes hlid _ (RepD.cells (hρ _) h)).next
  · rename_i t
    split at h
    · rename_i i hi
      have hb := fill_eff (P := P) hs hes hlid t (RepD.cells (ofVal_rep i.zero) h)
      have : (Instr.alloc t true (.tuple #[])) = (do let z ← zeroValue t; pure (.pointer (some (← newVar t z)))) := by
        unfold Instr.alloc; rfl
      refine Eff.next ?_
      obtain ⟨v, S', gh', w', h1, h2, h3, h4⟩ := hb
      refine ⟨v, S', gh', w', ?_, h2, h3, h4⟩
      rw [this, Sem.run_bind, run_zero hT hi, Result.andThen_ok]
      exact h1
    · cases h
  · cases h
end
section
variable {T : Tab} {X : CallP} {n0 lo m : Nat} {ops : Array Oper}
/-- What an operation yields. -/
def ValQ (T : Tab) (X : CallP) (n0 lo m : Nat) (ops : Array Oper) (o : Oper) (env : List D) (sto : Sto) (d : D) (sto' : Sto) : Prop :=
  (guardD ops o env = some true ∧ ((effKind o = 0 ∧ (∀ s, Agr m sto s → evPure T (opd env) s o = some d) ∧ sto' = sto) ∨
    (∃ id ds, effKind o = 1 ∧ boxCells T (opd env) o = some ds ∧ sto[id]? = some PH ∧ m ≤ id ∧ d = .ptr id 0 ∧ sto' = sto.set id (.cells ds)) ∨
    (effKind o = 2 ∧ evEff T n0 lo false (opd env) sto o = some (d, sto') ∧ Agr m sto sto') ∨
    (∃ f args, effKind o = 3 ∧ (∀ s, Agr m sto s → evCallee (opd env) s o = some (f, args)) ∧ (∀ s, Agr m sto s → X f args s s.length d s) ∧ sto' = sto))) ∨
  (guardD ops o env = some false ∧ d = .undef ∧ sto' = sto)
theorem evOpsR_cons {Q : St → Prop} {o : Oper} {rest : List Oper} {st : St} : EvOpsR T X n0 lo m ops Q (o :: rest) st ↔ ∃ d sto', ValQ T X n0 lo m ops o st.env st.sto d sto' ∧ EvOpsR T X n0 lo m ops Q rest (St.put ⟨st.env, sto'⟩ o.dst d) := by
  rw [EvOpsR]
  constructor
  · intro h
    split at h
    · rename_i hg
      rcases h with ⟨d, h0, h1, h2⟩ | ⟨id, ds, h0, h1, h2, h3, h4⟩ | ⟨d, sto', h0, h1, h2, h3⟩ | ⟨f, args, r, h1, h2, h3⟩
      · exact ⟨d, st.sto, .inl ⟨hg, .inl ⟨h0, h1, rfl⟩⟩, h2⟩
      · exact ⟨_, _, .inl ⟨hg, .inr (.inl ⟨id, ds, h0, h1, h2, h3, rfl, rfl⟩)⟩, h4⟩
      · exact ⟨d, sto', .inl ⟨hg, .inr (.inr (.inl ⟨h0, h1, h2⟩))⟩, h3⟩
      · exact ⟨r, st.sto, .inl ⟨hg, .inr (.inr (.inr ⟨f, args, evCallee_kind (h1 st.sto (Agr.refl _ _)), h1, h2, rfl⟩))⟩, h3⟩
    · rename_i hg
      exact ⟨.undef, st.sto, .inr ⟨hg, rfl, rfl⟩, h⟩
    · exact h.elim
  · rintro ⟨d, sto', ⟨hg, h⟩ | ⟨hg, rfl, rfl⟩, k⟩
    · rw [hg]
      rcases h with ⟨h0, h1, rfl⟩ | ⟨id, ds, h0, h1, h2, h3, rfl, rfl⟩ | ⟨h0, h1, h2⟩ | ⟨f, args, h0, h1, h2, rfl⟩
      · exact .inl ⟨d, h0, h1, k⟩
      · exact .inr (.inl ⟨id, ds, h0, h1, h2, h3, k⟩)
      · exact .inr (.inr (.inl ⟨d, sto', h0, h1, h2, k⟩))
      · exact .inr (.inr (.inr ⟨f, args, d, h1, h2, k⟩))
    · rw [hg]; exact k
theorem ValQ.agr {o : Oper} {env : List D} {sto sto' : Sto} {d : D} (h : ValQ T X n0 lo m ops o env sto d sto') : Agr m sto sto' := by
  rcases h with ⟨hg, ⟨h0, h1, rfl⟩ | ⟨id, ds, h0, h1, h2, h3, rfl, rfl⟩ | ⟨h0, h1, h2⟩ | ⟨f, args, h0, h1, h2, rfl⟩⟩ | ⟨hg, rfl, rfl⟩
  · exact Agr.refl _ _
  · exact ⟨List.length_set, fun i hi => List.getElem?_set_ne (by omega)⟩
  · exact h2
  · exact Agr.refl _ _
  · exact Agr.refl _ _
/-- One that only looks: so in all memories that agree. -/
theorem ValQ.move {o : Oper} {env : List D} {sto sto' : Sto} {d : D} (h : ValQ T X n0 lo m ops o env sto d sto') (hk : effKind o = 0 ∨ effKind o = 3) {s : Sto} (hs : Agr m sto s) : sto' = sto ∧ ValQ T X n0 lo m ops o env s d s := by
  rcases h with ⟨hg, ⟨h0, h1, rfl⟩ | ⟨id, ds, h0, h1, h2, h3, rfl, rfl⟩ | ⟨h0, h1, h2⟩ | ⟨f, args, h0, h1, h2, rfl⟩⟩ | ⟨hg, rfl, rfl⟩
  · exact ⟨rfl, .inl ⟨hg, .inl ⟨h0, fun s' hs' => h1 s' (hs.trans hs'), rfl⟩⟩⟩
  · omega
  · omega
  · exact ⟨rfl, .inl ⟨hg, .inr (.inr (.inr ⟨f, args, h0, fun s' hs' => h1 s' (hs.trans hs'), fun s' hs' => h2 s' (hs.trans hs'), rfl⟩))⟩⟩
  · exact ⟨rfl, .inr ⟨hg, rfl, rfl⟩⟩
theorem boxCells_congr {ρ ρ' : Operand → D} {o : Oper} (h : ∀ x ∈ o.op.operands, ρ x = ρ' x) : boxCells T ρ o = boxCells T ρ' o := by
  unfold boxCells
  cases hop : o.op <;> rw [hop] at h <;> simp only [Op.operands] at h ⊢
  case box t x => rw [h x (by simp)]
theorem ValQ.congr {o : Oper} {env : List D} {sto sto' : Sto} {d : D} {t : Option Tmp} {u : D} (ht : ∀ x, t = some x → x ∉ o.looksAt ops) : ValQ T X n0 lo m ops o (St.put ⟨env, sto⟩ t u).env sto d sto' ↔ ValQ T X n0 lo m ops o env sto d sto' := by
  cases t with
  | none => exact Iff.rfl
  | some x =>
    have h := ht x rfl
    have hop : ∀ y ∈ o.op.operands, opd (env.set x u) y = opd env y := fun y hy => opd_agree (looks_op h y hy)
    show ValQ T X n0 lo m ops o (env.set x u) sto d sto' ↔ _
    unfold ValQ
    rw [looks_guard h, evEff_congr hop, boxCells_congr hop]
    simp only [fun s => evPure_congr (T := T) (sto := s) hop, fun s => evCallee_congr (sto := s) hop]
theorem evOpsR_swap {Q : St → Prop} {x y : Oper} {rest : List Oper} {st : St} (ha : x.apart ops y = true) (hk : kindsOkR (effKind x) (effKind y) = true)
    (h : EvOpsR T X n0 lo m ops Q (x :: y :: rest) st) : EvOpsR T X n0 lo m ops Q (y :: x :: rest) st := by
  obtain ⟨a1, a2, a3⟩ := Oper.apart_spec ha
  obtain ⟨dx, sx, hvx, h'⟩ := evOpsR_cons.1 h
  obtain ⟨dy, sy, hvy, hrest⟩ := evOpsR_cons.1 h'
  rw [put_sto] at hvy
  have hvy' : ValQ T X n0 lo m ops y st.env sx dy sy := (ValQ.congr a1).1 hvy
  have fin : ∀ s1, ValQ T X n0 lo m ops y st.env st.sto dy s1 → ValQ T X n0 lo m ops x st.env s1 dx sy → EvOpsR T X n0 lo m ops Q (y :: x :: rest) st := by
    intro s1 q1 q2
    refine evOpsR_cons.2 ⟨dy, s1, q1, evOpsR_cons.2 ⟨dx, sy, ?_, ?_⟩⟩
    · rw [put_sto]
      exact (ValQ.congr a3).2 q2
    · have e1 : St.put ⟨(St.put ⟨st.env, sx⟩ x.dst dx).env, sy⟩ y.dst dy = St.put (St.put ⟨st.env, sy⟩ x.dst dx) y.dst dy := by cases x.dst <;> rfl
      have e2 : St.put ⟨(St.put ⟨st.env, s1⟩ y.dst dy).env, sy⟩ x.dst dx = St.put (St.put ⟨st.env, sy⟩ y.dst dy) x.dst dx := by cases y.dst <;> rfl
      rw [e2, ← put_comm a2, ← e1]
      exact hrest
  by_cases kx : effKind x = 0 ∨ effKind x = 3
  · -- x only looks
    obtain ⟨rfl, _⟩ := hvx.move kx (Agr.refl _ _)
    exact fin _ hvy' (hvx.move kx hvy'.agr).2
  · by_cases ky : effKind y = 0 ∨ effKind y = 3
    · obtain ⟨rfl, hy⟩ := hvy'.move ky hvx.agr.symm
      exact fin _ hy hvx
    · -- two boxes
      have k1 : effKind x = 1 ∧ effKind y = 1 := by
        simp only [kindsOkR, Bool.or_eq_true, Bool.and_eq_true, beq_iff_eq] at hk
        omega
      rcases hvx with ⟨hg, ⟨h0, h1, rfl⟩ | ⟨id, ds, h0, h1, h2, h3, rfl, rfl⟩ | ⟨h0, h1, h2⟩ | ⟨f, args, h0, h1, h2, rfl⟩⟩ | ⟨hg, rfl, rfl⟩
      · omega
      · rcases hvy' with ⟨hg', ⟨q0, q1, rfl⟩ | ⟨id', ds', q0, q1, q2, q3, rfl, rfl⟩ | ⟨q0, q1, q2⟩ | ⟨f, args, q0, q1, q2, rfl⟩⟩ | ⟨hg', rfl, rfl⟩
        · omega
        · have hne : id ≠ id' := by
            intro e
            subst e
            rw [List.getElem?_set_self (List.getElem?_eq_some_iff.1 h2).1] at q2
            cases q2
          rw [List.getElem?_set_ne hne] at q2
          refine fin (st.sto.set id' (.cells ds')) (.inl ⟨hg', .inr (.inl ⟨id', ds', q0, q1, q2, q3, rfl, rfl⟩)⟩) (.inl ⟨hg, .inr (.inl ⟨id, ds, h0, h1, ?_, h3, rfl, ?_⟩)⟩)
          · rw [List.getElem?_set_ne hne.symm]; exact h2
          · rw [List.set_comm _ _ hne]
        · omega
        · omega
        · exact fin _ (.inr ⟨hg', rfl, rfl⟩) (.inl ⟨hg, .inr (.inl ⟨id, ds, h0, h1, h2, h3, rfl, rfl⟩)⟩)
      · omega
      · omega
      · -- x does not run
        exact fin _ hvy' (.inr ⟨hg, rfl, rfl⟩)
theorem drawOkR_spec (h : drawOkR ops = true) : (∀ j o, ops[j]? = some o → ∀ e ∈ o.after, Region.binds .any e = true → e.on < j) ∧ ∀ i j x y, i < j → ops[i]? = some x → ops[j]? = some y → ((ancs ops.toList []).getD j 0).testBit i = true ∨ (x.apart ops y = true ∧ kindsOkR (effKind x) (effKind y) = true) := by
  unfold drawOkR at h
  simp only [List.all_eq_true, List.mem_range, Bool.and_eq_true, Bool.or_eq_true] at h
  have lt : ∀ j o, ops[j]? = some o → j < ops.size := fun j o ho => (Array.getElem?_eq_some_iff.1 ho).1
  refine ⟨fun j o ho e he hb => ?_, fun i j x y hij hx hy => ?_⟩
  · have := (h j (lt j o ho)).1
    rw [ho] at this
    simp only [List.all_eq_true, Bool.or_eq_true, Bool.not_eq_true', decide_eq_true_eq] at this
    rcases this e (by simpa using he) with h | h
    · rw [hb] at h; cases h
    · exact h
  · have := (h j (lt j y hy)).2 i hij
    rw [hx, hy] at this
    simpa using this
/-- An operation that may come up now, taken first. -/
theorem bubbleR (hd : drawOkR ops = true) {Q : St → Prop} {i : Nat} {y : Oper} (hy : ops[i]? = some y) (l2 : List Nat) : ∀ (l1 : List Nat) (st : St), (∀ k ∈ l1, k < i ∧ ((ancs ops.toList []).getD i 0).testBit k = false) →
    EvOpsR T X n0 lo m ops Q (opsOf ops (l1 ++ i :: l2)) st → EvOpsR T X n0 lo m ops Q (y :: opsOf ops (l1 ++ l2)) st
  | [], st, _, h => by
    have : ops.getD i default = y := by rw [Array.getD_eq_getD_getElem?, hy]; rfl
    have h' : EvOpsR T X n0 lo m ops Q (ops.getD i default :: opsOf ops l2) st := h
    rw [this] at h'; exact h'
  | k :: l1, st, hl, h => by
    obtain ⟨hk, ht⟩ := hl k (by simp)
    have hsz : i < ops.size := (Array.getElem?_eq_some_iff.1 hy).1
    have hx : ops[k]? = some (ops[k]'(by omega)) := Array.getElem?_eq_getElem (by omega)
    have hxd : ops.getD k default = ops[k]'(by omega) := by rw [Array.getD_eq_getD_getElem?, hx]; rfl
    have h1 : EvOpsR T X n0 lo m ops Q (ops[k]'(by omega) :: opsOf ops (l1 ++ i :: l2)) st := by
      have h' : EvOpsR T X n0 lo m ops Q (ops.getD k default :: opsOf ops (l1 ++ i :: l2)) st := h
      rw [hxd] at h'; exact h'
    obtain ⟨d, sto', hv, hr⟩ := evOpsR_cons.1 h1
    have hr' := bubbleR hd hy l2 l1 _ (fun k' hk' => hl k' (List.mem_cons_of_mem _ hk')) hr
    have h2 : EvOpsR T X n0 lo m ops Q (ops[k]'(by omega) :: y :: opsOf ops (l1 ++ l2)) st := evOpsR_cons.2 ⟨d, sto', hv, hr'⟩
    have hok := ((drawOkR_spec hd).2 k i _ y hk hx hy).resolve_left (by rw [ht]; simp)
    have hmm : max i k = i ∧ min i k = k := ⟨by omega, by omega⟩
    have h3 := evOpsR_swap hok.1 hok.2 h2
    have : opsOf ops (k :: l1 ++ l2) = (ops[k]'(by omega)) :: opsOf ops (l1 ++ l2) := by rw [← hxd]; rfl
    rw [this]; exact h3
theorem op_stepR {P : Program} {S : Stay} {gh : List Value} {w : World} {a : Act} {st : St} (hmn : n0 ≤ m) (hT : T.OK P) {Q : St → Prop} {Q' : Exit → Act → World → Prop} {K : Act → World → Prop} {o : Oper} {rest : List Oper} (hn : n0 ≤ st.sto.length) (hlo : lo ≤ n0) (hout : OutSc n0 st.sto) (h : EvOpsR T (CallOK P) n0 lo m ops Q (o :: rest) st) (hrs : RS S gh w a st)
    (hK : ∀ a' w' st' S' gh', EvOpsR T (CallOK P) n0 lo m ops Q rest st' → RS S' gh' w' a' st' → Fr n0 lo S gh w st.sto S' gh' w' st'.sto → n0 ≤ st'.sto.length → OutSc n0 st'.sto → K a' w') :
    if Region.wanted o (yielded ops a.tmps) = true then o.wp P a w K Q' else K (a.put o.dst undef) w := by
  have eff : ∀ {d : D} {sto' : Sto}, EffN P lo S gh w st.sto (execOp a.eval o) d sto' → n0 ≤ sto'.length → OutSc n0 sto' → EvOpsR T (CallOK P) n0 lo m ops Q rest (St.put { st with sto := sto' } o.dst d) → o.wp P a w K Q' := by
    intro d sto' ⟨nx, v, S', gh', w', h1, h2, h3, h4, h5⟩ hl hos k
    have hrs' := RS.put hrs h4 h5 h3 o.dst
    have hst : (St.put { st with sto := sto' } o.dst d).sto = sto' := by cases o.dst <;> rfl
    have fin := hK (a.put o.dst v) w' _ S' gh' k hrs' (by rw [hst]; exact h5.weaken hn) (by rw [hst]; exact hl) (by rw [hst]; exact hos)
    unfold Oper.wp
    rw [h1]
    rcases h2 with rfl | ⟨rfl, rfl⟩
    · exact fin
    · exact fin
  unfold EvOpsR at h
  split at h
  · rename_i hg
    rw [if_pos (guard_sound hrs hg)]
    rcases h with ⟨d, _, h1, h2⟩ | ⟨id, ds, _, h1, h2, h3, h4⟩ | ⟨d, sto', _, h1, h2, h3⟩ | ⟨f, args, r, h1, h2, h3⟩
    · have h1' := h1 st.sto (Agr.refl _ _)
      by_cases hb : ∃ t n ps, o.op = .buildSlice t n ps
      · obtain ⟨t, n, ps, ho⟩ := hb
        exact eff (lit_stay hT hrs.sto hrs.opd ho h1' lo) hn hout h2
      · obtain ⟨u, q1, q2⟩ := evPure_sound hT hrs.sto hrs.opd (fun t n ps ho => hb ⟨t, n, ps, ho⟩) h1'
        exact eff ⟨.value u, u, S, gh, w, q1, .inl rfl, q2, hrs.sto, Fr.refl _ _ _ _ _ _⟩ hn hout h2
    · refine eff (boxCells_sound hT hrs.sto hrs.opd h1 h2 (by omega)) (by simpa using hn) ?_ h4
      intro i es hi he
      rw [List.getElem?_set_ne (by omega)] at he
      exact hout i es hi he
    · exact eff (evEff_sound hT (by omega) hrs.sto hrs.opd h1) (by rw [h2.1]; exact hn) (evEff_out hn hout h1) h3
    · obtain ⟨hc, hcall⟩ := h2 st.sto (Agr.refl _ _)
      obtain ⟨vals, q1, q2⟩ := evCallee_sound hrs.sto hrs.opd (h1 st.sto (Agr.refl _ _)) hc
      unfold Oper.wp
      rw [q1]
      refine Calls.mono (hcall S gh w vals (Nat.le_refl _) hrs.sto hrs.glob q2) ?_
      rintro e w' ⟨v, S', gh', rfl, r1, r2, r3, r4⟩
      have r3' : Fr st.sto.length lo S gh w st.sto S' gh' w' st.sto := by
        refine { r3 with block := fun b hb hn => r3.block b hb fun i hi hg => hn i (by omega) hg, low := fun i hi => r3.low i (by omega), new := fun i g hi hg => ?_ }
        rcases Nat.lt_or_ge i st.sto.length with hlt | hge
        · left
          refine ⟨i, hi, ?_⟩
          unfold blkAt at hg ⊢
          rw [(r3.low i hlt).1] at hg
          exact hg
        · rcases r3.new i g hge hg with ⟨j, hj, hg'⟩ | h'
          · exact .inl ⟨j, by omega, hg'⟩
          · exact .inr h'
      have hrs' := RS.put hrs r2 r3' (d := r) r1 o.dst
      have hst : (St.put { st with sto := st.sto } o.dst r).sto = st.sto := by cases o.dst <;> rfl
      exact hK _ w' _ S' gh' h3 hrs' (by rw [hst]; exact r3'.weaken hn) (by rw [hst]; exact hn) (by rw [hst]; exact hout)
  · rename_i hg
    rw [if_neg (by rw [guard_sound hrs hg]; simp)]
    exact hK _ w _ S gh h (RS.put hrs hrs.sto (Fr.refl st.sto.length lo _ _ _ _) (d := .undef) rfl o.dst) (by cases o.dst <;> exact Fr.refl _ _ _ _ _ _) (by cases o.dst <;> exact hn) (by cases o.dst <;> exact hout)
  · exact h.elim
end
section
variable {P : Program} {T : Tab} {n0 lo m : Nat} {ops : Array Oper}
/-- A region, whatever its order. -/
theorem evOpsR_any (hmn : n0 ≤ m) (hT : T.OK P) (hd : drawOkR ops = true) {R : Exit → St → Prop} {S0 : Stay} {gh0 : List Value} {w0 : World} {sto0 : Sto} (hlo : lo ≤ n0) : ∀ (l : List Nat) (listed : Array Bool) (st : St) (S : Stay) (gh : List Value) (a : Act) (w : World), l.Pairwise (· < ·) → (∀ k, k ∈ l ↔ k < ops.size ∧ listed.getD k true = false) → listed.size = ops.size → Closed ops (fun k => listed.getD k false = true) →
    n0 ≤ st.sto.length → OutSc n0 st.sto → EvOpsR T (CallOK P) n0 lo m ops (R .normal) (opsOf ops l) st → RS S gh w a st → Fr n0 lo S0 gh0 w0 sto0 S gh w st.sto → wpAny P .any ops (PostOK n0 lo S0 gh0 w0 sto0 R) l.length listed a w := by
  intro l
  generalize hn : l.length = n
  induction n generalizing l with
  | zero =>
    intro listed st S gh a w hp hm hsz hc hn0 hos h hrs hf
    have hl : l = [] := List.length_eq_zero_iff.1 hn
    subst hl
    refine ⟨?_, ⟨rfl, st, S, gh, h, hrs, hf, hn0, hos⟩⟩
    rw [Region.ready, List.filter_eq_nil_iff]
    intro k hk
    have hk' : k < ops.size := by simpa using hk
    have : listed.getD k true = true := by
      have := (not_congr (hm k)).1 (by simp)
      simpa [hk'] using this
    simp [this]
  | succ n ih =>
    intro listed st S gh a w hp hm hsz hc hn0 hos h hrs hf
    have rdy : ∀ i, i ∈ Region.ready .any ops listed ↔ ∃ o, ops[i]? = some o ∧ listed.getD i true = false ∧ ∀ e ∈ o.after, Region.binds .any e = true → listed.getD e.on false = true := by
      intro i
      rw [Region.ready, List.mem_filter, List.mem_range]
      constructor
      · rintro ⟨h1, h2⟩
        have ho : ops[i]? = some ops[i] := Array.getElem?_eq_getElem h1
        simp only [ho, Option.map_some, Option.getD_some, Bool.and_eq_true, Bool.not_eq_true'] at h2
        refine ⟨_, ho, h2.1, fun e he hb => ?_⟩
        have h3 := Array.all_eq_true'.1 h2.2 e he
        simp only [hb, Bool.not_true, Bool.false_or] at h3
        exact h3
      · rintro ⟨o, ho, h1, h2⟩
        refine ⟨(Array.getElem?_eq_some_iff.1 ho).1, ?_⟩
        simp only [ho, Option.map_some, Option.getD_some, h1, Bool.not_false, Bool.true_and]
        refine Array.all_eq_true'.2 fun e he => ?_
        by_cases hb : Region.binds .any e = true
        · simp [h2 e he hb]
        · simp [hb]
    refine ⟨fun hnil => ?_, fun i hi => ?_⟩
    · -- somebody is ready
      exfalso
      cases l with
      | nil => simp at hn
      | cons i l =>
        obtain ⟨hi1, hi2⟩ := (hm i).1 (by simp)
        have ho : ops[i]? = some ops[i] := Array.getElem?_eq_getElem hi1
        have : i ∈ Region.ready .any ops listed := (rdy i).2 ⟨_, ho, hi2, fun e he hb => by
          have hlt := (drawOkR_spec hd).1 i _ ho e he hb
          have hnot : e.on ∉ i :: l := by
            intro hmem
            rcases List.mem_cons.1 hmem with h | h
            · omega
            · have := (List.pairwise_cons.1 hp).1 e.on h; omega
          have := (not_congr (hm e.on)).1 hnot
          have hes : e.on < ops.size := by omega
          have hlt2 : e.on < listed.size := by omega
          simp only [hes, true_and, Array.getD_eq_getD_getElem?, Array.getElem?_eq_getElem hlt2, Option.getD_some] at this ⊢
          simpa using this⟩
        rw [hnil] at this
        cases this
    · obtain ⟨o, ho, hi2, hpre⟩ := (rdy i).1 hi
      have hisz : i < ops.size := (Array.getElem?_eq_some_iff.1 ho).1
      have hil : i ∈ l := (hm i).2 ⟨hisz, hi2⟩
      obtain ⟨l1, l2, rfl⟩ := List.append_of_mem hil
      have hpw := List.pairwise_append.1 hp
      have hl1 : ∀ k ∈ l1, k < i := fun k hk => hpw.2.2 k hk i (by simp)
      have hanc : ∀ k ∈ l1, k < i ∧ ((ancs ops.toList []).getD i 0).testBit k = false := by
        intro k hk
        refine ⟨hl1 k hk, ?_⟩
        cases hb : ((ancs ops.toList []).getD i 0).testBit k with
        | false => rfl
        | true =>
          exfalso
          have h1 : listed.getD k false = true := anc_listed hc i o ho hpre k hb
          have h2 := ((hm k).1 (by simp [hk])).2
          have hk2 : k < listed.size := by have := hl1 k hk; omega
          simp only [Array.getD_eq_getD_getElem?, Array.getElem?_eq_getElem hk2, Option.getD_some] at h1 h2
          rw [h1] at h2; cases h2
      have hb := bubbleR hd ho l2 l1 st hanc h
      unfold wpOp
      simp only [ho]
      have hstep := op_stepR hmn (Q' := PostOK n0 lo S0 gh0 w0 sto0 R) (K := wpAny P .any ops (PostOK n0 lo S0 gh0 w0 sto0 R) n (listed.setIfInBounds i true)) hT hn0 hlo hos hb hrs fun a' w' st' S' gh' h1 h2 h3 h4 h5 => by
        have hisz2 : i < listed.size := by omega
        have look : ∀ k d, (listed.setIfInBounds i true).getD k d = if k = i then true else listed.getD k d := by
          intro k d
          simp only [Array.getD_eq_getD_getElem?]
          by_cases hk : k = i
          · subst hk
            rw [if_pos rfl, Array.getElem?_setIfInBounds_self_of_lt hisz2]; rfl
          · rw [if_neg hk, Array.getElem?_setIfInBounds_ne (fun e => hk e.symm)]
        have hni : i ∉ l1 ++ l2 := by
          intro hmem
          rcases List.mem_append.1 hmem with h | h
          · have := hl1 i h; omega
          · have := (List.pairwise_cons.1 hpw.2.1).1 i h; omega
        refine ih (l1 ++ l2) (by simp at hn ⊢; omega) (listed.setIfInBounds i true) st' S' gh' a' w' ?_ ?_ (by simp [hsz]) ?_ h4 h5 h1 h2 (hf.trans h3)
        · exact List.pairwise_append.2 ⟨hpw.1, (List.pairwise_cons.1 hpw.2.1).2, fun x hx y hy => hpw.2.2 x hx y (by simp [hy])⟩
        · intro k
          rw [look]
          by_cases hk : k = i
          · subst hk
            simp [hni]
          · rw [if_neg hk, ← hm k]
            simp [hk]
        · intro k o' ho' hk e he hb'
          rw [look] at hk ⊢
          by_cases hki : k = i
          · subst hki
            rw [ho] at ho'
            cases ho'
            have := hpre e he hb'
            split
            · rfl
            · exact this
          · rw [if_neg hki] at hk
            have := hc k o' ho' hk e he hb'
            split
            · rfl
            · exact this
      by_cases hw : Region.wanted o (yielded ops a.tmps) = true
      · rw [if_pos hw] at hstep ⊢
        exact .inl hstep
      · rw [if_neg hw] at hstep ⊢
        exact hstep
theorem evOpsR_draw (hmn : n0 ≤ m) (hT : T.OK P) (hm : P.follows .mixedOrders = true) (hd : drawOkR ops = true) {R : Exit → St → Prop} (hlo : lo ≤ n0) {st : St} {S : Stay} {gh : List Value} {a : Act} {w : World} (hn : n0 ≤ st.sto.length) (hos : OutSc n0 st.sto) (h : EvOpsR T (CallOK P) n0 lo m ops (R .normal) ops.toList st) (hrs : RS S gh w a st) (id : Nat) :
    (Code.region id ops true).wp P (PostOK n0 lo S gh w st.sto R) a w := by
  refine wp_region_any hm ?_
  obtain ⟨hrs', hf⟩ := RS.drew (lo := lo) hrs
  have hl : opsOf ops (List.range ops.size) = ops.toList := by
    apply List.ext_getElem?
    intro k
    simp only [opsOf, List.getElem?_map]
    rcases Nat.lt_or_ge k ops.size with hk | hk
    · rw [List.getElem?_range hk, Array.getElem?_toList, Array.getElem?_eq_getElem hk]
      simp [Array.getD_eq_getD_getElem?, hk]
    · rw [List.getElem?_eq_none (by simpa using hk), List.getElem?_eq_none (by simpa using hk)]; rfl
  have := evOpsR_any hmn (P := P) hT hd (R := R) (S0 := S) (gh0 := gh) (w0 := w) (sto0 := st.sto) hlo (List.range ops.size) (Array.replicate ops.size false) st S gh a w.drew List.pairwise_lt_range (fun k => by
    simp only [List.mem_range, Array.getD_eq_getD_getElem?]
    constructor
    · intro hk; exact ⟨hk, by simp [hk]⟩
    · exact fun h => h.1) (by simp) (fun k o ho hk => by
    exfalso
    simp only [Array.getD_eq_getD_getElem?] at hk
    rcases Nat.lt_or_ge k ops.size with h | h
    · simp [h] at hk
    · simp [h] at hk) hn hos (by rw [hl]; exact h) hrs' (hf.weaken hn)
  rw [List.length_range] at this
  exact this
end
end Go.Proofs.YtomameefmobnlaaDoor
namespace Go.Proofs.YtomameefmobnlaaDoor
open Go Go.RowKit

/-! ### A loop, one round at a time -/
theorem exitTo_len {id : Nat} : ∀ {k k' : List Item}, exitTo id k = some k' → k'.length ≤ k.length
  | [], k', h => by simp [exitTo] at h
  | x :: k, k', h => by
    cases x <;> simp only [exitTo] at h
    case inBlock j =>
      split at h
      · simp only [Option.some.injEq] at h; subst h; simp
      · have := exitTo_len h; simp only [List.length_cons]; omega
    all_goals (have := exitTo_len h; simp only [List.length_cons]; omega)
theorem steps_tail {P : Program} {m m1 m' : Machine} (h1 : step P m = .next m1) (h : Steps P m m') (hne : m ≠ m') : Steps P m1 m' := by
  obtain ⟨n, hn⟩ := h
  cases n with
  | zero => simp only [runN, Stepped.next.injEq] at hn; exact absurd hn hne
  | succ n => simp only [runN, h1] at hn; exact ⟨n, hn⟩
theorem lone_todo {f g : Frame} {cs : List Frame} {w w' : World} (h : lone f cs w = lone g cs w') : f.todo = g.todo ∧ f.mode = g.mode := by
  simp only [lone, Machine.mk.injEq, Array.mk.injEq, List.cons.injEq, Goroutine.mk.injEq] at h
  obtain ⟨_, ⟨⟨rfl, _⟩, _⟩, _⟩ := h
  exact ⟨rfl, rfl⟩
theorem wp_loop_unroll {P : Program} {c : Code} {Q : Exit → Act → World → Prop} (hQ : ∀ e a w, Q e a w → okExit e = true) {a : Act} {w : World} (h : c.wp P (Exit.then ((Code.loop c).wp P Q) Q) a w) : (Code.loop c).wp P Q a w := by
  intro b k cs
  obtain ⟨e, a₁, w₁, hq, harr⟩ := h b (.inLoop c :: k) cs
  cases e with
  | normal =>
    obtain ⟨e₂, a₂, w₂, hq₂, harr₂⟩ := hq b k cs
    refine ⟨e₂, a₂, w₂, hq₂, .of_steps (Steps.head step_loop harr) ?_⟩
    have h1 : step P (lone (b.at a₁ (.inLoop c :: k)) cs w₁) = .next (lone (b.at a₁ (.code c :: .inLoop c :: k)) cs w₁) := step_inLoop
    have h2 : step P (lone (b.at a₁ (.code (.loop c) :: k)) cs w₁) = .next (lone (b.at a₁ (.code c :: .inLoop c :: k)) cs w₁) := step_loop
    have move : ∀ m', lone (b.at a₁ (.code (.loop c) :: k)) cs w₁ ≠ m' → Steps P (lone (b.at a₁ (.code (.loop c) :: k)) cs w₁) m' → Steps P (lone (b.at a₁ (.inLoop c :: k)) cs w₁) m' := fun m' hne hs => .head h1 (steps_tail h2 hs hne)
    cases e₂ with
    | normal =>
      refine move _ (fun heq => ?_) harr₂
      have := (lone_todo heq).1
      simp only [Frame.at] at this
      have := congrArg List.length this
      simp at this
    | exit id =>
      intro k' hk'
      refine move _ (fun heq => ?_) (harr₂ k' hk')
      have h3 := (lone_todo heq).1
      simp only [Frame.at] at h3
      have h4 := exitTo_len hk'
      rw [← h3] at h4
      simp at h4
      omega
    | ret =>
      obtain ⟨todo, hs⟩ := harr₂
      refine ⟨todo, move _ (fun heq => ?_) hs⟩
      have := (lone_todo heq).2
      simp [Frame.at] at this
    | goto l => exact absurd (hQ _ _ _ hq₂) (by simp [okExit])
    | panic c => exact absurd (hQ _ _ _ hq₂) (by simp [okExit])
    | outgrown => exact absurd (hQ _ _ _ hq₂) (by simp [okExit])
  | exit id => exact ⟨_, a₁, w₁, hq, .of_steps (.one step_loop) (.pass (x := .inLoop c) rfl (fun _ _ => .inl (by simp)) harr)⟩
  | goto l => exact absurd (hQ _ _ _ hq) (by simp [okExit])
  | ret => exact ⟨_, a₁, w₁, hq, .of_steps (.one step_loop) (.pass (x := .inLoop c) rfl (fun _ _ => .inl (by simp)) harr)⟩
  | panic ch => exact absurd (hQ _ _ _ hq) (by simp [okExit])
  | outgrown => exact absurd (hQ _ _ _ hq) (by simp [okExit])

/-! ### What is done between regions and rounds -/
section
variable {n0 lo : Nat} {S : Stay} {gh : List Value} {w : World} {a : Act} {st : St}
/-- What such a step leaves. -/
def GhostOK (n0 lo : Nat) (S : Stay) (gh : List Value) (w : World) (a : Act) (sto : Sto) (st' : St) : Prop :=
  ∃ S' gh', RS S' gh' w a st' ∧ Fr n0 lo S gh w sto S' gh' w st'.sto ∧ n0 ≤ st'.sto.length ∧ OutSc n0 st'.sto
theorem share_one (hs : SR S gh w st.sto) (hrs : RS S gh w a st) (hn : n0 ≤ st.sto.length) (hos : OutSc n0 st.sto) {i : Nat} {e : Ent} (hi : st.sto[i]? = some e) (hlo : lo ≤ i) : GhostOK n0 lo S gh w a st.sto { st with sto := st.sto.set i (shareE e) } := by
  have keepSame : st.sto.set i e = st.sto := by
    apply List.ext_getElem?
    intro k
    rcases Nat.decEq i k with h | h
    · rw [List.getElem?_set_ne h]
    · subst h; rw [List.getElem?_set_self (List.getElem?_eq_some_iff.1 hi).1, hi]
  cases e with
  | cells ds =>
    have hsE : shareE (.cells ds) = .cells ds := rfl
    exact ⟨S, gh, by rw [hsE, keepSame]; exact hrs, by simp only [hsE, keepSame]; exact Fr.refl _ _ _ _ _ _, by simpa [hsE, keepSame] using hn, by simpa [hsE, keepSame] using hos⟩
  | map k kvs =>
    have hsE : shareE (.map k kvs) = .map k kvs := rfl
    exact ⟨S, gh, by rw [hsE, keepSame]; exact hrs, by simp only [hsE, keepSame]; exact Fr.refl _ _ _ _ _ _, by simpa [hsE, keepSame] using hn, by simpa [hsE, keepSame] using hos⟩
  | arr es wr n cs =>
    obtain ⟨gv, hg, hE⟩ := hs.ent i _ hi
    obtain ⟨S', hS'⟩ : ∃ S' : Stay, S' = fun b o => S b o ∨ (blk gv = some b ∧ o < cs.length) := ⟨_, rfl⟩
    have hst : ∀ b o, S b o → S' b o ∧ w.cell? ⟨b, o, none⟩ = w.cell? ⟨b, o, none⟩ := fun b o h => ⟨by rw [hS']; exact .inl h, rfl⟩
    have hf : Fr st.sto.length lo S gh w st.sto S' (gh.set i gv) w (st.sto.set i (.arr es false n cs)) := upd_fr hi hg hlo rfl rfl rfl (Nat.le_refl _) (fun _ _ _ => rfl) hst (fun g h => .inl h) ⟨Nat.le_refl _, fun _ => rfl⟩
    have hlt : ∀ b, blk gv = some b → b < w.heap.size := fun b hb => hE.lt hb
    have hsr := upd_sr (e' := .arr es false n cs) hs hi hg hf (fun _ _ _ => rfl) (fun b o h => by
      rw [hS'] at h
      rcases h with h | ⟨h, _⟩
      · exact .inl h
      · exact .inr ⟨h, hlt b h⟩) (fun g h => .inl h) (by
      cases es with
      | none => exact hE
      | some es =>
        obtain ⟨e0, s⟩ := es
        obtain ⟨g, cap, cur, rfl, hh, h1, h2, h3, h4, h5, h6⟩ := hE
        refine ⟨g, cap, cur, rfl, hh, h1, h2, h3, h4, fun j u c hu hc => ⟨(h5 j u c hu hc).1, RepV.mono hf.stable (h5 j u c hu hc).2⟩, ?_⟩
        simp only [Bool.false_eq_true, if_false]
        intro o
        rw [hS', h4]
        constructor
        · rintro (h | ⟨_, h⟩)
          · cases wr with
            | true => simp only [if_true] at h6; exact absurd h (h6 o)
            | false => simp only [Bool.false_eq_true, if_false] at h6; exact (h6 o).1 h
          · exact h
        · exact fun h => .inr ⟨rfl, h⟩)
    refine ⟨S', gh.set i gv, ⟨hrs.size, fun t v d hv hd => RepD.mono hs hf (hrs.env t v d hv hd), hsr, hrs.defers, hrs.glob.mono hf.stable⟩, hf.weaken hn, by simpa [shareE] using hn, ?_⟩
    exact hos.setArr
theorem shareAll_ok : ∀ (l : List Nat) (st : St) (S : Stay) (gh : List Value), RS S gh w a st → n0 ≤ st.sto.length → OutSc n0 st.sto → GhostOK n0 lo S gh w a st.sto { st with sto := shareAll lo l st.sto }
  | [], st, S, gh, hrs, hn, hos => ⟨S, gh, hrs, Fr.refl _ _ _ _ _ _, hn, hos⟩
  | i :: l, st, S, gh, hrs, hn, hos => by
    unfold shareAll
    by_cases hlo : lo ≤ i
    · rw [if_pos hlo]
      cases hi : st.sto[i]? with
      | none => exact shareAll_ok l st S gh hrs hn hos
      | some e =>
        obtain ⟨S', gh', h1, h2, h3, h4⟩ := share_one hrs.sto hrs hn hos hi hlo
        obtain ⟨S2, gh2, k1, k2, k3, k4⟩ := shareAll_ok l _ S' gh' h1 h3 h4
        exact ⟨S2, gh2, k1, h2.trans k2, k3, k4⟩
    · rw [if_neg hlo]
      exact shareAll_ok l st S gh hrs hn hos
theorem RS.setEnv (hrs : RS S gh w a st) (t : Nat) (d : D) (hd : ∀ v, a.tmps.toList[t]? = some v → RepD S gh st.sto w v d) : RS S gh w a { st with env := st.env.set t d } := by
  refine ⟨by simpa using hrs.size, fun t' v e hv he => ?_, hrs.sto, hrs.defers, hrs.glob⟩
  simp only at he
  rcases Nat.decEq t t' with h | h
  · rw [List.getElem?_set_ne h] at he; exact hrs.env t' v e hv he
  · subst h
    have hlt := (List.getElem?_eq_some_iff.1 hv).1
    rw [List.getElem?_set_self (by rw [← hrs.size]; exact hlt)] at he
    cases he
    exact hd v hv
/-- A cell of a box is read otherwise; memory stays as it is. -/
theorem cell_over {i k : Nat} {ds : List D} {d : D} (hrs : RS S gh w a st) (hn : n0 ≤ st.sto.length) (hos : OutSc n0 st.sto) (hi : st.sto[i]? = some (.cells ds)) (hlo : lo ≤ i) (hsc : i < n0 → d.inside n0 = true) (hd : ∀ v, (∃ e, ds[k]? = some e ∧ RepC S gh st.sto w v e) → RepC S gh st.sto w v d) : GhostOK n0 lo S gh w a st.sto { st with sto := st.sto.set i (.cells (ds.set k d)) } := by
  obtain ⟨gv, hg, hE⟩ := hrs.sto.ent i _ hi
  have hf : Fr st.sto.length lo S gh w st.sto S (gh.set i gv) w (st.sto.set i (.cells (ds.set k d))) := upd_fr hi hg hlo rfl rfl rfl (Nat.le_refl _) (fun _ _ _ => rfl) (fun b o h => ⟨h, rfl⟩) (fun g h => .inl h) ⟨rfl, by simp⟩
  have hsr := upd_sr (e' := .cells (ds.set k d)) hrs.sto hi hg hf (fun _ _ _ => rfl) (fun b o h => .inl h) (fun g h => .inl h) (by
    obtain ⟨g, cur, ty, rfl, hh, h1, h2, h3⟩ := hE
    refine ⟨g, cur, ty, rfl, hh, by simpa using h1, h2, fun j u e hu he => ?_⟩
    rcases Nat.decEq k j with h | h
    · rw [List.getElem?_set_ne h] at he
      have := h3 j u e hu he
      exact ⟨this.1, RepC.mono hrs.sto hf this.2⟩
    · subst h
      have hlt : k < ds.length := by have := (List.getElem?_eq_some_iff.1 hu).1; omega
      rw [List.getElem?_set_self hlt] at he
      cases he
      have := h3 k u _ hu (List.getElem?_eq_getElem hlt)
      exact ⟨this.1, RepC.mono hrs.sto hf (hd u ⟨_, List.getElem?_eq_getElem hlt, this.2⟩)⟩)
  refine ⟨S, _, ⟨hrs.size, fun t v d hv hd => RepD.mono hrs.sto hf (hrs.env t v d hv hd), hsr, hrs.defers, hrs.glob.mono hf.stable⟩, hf.weaken hn, by simpa using hn, fun j es hj he => ?_⟩
  simp only at he
  rcases Nat.decEq i j with h | h
  · rw [List.getElem?_set_ne h] at he; exact hos j es hj he
  · subst h
    rw [List.getElem?_set_self (List.getElem?_eq_some_iff.1 hi).1] at he
    simp only [Option.some.injEq, Ent.cells.injEq] at he
    subst he
    have h0 := hos i ds hj hi
    rw [scopedL_iff] at h0 ⊢
    intro e he
    rcases List.mem_or_eq_of_mem_set he with h | rfl
    · exact h0 e h
    · exact hsc hj
/-- A nil slice that gets an entry. -/
theorem push_nil {wr : Bool} (hrs : RS S gh w a st) (hn : n0 ≤ st.sto.length) (hos : OutSc n0 st.sto) (hlo : lo ≤ st.sto.length) : ∃ gh', RS S gh' w a { st with sto := st.sto ++ [.arr none wr 0 []] } ∧ Fr st.sto.length lo S gh w st.sto S gh' w (st.sto ++ [.arr none wr 0 []]) ∧ OutSc n0 (st.sto ++ [.arr none wr 0 []]) ∧ gh'[st.sto.length]? = some (.slice none 0 0) := by
  have hf : Fr st.sto.length lo S gh w st.sto S (gh ++ [.slice none 0 0]) w (st.sto ++ [.arr none wr 0 []]) := push_fr hrs.sto hlo (Below.refl _ _) (fun _ _ h => h) (fun g h => by simp [blk] at h)
  have hsr := push_sr hrs.sto hf (Below.refl _ _) (fun b o h => .inl h) (fun g h => by simp [blk] at h) ⟨rfl, rfl, rfl⟩
  exact ⟨_, ⟨hrs.size, fun t v d hv hd => RepD.mono hrs.sto hf (hrs.env t v d hv hd), hsr, hrs.defers, hrs.glob.mono hf.stable⟩, hf, hos.push hn _, by rw [← hrs.sto.len]; simp⟩
theorem arr_nil_rep {wr : Bool} {gh' : List Value} {sto : Sto} {v : Value} (hg : gh'[sto.length]? = some (.slice none 0 0)) (hv : v = .slice none 0 0) : RepC S gh' (sto ++ [.arr none wr 0 []]) w v (.arr sto.length 0) := by
  subst hv
  refine ⟨by simp, ⟨_, _, rfl⟩, fun es wr' m cs h => ?_⟩
  simp only [List.getElem?_append_right (Nat.le_refl _), Nat.sub_self, List.getElem?_cons_zero, Option.some.injEq, Ent.arr.injEq] at h
  obtain ⟨_, _, rfl, _⟩ := h
  exact ⟨Nat.le_refl _, fun _ => hg⟩
theorem inside_agree {m : Nat} {gh2 : List Value} {sto sto2 : Sto} {d : D} {v : Value} (g1 : ∀ id, id < m → gh2[id]? = gh[id]?) (s1 : ∀ id, id < m → sto2[id]? = sto[id]?) (l1 : ∀ id, id < m → id < sto2.length) (h : RepC S gh sto w v d) (hd : d.inside m = true) : RepC S gh2 sto2 w v d := by
  cases d with
  | v x => exact h
  | agg ds => exact h
  | nilS => exact h
  | arr id n =>
    have hid : id < m := by simpa [D.inside] using hd
    obtain ⟨h1, h2, h3⟩ := h
    exact ⟨l1 id hid, h2, fun es wr k cs hs => by rw [s1 id hid] at hs; rw [g1 id hid]; exact h3 es wr k cs hs⟩
  | aptr id n o =>
    have hid : id < m := by simpa [D.inside] using hd
    obtain ⟨h1, h2, h3⟩ := h
    refine ⟨l1 id hid, h2, fun es wr k cs hs => ?_⟩
    rw [s1 id hid] at hs
    unfold blkAt
    rw [g1 id hid]
    exact h3 es wr k cs hs
  | ptr id off =>
    have hid : id < m := by simpa [D.inside] using hd
    obtain ⟨h1, g, h2, h3⟩ := h
    exact ⟨l1 id hid, g, by rw [g1 id hid]; exact h2, h3⟩
  | vp cs o => exact h
  | nilp => exact h
  | clo f caps =>
    obtain ⟨vs, h1, h2, h3⟩ := h
    refine ⟨vs, h1, h2, fun j id hj => ?_⟩
    obtain ⟨a1, g, a2, a3⟩ := h3 j id hj
    have hid : id < m := by
      simp only [D.inside, List.all_eq_true, decide_eq_true_eq] at hd
      exact hd id (List.mem_of_getElem? hj)
    exact ⟨l1 id hid, g, by rw [g1 id hid]; exact a2, a3⟩
  | nilf => exact h
  | undef => exact h
  | dead => exact h
  | win id n o k =>
    have hid : id < m := by simpa [D.inside] using hd
    obtain ⟨h1, h2, h3⟩ := h
    refine ⟨l1 id hid, h2, fun es wr k cs hs => ?_⟩
    rw [s1 id hid] at hs
    unfold blkAt
    rw [g1 id hid]
    exact h3 es wr k cs hs
  | map id =>
    have hid : id < m := by simpa [D.inside] using hd
    obtain ⟨h1, g, h2, h3⟩ := h
    exact ⟨l1 id hid, g, by rw [g1 id hid]; exact h2, h3⟩
  | nilM => exact h
theorem inside_take {m : Nat} {sto : Sto} {d : D} {v : Value} (hm : m ≤ sto.length) (h : RepC S gh sto w v d) (hd : d.inside m = true) : RepC S (gh.take m) (sto.take m) w v d :=
  inside_agree (fun id h => List.getElem?_take_of_lt h) (fun id h => List.getElem?_take_of_lt h) (fun id h => by simp; omega) h hd
theorem SR.take {m : Nat} {sto : Sto} (hs : SR S gh w sto) (hm : m ≤ sto.length) (hsc : ∀ i ds, i < m → sto[i]? = some (.cells ds) → scopedL m ds = true) : SR S (gh.take m) w (sto.take m) where
  len := by simp [hs.len]
  ent := fun i e hi => by
    have him : i < m := by have := (List.getElem?_eq_some_iff.1 hi).1; simp at this; omega
    rw [List.getElem?_take_of_lt him] at hi
    obtain ⟨gv, h1, h2⟩ := hs.ent i e hi
    refine ⟨gv, by rw [List.getElem?_take_of_lt him]; exact h1, ?_⟩
    cases e with
    | cells ds =>
      obtain ⟨g, cur, ty, rfl, hh, k1, k2, k3⟩ := h2
      refine ⟨g, cur, ty, rfl, hh, k1, k2, fun k u d hu hd => ⟨(k3 k u d hu hd).1, inside_take hm (k3 k u d hu hd).2 ?_⟩⟩
      exact scopedL_iff.1 (hsc i ds him hi) d (List.mem_of_getElem? hd)
    | arr es wr n cs => cases es <;> exact h2
    | map k kvs => exact h2
  inj := fun i j g hi hj => by
    have look : ∀ i, blkAt (gh.take m) i = some g → blkAt gh i = some g := by
      intro i h
      unfold blkAt at h ⊢
      rcases Nat.lt_or_ge i m with h1 | h1
      · rw [List.getElem?_take_of_lt h1] at h; exact h
      · rw [List.getElem?_eq_none (by simp; omega)] at h; cases h
    exact hs.inj i j g (look i hi) (look j hj)
  stay := hs.stay
/-- One slice of the call's own outlives it. -/
theorem SR.moved {m id n : Nat} {es : Option (TypeId × Nat)} {wr : Bool} {cs : List V} {gv : Value} {sto : Sto} (hs : SR S gh w sto) (hm : m ≤ sto.length) (hsc : ∀ i ds, i < m → sto[i]? = some (.cells ds) → scopedL m ds = true) (hid : m ≤ id) (hes : sto[id]? = some (.arr es wr n cs)) (hg : gh[id]? = some gv) : SR S (gh.take m ++ [gv]) w (sto.take m ++ [.arr es wr n cs]) where
  len := by simp [hs.len]
  ent := fun i e hi => by
    have hl : (sto.take m).length = m := by simp; omega
    have hl2 : (gh.take m).length = m := by simp [hs.len]; omega
    rcases Nat.lt_or_ge i m with him | him
    · rw [List.getElem?_append_left (by omega), List.getElem?_take_of_lt him] at hi
      obtain ⟨gv, h1, h2⟩ := hs.ent i e hi
      refine ⟨gv, by rw [List.getElem?_append_left (by omega), List.getElem?_take_of_lt him]; exact h1, ?_⟩
      cases e with
      | cells ds =>
        obtain ⟨g, cur, ty, rfl, hh, k1, k2, k3⟩ := h2
        refine ⟨g, cur, ty, rfl, hh, k1, k2, fun k u d hu hd => ⟨(k3 k u d hu hd).1, inside_agree (m := m) (fun id h => ?_) (fun id h => ?_) (fun id h => by simp; omega) (k3 k u d hu hd).2 ?_⟩⟩
        · rw [List.getElem?_append_left (by omega), List.getElem?_take_of_lt h]
        · rw [List.getElem?_append_left (by omega), List.getElem?_take_of_lt h]
        · exact scopedL_iff.1 (hsc i ds him hi) d (List.mem_of_getElem? hd)
      | arr es wr n cs => cases es <;> exact h2
      | map k kvs => exact h2
    · rw [List.getElem?_append_right (by omega), hl] at hi
      have h0 : i - m = 0 := by
        rcases Nat.eq_zero_or_pos (i - m) with h0 | h0
        · exact h0
        · rw [List.getElem?_eq_none (by simp; omega)] at hi; cases hi
      rw [h0] at hi
      simp only [List.getElem?_cons_zero, Option.some.injEq] at hi
      subst hi
      obtain ⟨gv', h1, h2⟩ := hs.ent id _ hes
      rw [hg] at h1
      cases h1
      refine ⟨gv, by rw [List.getElem?_append_right (by omega), hl2, h0]; rfl, ?_⟩
      cases es <;> exact h2
  inj := fun i j g hi hj => by
    have hl2 : (gh.take m).length = m := by simp [hs.len]; omega
    have look : ∀ i, blkAt (gh.take m ++ [gv]) i = some g → (i < m ∧ blkAt gh i = some g) ∨ (i = m ∧ blkAt gh id = some g) := by
      intro i h
      unfold blkAt at h ⊢
      rcases Nat.lt_or_ge i m with h1 | h1
      · rw [List.getElem?_append_left (by omega), List.getElem?_take_of_lt h1] at h; exact .inl ⟨h1, h⟩
      · rw [List.getElem?_append_right (by omega), hl2] at h
        rcases Nat.eq_zero_or_pos (i - m) with h0 | h0
        · rw [h0] at h
          rw [hg]
          exact .inr ⟨by omega, h⟩
        · rw [List.getElem?_eq_none (by simp; omega)] at h; cases h
    rcases look i hi with ⟨a, b⟩ | ⟨a, b⟩ <;> rcases look j hj with ⟨c, d⟩ | ⟨c, d⟩
    · exact hs.inj i j g b d
    · have := hs.inj i id g b d; omega
    · have := hs.inj j id g d b; omega
    · omega
  stay := hs.stay
theorem moved_fr {m id : Nat} {gv : Value} {e : Ent} {sto : Sto} (hs : SR S gh w sto) (hm : n0 ≤ m) (hml : m ≤ sto.length) (hlo : lo ≤ n0) (hid : m ≤ id) (hg : gh[id]? = some gv) : Fr n0 lo S gh w sto S (gh.take m ++ [gv]) w (sto.take m ++ [e]) where
  os := rfl
  tape := rfl
  output := rfl
  size := Nat.le_refl _
  stable := fun b o h => ⟨h, rfl⟩
  block := fun _ _ _ => rfl
  low := fun i hi => by
    have hl : (sto.take m).length = m := by simp; omega
    have hl2 : (gh.take m).length = m := by simp [hs.len]; omega
    exact ⟨by rw [List.getElem?_append_left (by omega), List.getElem?_take_of_lt (by omega)], by rw [List.getElem?_append_left (by omega), List.getElem?_take_of_lt (by omega)]⟩
  new := fun i g hi hgi => by
    have hl2 : (gh.take m).length = m := by simp [hs.len]; omega
    unfold blkAt at hgi
    rcases Nat.lt_or_ge i m with h1 | h1
    · rw [List.getElem?_append_left (by omega), List.getElem?_take_of_lt h1] at hgi; exact .inl ⟨i, hi, hgi⟩
    · rw [List.getElem?_append_right (by omega), hl2] at hgi
      rcases Nat.eq_zero_or_pos (i - m) with h0 | h0
      · rw [h0] at hgi
        exact .inl ⟨id, by omega, by unfold blkAt; rw [hg]; exact hgi⟩
      · rw [List.getElem?_eq_none (by simp; omega)] at hgi; cases hgi
  keep := fun i e gv hi h1 h2 => by
    have hl : (sto.take m).length = m := by simp; omega
    have hl2 : (gh.take m).length = m := by simp [hs.len]; omega
    exact ⟨e, gv, by rw [List.getElem?_append_left (by omega), List.getElem?_take_of_lt (by omega)]; exact h1, by rw [List.getElem?_append_left (by omega), List.getElem?_take_of_lt (by omega)]; exact h2, KeepE.refl gv e⟩
theorem take_fr {m : Nat} {sto : Sto} (hm : n0 ≤ m) (hlo : lo ≤ n0) : Fr n0 lo S gh w sto S (gh.take m) w (sto.take m) where
  os := rfl
  tape := rfl
  output := rfl
  size := Nat.le_refl _
  stable := fun b o h => ⟨h, rfl⟩
  block := fun _ _ _ => rfl
  low := fun i hi => ⟨List.getElem?_take_of_lt (by omega), List.getElem?_take_of_lt (by omega)⟩
  new := fun i g hi hg => by
    unfold blkAt at hg
    rcases Nat.lt_or_ge i m with h1 | h1
    · rw [List.getElem?_take_of_lt h1] at hg; exact .inl ⟨i, hi, hg⟩
    · rw [List.getElem?_eq_none (by simp; omega)] at hg; cases hg
  keep := fun i e gv hi h1 h2 => ⟨e, gv, by rw [List.getElem?_take_of_lt (by omega)]; exact h1, by rw [List.getElem?_take_of_lt (by omega)]; exact h2, KeepE.refl gv e⟩
theorem ghost_ok {s s' : St} (hg : Ghost n0 lo s s') (hlo : lo ≤ n0) : ∀ (S : Stay) (gh : List Value), RS S gh w a s → n0 ≤ s.sto.length → OutSc n0 s.sto → GhostOK n0 lo S gh w a s.sto s' := by
  induction hg with
  | refl s => intro S gh hrs hn hos; exact ⟨S, gh, hrs, Fr.refl _ _ _ _ _ _, hn, hos⟩
  | trans _ _ ih1 ih2 =>
    intro S gh hrs hn hos
    obtain ⟨S1, g1, h1, h2, h3, h4⟩ := ih1 S gh hrs hn hos
    obtain ⟨S2, g2, k1, k2, k3, k4⟩ := ih2 S1 g1 h1 h3 h4
    exact ⟨S2, g2, k1, h2.trans k2, k3, k4⟩
  | kill s t => intro S gh hrs hn hos; exact ⟨S, gh, hrs.setEnv t .dead fun v _ => True.intro, Fr.refl _ _ _ _ _ _, hn, hos⟩
  | view s t d x h hv =>
    intro S gh hrs hn hos
    exact ⟨S, gh, hrs.setEnv t (.v x) fun v hv' => view_rep hrs.sto (hrs.env t v d hv' h) hv, Fr.refl _ _ _ _ _ _, hn, hos⟩
  | adopt s t wr h hl =>
    intro S gh hrs hn hos
    obtain ⟨gh', h1, h2, h3, h4⟩ := push_nil (wr := wr) hrs hn hos hl
    refine ⟨S, gh', h1.setEnv t (.arr s.sto.length 0) fun v hv => ?_, h2.weaken hn, by simp; omega, h3⟩
    exact arr_nil_rep (S := S) (w := w) h4 (hrs.env t v .nilS hv h)
  | reserve s hl =>
    intro S gh hrs hn hos
    obtain ⟨gh', h1, h2, h3, h4⟩ := push_nil (wr := false) hrs hn hos hl
    exact ⟨S, gh', h1, h2.weaken hn, by simp; omega, h3⟩
  | adoptC s i k wr ds h hk hi hl =>
    intro S gh hrs hn hos
    have hil : i < s.sto.length := (List.getElem?_eq_some_iff.1 h).1
    obtain ⟨gh', h1, h2, h3, h4⟩ := push_nil (lo := lo) (wr := wr) hrs hn hos (by omega)
    have hi' : (s.sto ++ [.arr none wr 0 []])[i]? = some (.cells ds) := by rw [List.getElem?_append_left hil]; exact h
    obtain ⟨S2, gh2, k1, k2, k3, k4⟩ := cell_over (k := k) (d := .arr s.sto.length 0) h1 (by simp; omega) h3 hi' hl (fun h => by omega) (fun v ⟨e, he, hr⟩ => by
      rw [hk] at he
      cases he
      exact arr_nil_rep h4 hr)
    rw [List.set_append_left _ _ hil] at k1 k2 k3 k4
    exact ⟨S2, gh2, k1, (h2.weaken hn).trans k2, k3, k4⟩
  | killC s i k ds h hi hl =>
    intro S gh hrs hn hos
    exact cell_over (k := k) (d := .dead) hrs hn hos h hl (fun _ => rfl) (fun v _ => True.intro)
  | viewC s i k ds d x h hk hv hl =>
    intro S gh hrs hn hos
    exact cell_over (k := k) (d := .v x) hrs hn hos h hl (fun _ => rfl) (fun v ⟨e, he, hr⟩ => by
      rw [hk] at he
      cases he
      exact viewC_rep hrs.sto hr hv)
  | share s l => intro S gh hrs hn hos; exact shareAll_ok l s S gh hrs hn hos
  | trunc s m hm he hs =>
    intro S gh hrs hn hos
    rcases Nat.lt_or_ge s.sto.length m with hml | hml
    · have e1 : s.sto.take m = s.sto := List.take_of_length_le (by omega)
      exact ⟨S, gh, by rw [e1]; exact hrs, by simp only [e1]; exact Fr.refl _ _ _ _ _ _, by simpa [e1] using hn, by simpa [e1] using hos⟩
    · have hsc : ∀ i ds, i < m → s.sto[i]? = some (.cells ds) → scopedL m ds = true := by
        intro i ds him hi
        rcases Nat.lt_or_ge i n0 with h | h
        · have := hos i ds h hi
          rw [scopedL_iff] at this ⊢
          intro d hd
          have h2 := this d hd
          cases d <;> simp only [D.inside, decide_eq_true_eq, List.all_eq_true] at h2 ⊢ <;> first | omega | (intro x hx; have := h2 x hx; omega) | exact h2
        · exact hs i ds him hi h
      refine ⟨S, gh.take m, ⟨hrs.size, fun t v d hv hd => ?_, hrs.sto.take hml hsc, hrs.defers, hrs.glob⟩, take_fr hm hlo, by simp; omega, fun i ds hi hd => ?_⟩
      · have hsd := scopedL_iff.1 he d (List.mem_of_getElem? hd)
        have hr := hrs.env t v d hv hd
        cases d with
        | agg ds => simp [D.inside] at hsd
        | _ => simp only [RepD] at hr ⊢; exact inside_take hml hr hsd
      · simp only at hd
        rw [List.getElem?_take_of_lt (by omega)] at hd
        exact hos i ds hi hd
end
end Go.Proofs.YtomameefmobnlaaDoor
namespace Go.Proofs.YtomameefmobnlaaDoor
open Go Go.RowKit

section
variable {P : Program} {T : Tab} {n0 lo : Nat} {wt : List Tmp}
theorem postOK_ok {S : Stay} {gh : List Value} {w : World} {sto : Sto} {R : Exit → St → Prop} : ∀ e a w', PostOK n0 lo S gh w sto R e a w' → okExit e = true := fun _ _ _ h => h.1
theorem evC_sound (hT : T.OK P) (hm : P.follows .mixedOrders = true) (hlo : lo ≤ n0) : ∀ (c : Code) (R : Exit → St → Prop) (st : St) (S : Stay) (gh : List Value) (a : Act) (w : World), EvC T (CallOK P) n0 lo wt c R st → RS S gh w a st → n0 ≤ st.sto.length → OutSc n0 st.sto → c.wp P (PostOK n0 lo S gh w st.sto R) a w := by
  intro c
  induction c with
  | skip => intro R st S gh a w h hrs hn hos; exact wp_skip ⟨rfl, st, S, gh, h, hrs, Fr.refl _ _ _ _ _ _, hn, hos⟩
  | region id ops draw =>
    intro R st S gh a w h hrs hn hos
    simp only [EvC] at h
    rcases h with ⟨hd, st2, hgs, h⟩ | ⟨rfl, hd, st2, m, hgs, hmn, h⟩
    · obtain ⟨S', gh', h1, h2, h3, h4⟩ := ghost_ok hgs hlo S gh hrs hn hos
      cases draw with
      | false =>
        refine Code.wp_mono (fun e a w h => PostOK.trans h2 h) ?_
        exact wp_region_list (evOps_list hT hlo ops.toList _ S' gh' a w h3 h4 h h1 (Fr.refl _ _ _ _ _ _))
      | true => exact Code.wp_mono (fun e a w h => PostOK.trans h2 h) (evOps_draw hT hm (hd rfl) hlo h3 h4 h h1 id)
    · obtain ⟨S', gh', h1, h2, h3, h4⟩ := ghost_ok hgs hlo S gh hrs hn hos
      exact Code.wp_mono (fun e a w h => PostOK.trans h2 h) (evOpsR_draw hmn hT hm hd hlo h3 h4 h h1 id)
  | seq x y ihx ihy =>
    intro R st S gh a w h hrs hn hos
    simp only [EvC] at h
    refine wp_seq (Code.wp_mono ?_ (ihx _ st S gh a w h hrs hn hos))
    rintro e a' w' ⟨h0, st', S', gh', h1, h2, h3, h4, h5⟩
    cases e with
    | normal => exact Code.wp_mono (fun e a w h => PostOK.trans h3 h) (ihy R st' S' gh' a' w' h1 h2 h4 h5)
    | exit id => exact ⟨h0, st', S', gh', h1, h2, h3, h4, h5⟩
    | ret => exact ⟨h0, st', S', gh', h1, h2, h3, h4, h5⟩
    | goto l => cases h0
    | panic l => cases h0
    | outgrown => cases h0
  | cond c x y ihx ihy =>
    intro R st S gh a w h hrs hn hos
    simp only [EvC] at h
    split at h
    · rename_i b hb
      have hv := hrs.opd c
      rw [hb] at hv
      have hv' := RepV.bool_inv hv
      refine wp_cond (t := b) hv' ?_
      cases b with
      | true => exact ihx R st S gh a w (h.1 rfl) hrs hn hos
      | false => exact ihy R st S gh a w (h.2 rfl) hrs hn hos
    · exact h.elim
  | block id b ih =>
    intro R st S gh a w h hrs hn hos
    simp only [EvC] at h
    refine wp_block (Code.wp_mono ?_ (ih _ st S gh a w h hrs hn hos))
    rintro e a' w' ⟨h0, st', S', gh', h1, h2⟩
    cases e with
    | normal => exact ⟨rfl, st', S', gh', h1, h2⟩
    | exit id' =>
      simp only [blockP] at h1
      simp only [Exit.inBlock]
      split
      · rename_i he
        rw [if_pos he] at h1
        exact ⟨rfl, st', S', gh', h1, h2⟩
      · rename_i he
        rw [if_neg he] at h1
        exact ⟨rfl, st', S', gh', h1, h2⟩
    | ret => exact ⟨rfl, st', S', gh', h1, h2⟩
    | goto l => cases h0
    | panic l => cases h0
    | outgrown => cases h0
  | loop b ih =>
    intro R st S gh a w h hrs hn hos
    simp only [EvC] at h
    refine h (fun s => ∀ S gh a w, RS S gh w a s → n0 ≤ s.sto.length → OutSc n0 s.sto → (Code.loop b).wp P (PostOK n0 lo S gh w s.sto R) a w) ?_ S gh a w hrs hn hos
    intro s s' hg hb S gh a w hrs hn hos
    obtain ⟨S', gh', h1, h2, h3, h4⟩ := ghost_ok hg hlo S gh hrs hn hos
    refine wp_loop_unroll postOK_ok (Code.wp_mono ?_ (ih _ s' S' gh' a w hb h1 h3 h4))
    rintro e a' w' ⟨k0, st', S2, gh2, k1, k2, k3, k4, k5⟩
    cases e with
    | normal => exact Code.wp_mono (fun e a w h => PostOK.trans (h2.trans k3) h) (k1 S2 gh2 a' w' k2 k4 k5)
    | exit id => exact ⟨k0, st', S2, gh2, k1, k2, h2.trans k3, k4, k5⟩
    | ret => exact ⟨k0, st', S2, gh2, k1, k2, h2.trans k3, k4, k5⟩
    | goto l => cases k0
    | panic l => cases k0
    | outgrown => cases k0
  | exit id => intro R st S gh a w h hrs hn hos; exact wp_exit ⟨rfl, st, S, gh, h, hrs, Fr.refl _ _ _ _ _ _, hn, hos⟩
  | ret => intro R st S gh a w h hrs hn hos; exact wp_ret ⟨rfl, st, S, gh, h, hrs, Fr.refl _ _ _ _ _ _, hn, hos⟩
  | _ => intro R st S gh a w h; simp only [EvC] at h
def resRun (tmps : Array Value) : ResultVar → Sem Value
  | .tmp t => pure (tmps.getD t undef)
  | .cell c t => do loadVar t (← asAddr (tmps.getD c undef))
theorem results_eq (fn : Func) (tmps : Array Value) : results fn tmps = (do let vs ← fn.results.mapM (resRun tmps); pure (if h : vs.size = 1 then vs[0] else .tuple vs)) := by
  unfold results
  congr 2
theorem resOf_sound (hT : T.OK P) {S : Stay} {gh : List Value} {w : World} {a : Act} {st : St} (hrs : RS S gh w a st) {r : ResultVar} {x : V} (h : resOf T st r = some x) : ∃ v, (resRun a.tmps r).run P w = .ok v w ∧ RepV S w v x := by
  cases r with
  | tmp t =>
    have hr := hrs.opd (.tmp t)
    exact ⟨_, rfl, view_rep hrs.sto hr h⟩
  | cell c t =>
    simp only [resOf] at h
    split at h
    · rename_i d hd
      have hr := hrs.opd (.tmp c)
      have hc : RepC S gh st.sto w (a.eval (.tmp c)) (opd st.env (.tmp c)) := hr.toC fun ds h0 => by
        simp only [opd] at h0
        rw [h0] at hd
        unfold evLoad at hd
        split at hd <;> cases hd
      obtain ⟨u, h1, h2⟩ := evLoad_sound (P := P) hT hrs.sto hc hd
      refine ⟨u, ?_, view_rep hrs.sto h2 h⟩
      have e1 : a.eval (.tmp c) = a.tmps.getD c undef := rfl
      rw [e1] at h1
      show (Sem.bind (asAddr (a.tmps.getD c undef)) fun ad => loadVar t ad).run P w = .ok u w
      rw [Sem.run_bind']
      revert h1
      generalize a.tmps.getD c undef = v
      intro h1
      cases v with
      | pointer p =>
        cases p with
        | none => simp [Instr.loadAt, Instr.sureAddr] at h1
        | some ad => simpa [Instr.loadAt, Instr.sureAddr, asAddr] using h1
      | _ => simp [Instr.loadAt, Instr.sureAddr] at h1
    · cases h
theorem resL_sound (hT : T.OK P) {S : Stay} {gh : List Value} {w : World} {a : Act} {st : St} (hrs : RS S gh w a st) : ∀ (rs : List ResultVar) (xs : List V), resL T st rs = some xs → ∃ vs : List Value, (rs.mapM (resRun a.tmps)).run P w = .ok vs w ∧ Pw (RepV S w) vs xs
  | [], xs, h => by simp only [resL, Option.some.injEq] at h; subst h; exact ⟨[], rfl, Pw.nil⟩
  | r :: rs, xs, h => by
    simp only [resL] at h
    split at h
    · rename_i x xs' h1 h2
      simp only [Option.some.injEq] at h
      subst h
      obtain ⟨v, k1, k2⟩ := resOf_sound (P := P) hT hrs h1
      obtain ⟨vs, k3, k4⟩ := resL_sound hT hrs rs xs' h2
      refine ⟨v :: vs, ?_, Pw.cons k2 k4⟩
      rw [List.mapM_cons, Sem.run_bind, k1, Result.andThen_ok, Sem.run_bind, k3, Result.andThen_ok]
      rfl
    · cases h
theorem resV_sound (hT : T.OK P) {S : Stay} {gh : List Value} {w : World} {a : Act} {st : St} (hrs : RS S gh w a st) {fn : Func} {r : V} (h : resV T st fn.results.toList = some r) : ∃ v, (results fn a.tmps).run P w = .ok v w ∧ RepV S w v r := by
  unfold resV at h
  have run : ∀ vs : List Value, (fn.results.toList.mapM (resRun a.tmps)).run P w = .ok vs w → (results fn a.tmps).run P w = .ok (if h : vs.toArray.size = 1 then vs.toArray[0] else .tuple vs.toArray) w := by
    intro vs hvs
    rw [results_eq, Array.mapM_eq_mapM_toList, bind_map_left, Sem.run_bind, hvs]
    rfl
  split at h
  · rename_i x hx
    simp only [Option.some.injEq] at h
    subst h
    obtain ⟨vs, k1, k2⟩ := resL_sound (P := P) hT hrs _ _ hx
    match vs, k2.1 with
    | [v], _ => exact ⟨v, by rw [run _ k1]; rfl, k2.2 0 v x rfl rfl⟩
  · rename_i xs hne hx
    simp only [Option.some.injEq] at h
    subst h
    obtain ⟨vs, k1, k2⟩ := resL_sound (P := P) hT hrs _ _ hx
    refine ⟨.tuple vs.toArray, ?_, .tup vs xs k2.1 fun j u c hu hc => k2.2 j u c hu hc⟩
    rw [run _ k1, dif_neg]
    intro h1
    have : xs.length = 1 := by rw [← k2.1]; simpa using h1
    match xs, this with
    | [x], _ => exact hne x rfl
  · cases h
/-- THE EVALUATOR IS RIGHT. -/
theorem call_sound (hT : T.OK P) (hm : P.follows .mixedOrders = true) {B : CallP} (hB : ∀ f args sto lo r sto', B f args sto lo r sto' → CallOK P f args sto lo r sto') {f : FuncId} {args : List D} {sto : Sto} {lo : Nat} {r : D} {sto' : Sto} (h : CallEv P T B f args sto lo r sto') : CallOK P f args sto lo r sto' := by
  refine h (CallOK P) ?_ hB
  rintro f args sto lo r sto' ⟨fn, c, wt, hf, hb, hname, he⟩
  refine ⟨by simp [callable, hf, hb, hname], fun S gh w vals hlo hs hgl hv => ?_⟩
  refine calls_of_wp hf hb ?_
  have hos : OutSc sto.length sto := by
    intro i ds hi hd
    obtain ⟨gv, _, hE⟩ := hs.ent i _ hd
    obtain ⟨g, cur, ty, rfl, hh, k1, k2, k3⟩ := hE
    rw [scopedL_iff]
    intro d hd
    obtain ⟨k, hk⟩ := List.mem_iff_getElem?.1 hd
    have hlt : k < cur.toList.length := by rw [k1]; exact (List.getElem?_eq_some_iff.1 hk).1
    have hr := (k3 k _ d (List.getElem?_eq_getElem hlt) hk).2
    cases d with
    | arr id n => simpa [D.inside] using hr.1
    | aptr id n o => simpa [D.inside] using hr.1
    | ptr id o => simpa [D.inside] using hr.1
    | win id n o k => simpa [D.inside] using hr.1
    | map id => simpa [D.inside] using hr.1
    | clo f caps =>
      obtain ⟨vs, _, _, h3⟩ := hr
      simp only [D.inside, List.all_eq_true, decide_eq_true_eq]
      intro id hid
      obtain ⟨j, hj⟩ := List.mem_iff_getElem?.1 hid
      exact (h3 j id hj).1
    | agg ds => exact hr.elim
    | _ => rfl
  have hrs : RS S gh w { tmps := vals.toArray ++ Array.replicate (fn.ntmps - vals.toArray.size) undef, defers := [] } ⟨args ++ List.replicate (fn.ntmps - args.length) .undef, sto⟩ := by
    refine ⟨by simp [hv.1], fun t v d h1 h2 => ?_, hs, rfl, hgl⟩
    have h1' : (vals ++ List.replicate (fn.ntmps - vals.length) undef)[t]? = some v := by simpa using h1
    rcases Nat.lt_or_ge t vals.length with hlt | hge
    · rw [List.getElem?_append_left hlt] at h1'
      rw [List.getElem?_append_left (by rw [← hv.1]; exact hlt)] at h2
      exact hv.2 t v d h1' h2
    · rw [List.getElem?_append_right hge] at h1'
      rw [List.getElem?_append_right (by rw [← hv.1]; exact hge)] at h2
      have e1 := List.eq_of_mem_replicate (List.mem_of_getElem? h1')
      have e2 := List.eq_of_mem_replicate (List.mem_of_getElem? h2)
      rw [e1, e2]
      exact rfl
  refine Code.wp_mono ?_ (evC_sound hT hm hlo c _ _ S gh _ w he hrs (Nat.le_refl _) hos)
  rintro e a' w' ⟨h0, st', S', gh', ⟨h1, h2⟩, h3, h4, h5, h6⟩
  rcases h2 with ⟨sh, x, h2, rfl, rfl⟩ | ⟨t, h2, rfl, rfl⟩ | ⟨t, id, n, es, wr, cs, h2, hd, hid, hes, rfl, rfl⟩
  case inr.inr =>
    have hr : RepD S' gh' st'.sto w' (a'.tmps.getD t undef) ((st'.env[t]?).getD .undef) := h3.opd (.tmp t)
    rw [hd] at hr
    obtain ⟨r1, r2, r3⟩ := hr
    have hg := (r3 _ _ _ _ hes).2 rfl
    have hsc : ∀ i ds, i < sto.length → st'.sto[i]? = some (.cells ds) → scopedL sto.length ds = true := fun i ds hi hd => h6 i ds hi hd
    have hl : (st'.sto.take sto.length).length = sto.length := by simp; omega
    have hl2 : (gh'.take sto.length).length = sto.length := by simp [h3.sto.len]; omega
    have hres : fn.results = #[.tmp t] := Array.ext' (by simpa using h2)
    have hrun := results_tmp (fn := fn) hres a'.tmps P w'
    have fin : ∃ v' S2 gh2, Ending.returned (a'.tmps.getD t undef) = .returned v' ∧ RepD S2 gh2 (st'.sto.take sto.length ++ [.arr es wr n cs]) w' v' (.arr sto.length n) ∧ SR S2 gh2 w' (st'.sto.take sto.length ++ [.arr es wr n cs]) ∧ Fr sto.length lo S gh w sto S2 gh2 w' (st'.sto.take sto.length ++ [.arr es wr n cs]) ∧ sto.length ≤ (st'.sto.take sto.length ++ [Ent.arr es wr n cs]).length := by
      refine ⟨_, S', gh'.take sto.length ++ [a'.tmps.getD t undef], rfl, ⟨by simp; omega, r2, fun es' wr' m cs' hs' => ?_⟩, h3.sto.moved h5 hsc hid hes hg, h4.trans (moved_fr h3.sto (Nat.le_refl _) h5 hlo hid hg), by simp; omega⟩
      rw [List.getElem?_append_right (by omega), hl, Nat.sub_self] at hs'
      simp only [List.getElem?_cons_zero, Option.some.injEq, Ent.arr.injEq] at hs'
      obtain ⟨_, _, rfl, _⟩ := hs'
      exact ⟨Nat.le_refl _, fun _ => by rw [List.getElem?_append_right (by omega), hl2, Nat.sub_self]; rfl⟩
    rcases h1 with rfl | rfl
    · exact ⟨h3.defers, _, hrun, fin⟩
    · exact ⟨h3.defers, _, hrun, fin⟩
  case inr.inl =>
    have hr := h3.opd (.tmp t)
    have fin : ∃ v' S2 gh2, Ending.returned (a'.tmps.getD t undef) = .returned v' ∧ RepD S2 gh2 st'.sto w' v' ((st'.env[t]?).getD .undef) ∧ SR S2 gh2 w' st'.sto ∧ Fr sto.length lo S gh w sto S2 gh2 w' st'.sto ∧ sto.length ≤ st'.sto.length := ⟨_, S', gh', rfl, hr, h3.sto, h4, h5⟩
    have hres : fn.results = #[.tmp t] := Array.ext' (by simpa using h2)
    have hrun := results_tmp (fn := fn) hres a'.tmps P w'
    rcases h1 with rfl | rfl
    · exact ⟨h3.defers, _, hrun, fin⟩
    · exact ⟨h3.defers, _, hrun, fin⟩
  obtain ⟨S2, gh2, k1, k2, k3, k4⟩ := shareAll_ok (lo := sto.length) sh st' S' gh' h3 h5 h6
  obtain ⟨v, r1, r2⟩ := resV_sound (P := P) hT k1 h2
  have hsc : ∀ i ds, i < sto.length → st'.sto[i]? = some (.cells ds) → scopedL sto.length ds = true := fun i ds hi hd => h6 i ds hi hd
  have hst : SR S' (gh'.take sto.length) w' (st'.sto.take sto.length) := h3.sto.take h5 hsc
  -- the shared reading has the same older entries
  have hlow : (shareAll sto.length sh st'.sto).take sto.length = st'.sto.take sto.length := by
    apply List.ext_getElem?
    intro k
    rcases Nat.lt_or_ge k sto.length with hk | hk
    · rw [List.getElem?_take_of_lt hk, List.getElem?_take_of_lt hk]
      exact (k2.low k hk).2
    · rw [List.getElem?_eq_none (by simp; omega), List.getElem?_eq_none (by simp; omega)]
  have hst2 : SR S2 (gh2.take sto.length) w' (st'.sto.take sto.length) := by
    rw [← hlow]
    exact k1.sto.take k3 fun i ds hi hd => by
      have : st'.sto[i]? = some (.cells ds) := by rw [← (k2.low i hi).2]; exact hd
      exact hsc i ds hi this
  have hfr : Fr sto.length lo S gh w sto S2 (gh2.take sto.length) w' (st'.sto.take sto.length) := by
    have f2 : Fr sto.length lo S' gh' w' st'.sto S2 gh2 w' (shareAll sto.length sh st'.sto) := { k2 with
      block := fun b hb hn => k2.block b hb fun i hi => hn i (by omega)
      low := fun i hi => k2.low i (by omega)
      new := fun i g hi hg => by
        rcases Nat.lt_or_ge i sto.length with h | h
        · left
          refine ⟨i, hi, ?_⟩
          unfold blkAt at hg ⊢
          rw [(k2.low i h).1] at hg; exact hg
        · rcases k2.new i g h hg with ⟨j, hj, hg'⟩ | h'
          · exact .inl ⟨j, by omega, hg'⟩
          · exact .inr h' }
    have f3 : Fr sto.length lo S2 gh2 w' (shareAll sto.length sh st'.sto) S2 (gh2.take sto.length) w' ((shareAll sto.length sh st'.sto).take sto.length) := take_fr (Nat.le_refl _) hlo
    rw [hlow] at f3
    exact h4.trans (f2.trans f3)
  have fin : ∃ v' S' gh', Ending.returned v = .returned v' ∧ RepD S' gh' (st'.sto.take sto.length) w' v' (.v x) ∧ SR S' gh' w' (st'.sto.take sto.length) ∧ Fr sto.length lo S gh w sto S' gh' w' (st'.sto.take sto.length) ∧ sto.length ≤ (st'.sto.take sto.length).length := ⟨v, S2, gh2.take sto.length, rfl, r2.toD, hst2, hfr, by simp; omega⟩
  rcases h1 with rfl | rfl
  · exact ⟨h3.defers, v, r1, fin⟩
  · exact ⟨h3.defers, v, r1, fin⟩
/-- A call whose arguments are plain data: its result, and that of what was there nothing has changed. -/
theorem call_plain (hT : T.OK P) (hm : P.follows .mixedOrders = true) {B : CallP} (hB : ∀ f args sto lo r sto', B f args sto lo r sto' → CallOK P f args sto lo r sto') {f : FuncId} {xs : List V} {r : V} (h : CallEv P T B f (xs.map .v) [] 0 (.v r) []) {w : World} {vals : List Value} (hgl : GlobOK (fun b _ => b < w.heap.size) w) (hv : Pw (RepV (fun b _ => b < w.heap.size) w) vals xs) : Calls P f vals.toArray w fun e w' => ∃ v S', e = .returned v ∧ RepV S' w' v r ∧ Below w.heap.size w w' := by
  obtain ⟨_, hc⟩ := call_sound hT hm hB h
  have hs : SR (fun b _ => b < w.heap.size) [] w [] := ⟨rfl, fun i e h => by simp at h, fun i j g h => by simp [blkAt] at h, fun b o h => h⟩
  refine (hc (fun b _ => b < w.heap.size) [] w vals (Nat.le_refl _) hs hgl ⟨by simp [hv.1], fun j u d hu hd => ?_⟩).mono ?_
  · rw [List.getElem?_map] at hd
    cases hx : xs[j]? with
    | none => rw [hx] at hd; cases hd
    | some x =>
      rw [hx] at hd
      simp only [Option.map_some, Option.some.injEq] at hd
      subst hd
      exact (hv.2 j u x hu hx).toD
  · rintro e w' ⟨v, S', gh', rfl, h1, _, h3, _⟩
    exact ⟨v, S', rfl, h1, h3.os, h3.tape, h3.output, h3.size, fun k hk => h3.block k hk fun i _ hg => by simp [blkAt] at hg⟩
end
end Go.Proofs.YtomameefmobnlaaDoor
namespace Go.Proofs.YtomameefmobnlaaDoor
open Go Go.RowKit

def tab : Tab := fun t => match t with
  | 1 => some ⟨.other, .nilFunc, 1, 8⟩
  | 2 => some ⟨.int .i64, .int .i64 0, 1, 8⟩
  | 3 => some ⟨.int .i64, .int .i64 0, 1, 8⟩
  | 4 => some ⟨.bool, .bool false, 1, 1⟩
  | 5 => some ⟨.int .u8, .int .u8 0, 1, 1⟩
  | 6 => some ⟨.int .u8, .int .u8 0, 1, 1⟩
  | 7 => some ⟨.struct [(0, 2), (1, 3), (2, 4), (3, 6)], .agg #[.int .i64 0, .int .i64 0, .bool false, .int .u8 0], 4, 24⟩
  | 8 => some ⟨.struct [(0, 2), (1, 3), (2, 4), (3, 6)], .agg #[.int .i64 0, .int .i64 0, .bool false, .int .u8 0], 4, 24⟩
  | 9 => some ⟨.str, .string ByteArray.empty, 1, 16⟩
  | 10 => some ⟨.str, .string ByteArray.empty, 1, 16⟩
  | 11 => some ⟨.str, .string ByteArray.empty, 1, 16⟩
  | 12 => some ⟨.int .u64, .int .u64 0, 1, 8⟩
  | 13 => some ⟨.struct [(0, 9), (1, 12)], .agg #[.string ByteArray.empty, .int .u64 0], 2, 24⟩
  | 14 => some ⟨.struct [(0, 9), (1, 12)], .agg #[.string ByteArray.empty, .int .u64 0], 2, 24⟩
  | 15 => some ⟨.other, .pointer none, 1, 8⟩
  | 16 => some ⟨.other, .pointer none, 1, 8⟩
  | 17 => some ⟨.other, .pointer none, 1, 8⟩
  | 18 => some ⟨.struct [(0, 17)], .agg #[.pointer none], 1, 8⟩
  | 19 => some ⟨.struct [(0, 17)], .agg #[.pointer none], 1, 8⟩
  | 21 => some ⟨.int .i32, .int .i32 0, 1, 4⟩
  | 22 => some ⟨.slice 3, .slice none 0 0, 1, 24⟩
  | 23 => some ⟨.slice 25, .slice none 0 0, 1, 24⟩
  | 24 => some ⟨.struct [(0, 3), (1, 3), (2, 3), (3, 23)], .agg #[.int .i64 0, .int .i64 0, .int .i64 0, .slice none 0 0], 4, 48⟩
  | 25 => some ⟨.struct [(0, 3), (1, 3), (2, 3), (3, 23)], .agg #[.int .i64 0, .int .i64 0, .int .i64 0, .slice none 0 0], 4, 48⟩
  | 26 => some ⟨.other, .nilFunc, 1, 8⟩
  | 27 => some ⟨.other, .nilFunc, 1, 8⟩
  | 28 => some ⟨.other, .nilFunc, 1, 8⟩
  | 29 => some ⟨.other, .nilFunc, 1, 8⟩
  | 31 => some ⟨.other, .nilFunc, 1, 8⟩
  | 32 => some ⟨.other, .nilFunc, 1, 8⟩
  | 33 => some ⟨.other, .nilFunc, 1, 8⟩
  | 34 => some ⟨.other, .nilFunc, 1, 8⟩
  | 35 => some ⟨.other, .nilFunc, 1, 8⟩
  | 36 => some ⟨.other, .nilFunc, 1, 8⟩
  | 37 => some ⟨.slice 22, .slice none 0 0, 1, 24⟩
  | 38 => some ⟨.other, .nilFunc, 1, 8⟩
  | 39 => some ⟨.other, .nilFunc, 1, 8⟩
  | 40 => some ⟨.other, .nilFunc, 1, 8⟩
  | 41 => some ⟨.other, .nilFunc, 1, 8⟩
  | 42 => some ⟨.other, .nilFunc, 1, 8⟩
  | 43 => some ⟨.other, .nilFunc, 1, 8⟩
  | 44 => some ⟨.other, .nilFunc, 1, 8⟩
  | 45 => some ⟨.other, .nilFunc, 1, 8⟩
  | 46 => some ⟨.other, .nilFunc, 1, 8⟩
  | 48 => some ⟨.other, .nilFunc, 1, 8⟩
  | 49 => some ⟨.other, .nilFunc, 1, 8⟩
  | 50 => some ⟨.other, .nilFunc, 1, 8⟩
  | 51 => some ⟨.other, .nilFunc, 1, 8⟩
  | 52 => some ⟨.int .i64, .int .i64 0, 1, 8⟩
  | 54 => some ⟨.other, .nilFunc, 1, 8⟩
  | 55 => some ⟨.other, .nilFunc, 1, 8⟩
  | 56 => some ⟨.other, .nilFunc, 1, 8⟩
  | 57 => some ⟨.other, .pointer none, 1, 8⟩
  | 58 => some ⟨.struct [(0, 22), (1, 3), (2, 3)], .agg #[.slice none 0 0, .int .i64 0, .int .i64 0], 3, 40⟩
  | 59 => some ⟨.struct [(0, 22), (1, 3), (2, 3)], .agg #[.slice none 0 0, .int .i64 0, .int .i64 0], 3, 40⟩
  | 60 => some ⟨.other, .nilFunc, 1, 8⟩
  | 61 => some ⟨.other, .pointer none, 1, 8⟩
  | 62 => some ⟨.struct [(0, 22), (1, 3), (2, 3)], .agg #[.slice none 0 0, .int .i64 0, .int .i64 0], 3, 40⟩
  | 63 => some ⟨.other, .nilFunc, 1, 8⟩
  | 64 => some ⟨.map 3 3, .map none, 1, 8⟩
  | 65 => some ⟨.map 3 3, .map none, 1, 8⟩
  | 66 => some ⟨.other, .nilFunc, 1, 8⟩
  | 67 => some ⟨.other, .nilFunc, 1, 8⟩
  | 68 => some ⟨.map 3 4, .map none, 1, 8⟩
  | 69 => some ⟨.other, .nilFunc, 1, 8⟩
  | 70 => some ⟨.other, .nilFunc, 1, 8⟩
  | 71 => some ⟨.other, .nilFunc, 1, 8⟩
  | 72 => some ⟨.other, .nilFunc, 1, 8⟩
  | 73 => some ⟨.other, .nilFunc, 1, 8⟩
  | 74 => some ⟨.other, .nilFunc, 1, 8⟩
  | 75 => some ⟨.other, .nilFunc, 1, 8⟩
  | 77 => some ⟨.other, .nilFunc, 1, 8⟩
  | 78 => some ⟨.other, .nilFunc, 1, 8⟩
  | 79 => some ⟨.other, .nilFunc, 1, 8⟩
  | 80 => some ⟨.other, .nilFunc, 1, 8⟩
  | 81 => some ⟨.other, .nilFunc, 1, 8⟩
  | 82 => some ⟨.other, .nilFunc, 1, 8⟩
  | 83 => some ⟨.other, .pointer none, 1, 8⟩
  | 84 => some ⟨.other, .nilFunc, 1, 8⟩
  | 85 => some ⟨.other, .nilFunc, 1, 8⟩
  | 86 => some ⟨.other, .nilFunc, 1, 8⟩
  | 87 => some ⟨.struct [(0, 41), (1, 4), (2, 4)], .agg #[.nilFunc, .bool false, .bool false], 3, 16⟩
  | 88 => some ⟨.struct [(0, 41), (1, 4), (2, 4)], .agg #[.nilFunc, .bool false, .bool false], 3, 16⟩
  | 89 => some ⟨.array 14 88, .agg #[.nilFunc, .bool false, .bool false, .nilFunc, .bool false, .bool false, .nilFunc, .bool false, .bool false, .nilFunc, .bool false, .bool false, .nilFunc, .bool false, .bool false, .nilFunc, .bool false, .bool false, .nilFunc, .bool false, .bool false, .nilFunc, .bool false, .bool false, .nilFunc, .bool false, .bool false, .nilFunc, .bool false, .bool false, .nilFunc, .bool false, .bool false, .nilFunc, .bool false, .bool false, .nilFunc, .bool false, .bool false, .nilFunc, .bool false, .bool false], 42, 224⟩
  | 90 => some ⟨.other, .nilFunc, 1, 8⟩
  | 91 => some ⟨.other, .nilFunc, 1, 8⟩
  | 92 => some ⟨.other, .nilFunc, 1, 8⟩
  | 93 => some ⟨.other, .nilFunc, 1, 8⟩
  | 94 => some ⟨.other, .nilFunc, 1, 8⟩
  | 95 => some ⟨.other, .nilFunc, 1, 8⟩
  | 96 => some ⟨.other, .nilFunc, 1, 8⟩
  | 97 => some ⟨.other, .nilFunc, 1, 8⟩
  | 98 => some ⟨.other, .nilFunc, 1, 8⟩
  | 99 => some ⟨.other, .nilFunc, 1, 8⟩
  | 100 => some ⟨.int .u64, .int .u64 0, 1, 8⟩
  | 101 => some ⟨.other, .nilFunc, 1, 8⟩
  | 102 => some ⟨.int .i64, .int .i64 0, 1, 8⟩
  | 104 => some ⟨.other, .nilFunc, 1, 8⟩
  | 105 => some ⟨.other, .nilFunc, 1, 8⟩
  | 106 => some ⟨.other, .nilFunc, 1, 8⟩
  | 107 => some ⟨.other, .nilFunc, 1, 8⟩
  | 108 => some ⟨.other, .nilFunc, 1, 8⟩
  | 109 => some ⟨.int .u32, .int .u32 0, 1, 4⟩
  | 110 => some ⟨.other, .nilFunc, 1, 8⟩
  | 111 => some ⟨.int .u64, .int .u64 0, 1, 8⟩
  | 112 => some ⟨.int .u64, .int .u64 0, 1, 8⟩
  | 113 => some ⟨.other, .nilFunc, 1, 8⟩
  | 114 => some ⟨.other, .nilFunc, 1, 8⟩
  | 115 => some ⟨.other, .nilFunc, 1, 8⟩
  | 116 => some ⟨.other, .pointer none, 1, 8⟩
  | 117 => some ⟨.other, .nilFunc, 1, 8⟩
  | 118 => some ⟨.other, .pointer none, 1, 8⟩
  | 119 => some ⟨.other, .nilFunc, 1, 8⟩
  | 120 => some ⟨.other, .nilFunc, 1, 8⟩
  | 121 => some ⟨.struct [(0, 17), (1, 17), (2, 17), (3, 9)], .agg #[.pointer none, .pointer none, .pointer none, .string ByteArray.empty], 4, 40⟩
  | 122 => some ⟨.struct [(0, 17), (1, 17), (2, 17), (3, 9)], .agg #[.pointer none, .pointer none, .pointer none, .string ByteArray.empty], 4, 40⟩
  | 123 => some ⟨.array 0 16, .agg #[], 0, 0⟩
  | 124 => some ⟨.struct [(0, 123)], .agg #[], 0, 0⟩
  | 125 => some ⟨.struct [(0, 123)], .agg #[], 0, 0⟩
  | 126 => some ⟨.other, .nilFunc, 1, 8⟩
  | 127 => some ⟨.int .u8, .int .u8 0, 1, 1⟩
  | 128 => some ⟨.int .u8, .int .u8 0, 1, 1⟩
  | 129 => some ⟨.other, .nilFunc, 1, 8⟩
  | 130 => some ⟨.other, .pointer none, 1, 8⟩
  | 131 => some ⟨.int .i32, .int .i32 0, 1, 4⟩
  | 132 => some ⟨.int .i32, .int .i32 0, 1, 4⟩
  | 133 => some ⟨.struct [(0, 12), (1, 12), (2, 109), (3, 127), (4, 5), (5, 5), (6, 128), (7, 129), (8, 130), (9, 131), (10, 132)], .agg #[.int .u64 0, .int .u64 0, .int .u32 0, .int .u8 0, .int .u8 0, .int .u8 0, .int .u8 0, .nilFunc, .pointer none, .int .i32 0, .int .i32 0], 11, 48⟩
  | 134 => some ⟨.struct [(0, 12), (1, 12), (2, 109), (3, 127), (4, 5), (5, 5), (6, 128), (7, 129), (8, 130), (9, 131), (10, 132)], .agg #[.int .u64 0, .int .u64 0, .int .u32 0, .int .u8 0, .int .u8 0, .int .u8 0, .int .u8 0, .nilFunc, .pointer none, .int .i32 0, .int .i32 0], 11, 48⟩
  | _ => none
@[go_sem] theorem tab_1 : tab 1 = some ⟨.other, .nilFunc, 1, 8⟩ := rfl
@[go_sem] theorem tab_2 : tab 2 = some ⟨.int .i64, .int .i64 0, 1, 8⟩ := rfl
@[go_sem] theorem tab_3 : tab 3 = some ⟨.int .i64, .int .i64 0, 1, 8⟩ := rfl
@[go_sem] theorem tab_4 : tab 4 = some ⟨.bool, .bool false, 1, 1⟩ := rfl
@[go_sem] theorem tab_5 : tab 5 = some ⟨.int .u8, .int .u8 0, 1, 1⟩ := rfl
@[go_sem] theorem tab_6 : tab 6 = some ⟨.int .u8, .int .u8 0, 1, 1⟩ := rfl
@[go_sem] theorem tab_7 : tab 7 = some ⟨.struct [(0, 2), (1, 3), (2, 4), (3, 6)], .agg #[.int .i64 0, .int .i64 0, .bool false, .int .u8 0], 4, 24⟩ := rfl
@[go_sem] theorem tab_8 : tab 8 = some ⟨.struct [(0, 2), (1, 3), (2, 4), (3, 6)], .agg #[.int .i64 0, .int .i64 0, .bool false, .int .u8 0], 4, 24⟩ := rfl
@[go_sem] theorem tab_9 : tab 9 = some ⟨.str, .string ByteArray.empty, 1, 16⟩ := rfl
@[go_sem] theorem tab_10 : tab 10 = some ⟨.str, .string ByteArray.empty, 1, 16⟩ := rfl
@[go_sem] theorem tab_11 : tab 11 = some ⟨.str, .string ByteArray.empty, 1, 16⟩ := rfl
@[go_sem] theorem tab_12 : tab 12 = some ⟨.int .u64, .int .u64 0, 1, 8⟩ := rfl
@[go_sem] theorem tab_13 : tab 13 = some ⟨.struct [(0, 9), (1, 12)], .agg #[.string ByteArray.empty, .int .u64 0], 2, 24⟩ := rfl
@[go_sem] theorem tab_14 : tab 14 = some ⟨.struct [(0, 9), (1, 12)], .agg #[.string ByteArray.empty, .int .u64 0], 2, 24⟩ := rfl
@[go_sem] theorem tab_15 : tab 15 = some ⟨.other, .pointer none, 1, 8⟩ := rfl
@[go_sem] theorem tab_16 : tab 16 = some ⟨.other, .pointer none, 1, 8⟩ := rfl
@[go_sem] theorem tab_17 : tab 17 = some ⟨.other, .pointer none, 1, 8⟩ := rfl
@[go_sem] theorem tab_18 : tab 18 = some ⟨.struct [(0, 17)], .agg #[.pointer none], 1, 8⟩ := rfl
@[go_sem] theorem tab_19 : tab 19 = some ⟨.struct [(0, 17)], .agg #[.pointer none], 1, 8⟩ := rfl
@[go_sem] theorem tab_21 : tab 21 = some ⟨.int .i32, .int .i32 0, 1, 4⟩ := rfl
@[go_sem] theorem tab_22 : tab 22 = some ⟨.slice 3, .slice none 0 0, 1, 24⟩ := rfl
@[go_sem] theorem tab_23 : tab 23 = some ⟨.slice 25, .slice none 0 0, 1, 24⟩ := rfl
@[go_sem] theorem tab_24 : tab 24 = some ⟨.struct [(0, 3), (1, 3), (2, 3), (3, 23)], .agg #[.int .i64 0, .int .i64 0, .int .i64 0, .slice none 0 0], 4, 48⟩ := rfl
@[go_sem] theorem tab_25 : tab 25 = some ⟨.struct [(0, 3), (1, 3), (2, 3), (3, 23)], .agg #[.int .i64 0, .int .i64 0, .int .i64 0, .slice none 0 0], 4, 48⟩ := rfl
@[go_sem] theorem tab_26 : tab 26 = some ⟨.other, .nilFunc, 1, 8⟩ := rfl
@[go_sem] theorem tab_27 : tab 27 = some ⟨.other, .nilFunc, 1, 8⟩ := rfl
@[go_sem] theorem tab_28 : tab 28 = some ⟨.other, .nilFunc, 1, 8⟩ := rfl
@[go_sem] theorem tab_29 : tab 29 = some ⟨.other, .nilFunc, 1, 8⟩ := rfl
@[go_sem] theorem tab_31 : tab 31 = some ⟨.other, .nilFunc, 1, 8⟩ := rfl
@[go_sem] theorem tab_32 : tab 32 = some ⟨.other, .nilFunc, 1, 8⟩ := rfl
@[go_sem] theorem tab_33 : tab 33 = some ⟨.other, .nilFunc, 1, 8⟩ := rfl
@[go_sem] theorem tab_34 : tab 34 = some ⟨.other, .nilFunc, 1, 8⟩ := rfl
@[go_sem] theorem tab_35 : tab 35 = some ⟨.other, .nilFunc, 1, 8⟩ := rfl
@[go_sem] theorem tab_36 : tab 36 = some ⟨.other, .nilFunc, 1, 8⟩ := rfl
@[go_sem] theorem tab_37 : tab 37 = some ⟨.slice 22, .slice none 0 0, 1, 24⟩ := rfl
@[go_sem] theorem tab_38 : tab 38 = some ⟨.other, .nilFunc, 1, 8⟩ := rfl
@[go_sem] theorem tab_39 : tab 39 = some ⟨.other, .nilFunc, 1, 8⟩ := rfl
@[go_sem] theorem tab_40 : tab 40 = some ⟨.other, .nilFunc, 1, 8⟩ := rfl
@[go_sem] theorem tab_41 : tab 41 = some ⟨.other, .nilFunc, 1, 8⟩ := rfl
@[go_sem] theorem tab_42 : tab 42 = some ⟨.other, .nilFunc, 1, 8⟩ := rfl
@[go_sem] theorem tab_43 : tab 43 = some ⟨.other, .nilFunc, 1, 8⟩ := rfl
@[go_sem] theorem tab_44 : tab 44 = some ⟨.other, .nilFunc, 1, 8⟩ := rfl
@[go_sem] theorem tab_45 : tab 45 = some ⟨.other, .nilFunc, 1, 8⟩ := rfl
@[go_sem] theorem tab_46 : tab 46 = some ⟨.other, .nilFunc, 1, 8⟩ := rfl
@[go_sem] theorem tab_48 : tab 48 = some ⟨.other, .nilFunc, 1, 8⟩ := rfl
@[go_sem] theorem tab_49 : tab 49 = some ⟨.other, .nilFunc, 1, 8⟩ := rfl
@[go_sem] theorem tab_50 : tab 50 = some ⟨.other, .nilFunc, 1, 8⟩ := rfl
@[go_sem] theorem tab_51 : tab 51 = some ⟨.other, .nilFunc, 1, 8⟩ := rfl
@[go_sem] theorem tab_52 : tab 52 = some ⟨.int .i64, .int .i64 0, 1, 8⟩ := rfl
@[go_sem] theorem tab_54 : tab 54 = some ⟨.other, .nilFunc, 1, 8⟩ := rfl
@[go_sem] theorem tab_55 : tab 55 = some ⟨.other, .nilFunc, 1, 8⟩ := rfl
@[go_sem] theorem tab_56 : tab 56 = some ⟨.other, .nilFunc, 1, 8⟩ := rfl
@[go_sem] theorem tab_57 : tab 57 = some ⟨.other, .pointer none, 1, 8⟩ := rfl
@[go_sem] theorem tab_58 : tab 58 = some ⟨.struct [(0, 22), (1, 3), (2, 3)], .agg #[.slice none 0 0, .int .i64 0, .int .i64 0], 3, 40⟩ := rfl
@[go_sem] theorem tab_59 : tab 59 = some ⟨.struct [(0, 22), (1, 3), (2, 3)], .agg #[.slice none 0 0, .int .i64 0, .int .i64 0], 3, 40⟩ := rfl
@[go_sem] theorem tab_60 : tab 60 = some ⟨.other, .nilFunc, 1, 8⟩ := rfl
@[go_sem] theorem tab_61 : tab 61 = some ⟨.other, .pointer none, 1, 8⟩ := rfl
@[go_sem] theorem tab_62 : tab 62 = some ⟨.struct [(0, 22), (1, 3), (2, 3)], .agg #[.slice none 0 0, .int .i64 0, .int .i64 0], 3, 40⟩ := rfl
@[go_sem] theorem tab_63 : tab 63 = some ⟨.other, .nilFunc, 1, 8⟩ := rfl
@[go_sem] theorem tab_64 : tab 64 = some ⟨.map 3 3, .map none, 1, 8⟩ := rfl
@[go_sem] theorem tab_65 : tab 65 = some ⟨.map 3 3, .map none, 1, 8⟩ := rfl
@[go_sem] theorem tab_66 : tab 66 = some ⟨.other, .nilFunc, 1, 8⟩ := rfl
@[go_sem] theorem tab_67 : tab 67 = some ⟨.other, .nilFunc, 1, 8⟩ := rfl
@[go_sem] theorem tab_68 : tab 68 = some ⟨.map 3 4, .map none, 1, 8⟩ := rfl
@[go_sem] theorem tab_69 : tab 69 = some ⟨.other, .nilFunc, 1, 8⟩ := rfl
@[go_sem] theorem tab_70 : tab 70 = some ⟨.other, .nilFunc, 1, 8⟩ := rfl
@[go_sem] theorem tab_71 : tab 71 = some ⟨.other, .nilFunc, 1, 8⟩ := rfl
@[go_sem] theorem tab_72 : tab 72 = some ⟨.other, .nilFunc, 1, 8⟩ := rfl
@[go_sem] theorem tab_73 : tab 73 = some ⟨.other, .nilFunc, 1, 8⟩ := rfl
@[go_sem] theorem tab_74 : tab 74 = some ⟨.other, .nilFunc, 1, 8⟩ := rfl
@[go_sem] theorem tab_75 : tab 75 = some ⟨.other, .nilFunc, 1, 8⟩ := rfl
@[go_sem] theorem tab_77 : tab 77 = some ⟨.other, .nilFunc, 1, 8⟩ := rfl
@[go_sem] theorem tab_78 : tab 78 = some ⟨.other, .nilFunc, 1, 8⟩ := rfl
@[go_sem] theorem tab_79 : tab 79 = some ⟨.other, .nilFunc, 1, 8⟩ := rfl
@[go_sem] theorem tab_80 : tab 80 = some ⟨.other, .nilFunc, 1, 8⟩ := rfl
@[go_sem] theorem tab_81 : tab 81 = some ⟨.other, .nilFunc, 1, 8⟩ := rfl
@[go_sem] theorem tab_82 : tab 82 = some ⟨.other, .nilFunc, 1, 8⟩ := rfl
@[go_sem] theorem tab_83 : tab 83 = some ⟨.other, .pointer none, 1, 8⟩ := rfl
@[go_sem] theorem tab_84 : tab 84 = some ⟨.other, .nilFunc, 1, 8⟩ := rfl
@[go_sem] theorem tab_85 : tab 85 = some ⟨.other, .nilFunc, 1, 8⟩ := rfl
@[go_sem] theorem tab_86 : tab 86 = some ⟨.other, .nilFunc, 1, 8⟩ := rfl
@[go_sem] theorem tab_87 : tab 87 = some ⟨.struct [(0, 41), (1, 4), (2, 4)], .agg #[.nilFunc, .bool false, .bool false], 3, 16⟩ := rfl
@[go_sem] theorem tab_88 : tab 88 = some ⟨.struct [(0, 41), (1, 4), (2, 4)], .agg #[.nilFunc, .bool false, .bool false], 3, 16⟩ := rfl
@[go_sem] theorem tab_89 : tab 89 = some ⟨.array 14 88, .agg #[.nilFunc, .bool false, .bool false, .nilFunc, .bool false, .bool false, .nilFunc, .bool false, .bool false, .nilFunc, .bool false, .bool false, .nilFunc, .bool false, .bool false, .nilFunc, .bool false, .bool false, .nilFunc, .bool false, .bool false, .nilFunc, .bool false, .bool false, .nilFunc, .bool false, .bool false, .nilFunc, .bool false, .bool false, .nilFunc, .bool false, .bool false, .nilFunc, .bool false, .bool false, .nilFunc, .bool false, .bool false, .nilFunc, .bool false, .bool false], 42, 224⟩ := rfl
@[go_sem] theorem tab_90 : tab 90 = some ⟨.other, .nilFunc, 1, 8⟩ := rfl
@[go_sem] theorem tab_91 : tab 91 = some ⟨.other, .nilFunc, 1, 8⟩ := rfl
@[go_sem] theorem tab_92 : tab 92 = some ⟨.other, .nilFunc, 1, 8⟩ := rfl
@[go_sem] theorem tab_93 : tab 93 = some ⟨.other, .nilFunc, 1, 8⟩ := rfl
@[go_sem] theorem tab_94 : tab 94 = some ⟨.other, .nilFunc, 1, 8⟩ := rfl
@[go_sem] theorem tab_95 : tab 95 = some ⟨.other, .nilFunc, 1, 8⟩ := rfl
@[go_sem] theorem tab_96 : tab 96 = some ⟨.other, .nilFunc, 1, 8⟩ := rfl
@[go_sem] theorem tab_97 : tab 97 = some ⟨.other, .nilFunc, 1, 8⟩ := rfl
@[go_sem] theorem tab_98 : tab 98 = some ⟨.other, .nilFunc, 1, 8⟩ := rfl
@[go_sem] theorem tab_99 : tab 99 = some ⟨.other, .nilFunc, 1, 8⟩ := rfl
@[go_sem] theorem tab_100 : tab 100 = some ⟨.int .u64, .int .u64 0, 1, 8⟩ := rfl
@[go_sem] theorem tab_101 : tab 101 = some ⟨.other, .nilFunc, 1, 8⟩ := rfl
@[go_sem] theorem tab_102 : tab 102 = some ⟨.int .i64, .int .i64 0, 1, 8⟩ := rfl
@[go_sem] theorem tab_104 : tab 104 = some ⟨.other, .nilFunc, 1, 8⟩ := rfl
@[go_sem] theorem tab_105 : tab 105 = some ⟨.other, .nilFunc, 1, 8⟩ := rfl
@[go_sem] theorem tab_106 : tab 106 = some ⟨.other, .nilFunc, 1, 8⟩ := rfl
@[go_sem] theorem tab_107 : tab 107 = some ⟨.other, .nilFunc, 1, 8⟩ := rfl
@[go_sem] theorem tab_108 : tab 108 = some ⟨.other, .nilFunc, 1, 8⟩ := rfl
@[go_sem] theorem tab_109 : tab 109 = some ⟨.int .u32, .int .u32 0, 1, 4⟩ := rfl
@[go_sem] theorem tab_110 : tab 110 = some ⟨.other, .nilFunc, 1, 8⟩ := rfl
@[go_sem] theorem tab_111 : tab 111 = some ⟨.int .u64, .int .u64 0, 1, 8⟩ := rfl
@[go_sem] theorem tab_112 : tab 112 = some ⟨.int .u64, .int .u64 0, 1, 8⟩ := rfl
@[go_sem] theorem tab_113 : tab 113 = some ⟨.other, .nilFunc, 1, 8⟩ := rfl
@[go_sem] theorem tab_114 : tab 114 = some ⟨.other, .nilFunc, 1, 8⟩ := rfl
@[go_sem] theorem tab_115 : tab 115 = some ⟨.other, .nilFunc, 1, 8⟩ := rfl
@[go_sem] theorem tab_116 : tab 116 = some ⟨.other, .pointer none, 1, 8⟩ := rfl
@[go_sem] theorem tab_117 : tab 117 = some ⟨.other, .nilFunc, 1, 8⟩ := rfl
@[go_sem] theorem tab_118 : tab 118 = some ⟨.other, .pointer none, 1, 8⟩ := rfl
@[go_sem] theorem tab_119 : tab 119 = some ⟨.other, .nilFunc, 1, 8⟩ := rfl
@[go_sem] theorem tab_120 : tab 120 = some ⟨.other, .nilFunc, 1, 8⟩ := rfl
@[go_sem] theorem tab_121 : tab 121 = some ⟨.struct [(0, 17), (1, 17), (2, 17), (3, 9)], .agg #[.pointer none, .pointer none, .pointer none, .string ByteArray.empty], 4, 40⟩ := rfl
@[go_sem] theorem tab_122 : tab 122 = some ⟨.struct [(0, 17), (1, 17), (2, 17), (3, 9)], .agg #[.pointer none, .pointer none, .pointer none, .string ByteArray.empty], 4, 40⟩ := rfl
@[go_sem] theorem tab_123 : tab 123 = some ⟨.array 0 16, .agg #[], 0, 0⟩ := rfl
@[go_sem] theorem tab_124 : tab 124 = some ⟨.struct [(0, 123)], .agg #[], 0, 0⟩ := rfl
@[go_sem] theorem tab_125 : tab 125 = some ⟨.struct [(0, 123)], .agg #[], 0, 0⟩ := rfl
@[go_sem] theorem tab_126 : tab 126 = some ⟨.other, .nilFunc, 1, 8⟩ := rfl
@[go_sem] theorem tab_127 : tab 127 = some ⟨.int .u8, .int .u8 0, 1, 1⟩ := rfl
@[go_sem] theorem tab_128 : tab 128 = some ⟨.int .u8, .int .u8 0, 1, 1⟩ := rfl
@[go_sem] theorem tab_129 : tab 129 = some ⟨.other, .nilFunc, 1, 8⟩ := rfl
@[go_sem] theorem tab_130 : tab 130 = some ⟨.other, .pointer none, 1, 8⟩ := rfl
@[go_sem] theorem tab_131 : tab 131 = some ⟨.int .i32, .int .i32 0, 1, 4⟩ := rfl
@[go_sem] theorem tab_132 : tab 132 = some ⟨.int .i32, .int .i32 0, 1, 4⟩ := rfl
@[go_sem] theorem tab_133 : tab 133 = some ⟨.struct [(0, 12), (1, 12), (2, 109), (3, 127), (4, 5), (5, 5), (6, 128), (7, 129), (8, 130), (9, 131), (10, 132)], .agg #[.int .u64 0, .int .u64 0, .int .u32 0, .int .u8 0, .int .u8 0, .int .u8 0, .int .u8 0, .nilFunc, .pointer none, .int .i32 0, .int .i32 0], 11, 48⟩ := rfl
@[go_sem] theorem tab_134 : tab 134 = some ⟨.struct [(0, 12), (1, 12), (2, 109), (3, 127), (4, 5), (5, 5), (6, 128), (7, 129), (8, 130), (9, 131), (10, 132)], .agg #[.int .u64 0, .int .u64 0, .int .u32 0, .int .u8 0, .int .u8 0, .int .u8 0, .int .u8 0, .nilFunc, .pointer none, .int .i32 0, .int .i32 0], 11, 48⟩ := rfl
set_option maxRecDepth 100000 in
theorem tab_ok : Tab.OK tab Tryd.prog := by
  intro t i h
  unfold tab at h
  split at h
  all_goals first | cases h; done | (cases h; exact ⟨by kernel_rfl, by kernel_rfl, rfl⟩)
end Go.Proofs.YtomameefmobnlaaDoor
namespace Go.Proofs.YtomameefmobnlaaDoor
open Go Go.RowKit

@[congr] theorem EvOps_congr {T : Tab} {X : CallP} {n0 lo : Nat} {wt : List Tmp} {draw : Bool} {ops : Array Oper} {Q : St → Prop} {l : List Oper} {st st' : St} (h : st = st') : EvOps T X n0 lo wt draw ops Q l st = EvOps T X n0 lo wt draw ops Q l st' := by rw [h]
@[congr] theorem EvC_congr {T : Tab} {X : CallP} {n0 lo : Nat} {wt : List Tmp} {c : Code} {Q : Exit → St → Prop} {st st' : St} (h : st = st') : EvC T X n0 lo wt c Q st = EvC T X n0 lo wt c Q st' := by rw [h]
section
variable {T : Tab} {X : CallP} {n0 lo : Nat} {wt : List Tmp} {draw : Bool} {ops : Array Oper} {Q : St → Prop} {R : Exit → St → Prop} {rest : List Oper} {o : Oper} {env : List D} {sto : Sto} {st : St}
theorem ops_nil (h : Q st) : EvOps T X n0 lo wt draw ops Q [] st := h
theorem ops_pure {d : D} (hg : guardD ops o env = some true) (h : evPure T (opd env) sto o = some d) (k : EvOps T X n0 lo wt false ops Q rest (St.put ⟨env, sto⟩ o.dst d)) : EvOps T X n0 lo wt false ops Q (o :: rest) ⟨env, sto⟩ := by
  unfold EvOps; simp only [hg]; exact .inl ⟨d, h, (fun h => by cases h), k⟩
theorem ops_pureD {d : D} (hn : (needsFree ops o || (wCall wt && besideCall ops o)) = false) (hg : guardD ops o env = some true) (h : evPure T (opd env) sto o = some d) (k : EvOps T X n0 lo wt true ops Q rest (St.put ⟨env, sto⟩ o.dst d)) : EvOps T X n0 lo wt true ops Q (o :: rest) ⟨env, sto⟩ := by
  unfold EvOps; simp only [hg]; exact .inl ⟨d, h, (fun _ => by
    simp only [Bool.or_eq_false_iff, Bool.and_eq_false_iff] at hn
    exact ⟨fun h => (by rw [hn.1] at h; cases h), fun h1 h2 => by rcases hn.2 with h | h <;> simp [h] at h1 h2⟩), k⟩
/-- It looks at the call's own entries alone. -/
theorem ops_pureW {d : D} (hn : needsFree ops o = false) (hg : guardD ops o env = some true) (h0 : evPure T (opd env) sto o = some d) (h : ∀ s, s[n0]? = sto[n0]? → (∀ k, s[n0 + k]? = sto[n0 + k]?) → evPure T (opd env) s o = some d) (k : EvOps T X n0 lo wt true ops Q rest (St.put ⟨env, sto⟩ o.dst d)) : EvOps T X n0 lo wt true ops Q (o :: rest) ⟨env, sto⟩ := by
  unfold EvOps; simp only [hg]; exact .inl ⟨d, h0, (fun _ => ⟨fun h => (by rw [hn] at h; cases h), fun _ _ s hs => h s (hs n0 (Nat.le_refl _)) (fun k => hs (n0 + k) (by omega))⟩), k⟩
theorem ops_pureF {d : D} (hg : guardD ops o env = some true) (h : ∀ s, evPure T (opd env) s o = some d) (k : EvOps T X n0 lo wt true ops Q rest (St.put ⟨env, sto⟩ o.dst d)) : EvOps T X n0 lo wt true ops Q (o :: rest) ⟨env, sto⟩ := by
  unfold EvOps; simp only [hg]; exact .inl ⟨d, h sto, (fun _ => ⟨fun _ => h, fun _ _ s _ => h s⟩), k⟩
theorem ops_eff {d : D} {sto' : Sto} (hk : effKind o ≠ 0) (hg : guardD ops o env = some true) (h : evEff T n0 lo (wrOf wt o) (opd env) sto o = some (d, sto')) (k : EvOps T X n0 lo wt draw ops Q rest (St.put ⟨env, sto'⟩ o.dst d)) : EvOps T X n0 lo wt draw ops Q (o :: rest) ⟨env, sto⟩ := by
  unfold EvOps; simp only [hg]; exact .inr (.inl ⟨d, sto', h, (fun _ => hk), k⟩)
theorem ops_lit {d : D} {sto' : Sto} (hg : guardD ops o env = some true) (h : evEff T n0 lo (wrOf wt o) (opd env) sto o = some (d, sto')) (k : EvOps T X n0 lo wt false ops Q rest (St.put ⟨env, sto'⟩ o.dst d)) : EvOps T X n0 lo wt false ops Q (o :: rest) ⟨env, sto⟩ := by
  unfold EvOps; simp only [hg]; exact .inr (.inl ⟨d, sto', h, (fun h => by cases h), k⟩)
theorem ops_call {f : FuncId} {args : List D} {r : D} (hg : guardD ops o env = some true) (h : evCallee (opd env) sto o = some (f, args)) (hx : X f args sto (if draw then sto.length else lo) r sto) (k : EvOps T X n0 lo wt draw ops Q rest (St.put ⟨env, sto⟩ o.dst r)) : EvOps T X n0 lo wt draw ops Q (o :: rest) ⟨env, sto⟩ := by
  unfold EvOps; simp only [hg]; exact .inr (.inr (.inl ⟨f, args, r, sto, h, hx, (fun _ => rfl), .inl rfl, k⟩))
theorem ops_callW {f : FuncId} {args : List D} {r : D} {sto' : Sto} (hg : guardD ops o env = some true) (h : evCallee (opd env) sto o = some (f, args)) (hx : X f args sto lo r sto') (ho : ∀ i ds, lo ≤ i → i < n0 → sto'[i]? = some (.cells ds) → sto[i]? = some (.cells ds) ∨ scopedL n0 ds = true) (k : EvOps T X n0 lo wt false ops Q rest (St.put ⟨env, sto'⟩ o.dst r)) : EvOps T X n0 lo wt false ops Q (o :: rest) ⟨env, sto⟩ := by
  unfold EvOps; simp only [hg]; exact .inr (.inr (.inl ⟨f, args, r, sto', h, by simpa using hx, (fun h => by cases h), .inr ho, k⟩))
/-- A call that writes, in a region that draws its order. -/
theorem ops_callWD {f : FuncId} {args : List D} {r : D} {sto' : Sto} (hw : (wCall wt && aloneCall ops o) = true) (hg : guardD ops o env = some true) (h : evCallee (opd env) sto o = some (f, args)) (hx : X f args sto lo r sto') (hown : ∀ i, n0 ≤ i → sto'[i]? = sto[i]?) (ho : ∀ i ds, lo ≤ i → i < n0 → sto'[i]? = some (.cells ds) → sto[i]? = some (.cells ds) ∨ scopedL n0 ds = true) (k : EvOps T X n0 lo wt draw ops Q rest (St.put ⟨env, sto'⟩ o.dst r)) : EvOps T X n0 lo wt draw ops Q (o :: rest) ⟨env, sto⟩ := by
  simp only [Bool.and_eq_true] at hw
  unfold EvOps; simp only [hg]; exact .inr (.inr (.inr ⟨f, args, r, sto', hw.1, hw.2, h, hx, hown, ho, k⟩))
theorem ops_skip (hg : guardD ops o env = some false) (k : EvOps T X n0 lo wt draw ops Q rest (St.put ⟨env, sto⟩ o.dst .undef)) : EvOps T X n0 lo wt draw ops Q (o :: rest) ⟨env, sto⟩ := by
  unfold EvOps; simp only [hg]; exact k
theorem c_skip (h : R .normal st) : EvC T X n0 lo wt .skip R st := by unfold EvC; exact h
theorem c_seq {x y : Code} (h : EvC T X n0 lo wt x (thenP (EvC T X n0 lo wt y R) R) st) : EvC T X n0 lo wt (.seq x y) R st := by rw [EvC]; exact h
theorem c_block {id : Nat} {b : Code} (h : EvC T X n0 lo wt b (blockP id R) st) : EvC T X n0 lo wt (.block id b) R st := by rw [EvC]; exact h
theorem c_exit {id : Nat} (h : R (.exit id) st) : EvC T X n0 lo wt (.exit id) R st := by rw [EvC]; exact h
theorem c_ret (h : R .ret st) : EvC T X n0 lo wt .ret R st := by rw [EvC]; exact h
theorem c_region {id : Nat} {l : List Oper} (h : EvOps T X n0 lo wt false l.toArray (R .normal) l st) : EvC T X n0 lo wt (.region id l.toArray false) R st := by
  rw [EvC]; exact .inl ⟨(fun h => by cases h), _, .refl _, by simpa using h⟩
theorem c_regionD {id : Nat} {l : List Oper} (hd : drawOk l.toArray = true) (h : EvOps T X n0 lo wt true l.toArray (R .normal) l st) : EvC T X n0 lo wt (.region id l.toArray true) R st := by
  rw [EvC]; exact .inl ⟨fun _ => hd, _, .refl _, by simpa using h⟩
theorem c_region_share (sh : List Nat) {id : Nat} {l : List Oper} (hd : draw = true → drawOk l.toArray = true) (h : EvOps T X n0 lo wt draw l.toArray (R .normal) l { st with sto := shareAll lo sh st.sto }) : EvC T X n0 lo wt (.region id l.toArray draw) R st := by
  rw [EvC]; exact .inl ⟨hd, _, .share _ sh, by simpa using h⟩
theorem c_region_g {st' : St} (hg : Ghost n0 lo st st') {id : Nat} {l : List Oper} (hd : draw = true → drawOk l.toArray = true) (h : EvOps T X n0 lo wt draw l.toArray (R .normal) l st') : EvC T X n0 lo wt (.region id l.toArray draw) R st := by
  rw [EvC]; exact .inl ⟨hd, _, hg, by simpa using h⟩
/-- A region that draws its order and makes boxes: their entries are laid by first. -/
theorem c_regionR {st' : St} (m : Nat) (hg : Ghost n0 lo st st') (hm : n0 ≤ m) {id : Nat} {l : List Oper} (hd : drawOkR l.toArray = true) (h : EvOpsR T X n0 lo m l.toArray (R .normal) l st') : EvC T X n0 lo wt (.region id l.toArray true) R st := by
  rw [EvC]; exact .inr ⟨rfl, hd, _, m, hg, hm, by simpa using h⟩
theorem r_nil {m : Nat} (h : Q st) : EvOpsR T X n0 lo m ops Q [] st := h
theorem r_pure {m : Nat} {d : D} (hk : effKind o = 0) (hg : guardD ops o env = some true) (h : ∀ s, s.length = sto.length → (∀ i, i < m → s[i]? = sto[i]?) → evPure T (opd env) s o = some d) (k : EvOpsR T X n0 lo m ops Q rest (St.put ⟨env, sto⟩ o.dst d)) : EvOpsR T X n0 lo m ops Q (o :: rest) ⟨env, sto⟩ := by
  unfold EvOpsR; simp only [hg]; exact .inl ⟨d, hk, fun s hs => h s hs.1 hs.2, k⟩
theorem r_box {m : Nat} (id : Nat) {ds : List D} (hk : effKind o = 1) (hg : guardD ops o env = some true) (h : boxCells T (opd env) o = some ds) (hp : sto[id]? = some PH) (hm : m ≤ id) (k : EvOpsR T X n0 lo m ops Q rest (St.put ⟨env, sto.set id (.cells ds)⟩ o.dst (.ptr id 0))) : EvOpsR T X n0 lo m ops Q (o :: rest) ⟨env, sto⟩ := by
  unfold EvOpsR; simp only [hg]; exact .inr (.inl ⟨id, ds, hk, h, hp, hm, k⟩)
theorem r_store {m : Nat} {d : D} {sto' : Sto} (hk : effKind o = 2) (hg : guardD ops o env = some true) (h : evEff T n0 lo false (opd env) sto o = some (d, sto')) (ha : sto'.length = sto.length ∧ ∀ i, i < m → sto'[i]? = sto[i]?) (k : EvOpsR T X n0 lo m ops Q rest (St.put ⟨env, sto'⟩ o.dst d)) : EvOpsR T X n0 lo m ops Q (o :: rest) ⟨env, sto⟩ := by
  unfold EvOpsR; simp only [hg]; exact .inr (.inr (.inl ⟨d, sto', hk, h, ha, k⟩))
theorem r_call {m : Nat} {f : FuncId} {args : List D} {r : D} (hg : guardD ops o env = some true) (h : ∀ s, s.length = sto.length → (∀ i, i < m → s[i]? = sto[i]?) → evCallee (opd env) s o = some (f, args)) (hx : ∀ s, s.length = sto.length → (∀ i, i < m → s[i]? = sto[i]?) → X f args s s.length r s) (k : EvOpsR T X n0 lo m ops Q rest (St.put ⟨env, sto⟩ o.dst r)) : EvOpsR T X n0 lo m ops Q (o :: rest) ⟨env, sto⟩ := by
  unfold EvOpsR; simp only [hg]; exact .inr (.inr (.inr ⟨f, args, r, fun s hs => h s hs.1 hs.2, fun s hs => hx s hs.1 hs.2, k⟩))
theorem r_skip {m : Nat} (hg : guardD ops o env = some false) (k : EvOpsR T X n0 lo m ops Q rest (St.put ⟨env, sto⟩ o.dst .undef)) : EvOpsR T X n0 lo m ops Q (o :: rest) ⟨env, sto⟩ := by
  unfold EvOpsR; simp only [hg]; exact k
theorem c_cond {c : Operand} {x y : Code} {b : Bool} (hc : opd st.env c = .v (.bool b)) (hx : b = true → EvC T X n0 lo wt x R st) (hy : b = false → EvC T X n0 lo wt y R st) : EvC T X n0 lo wt (.cond c x y) R st := by
  rw [EvC]; simp only [hc]; exact ⟨hx, hy⟩
theorem c_cond_t {c : Operand} {x y : Code} (hc : opd st.env c = .v (.bool true)) (hx : EvC T X n0 lo wt x R st) : EvC T X n0 lo wt (.cond c x y) R st := c_cond hc (fun _ => hx) (fun h => by cases h)
theorem c_cond_f {c : Operand} {x y : Code} (hc : opd st.env c = .v (.bool false)) (hy : EvC T X n0 lo wt y R st) : EvC T X n0 lo wt (.cond c x y) R st := c_cond hc (fun h => by cases h) (fun _ => hy)
theorem then_normal {K : St → Prop} (h : K st) : thenP K R .normal st := h
theorem then_exit {K : St → Prop} {id : Nat} (h : R (.exit id) st) : thenP K R (.exit id) st := h
theorem then_ret {K : St → Prop} (h : R .ret st) : thenP K R .ret st := h
theorem block_normal {id : Nat} (h : R .normal st) : blockP id R .normal st := h
theorem block_ret {id : Nat} (h : R .ret st) : blockP id R .ret st := h
theorem block_here {id : Nat} (h : R .normal st) : blockP id R (.exit id) st := by simp only [blockP, if_true]; exact h
theorem block_far {id id' : Nat} (hne : id' ≠ id) (h : R (.exit id') st) : blockP id R (.exit id') st := by simp only [blockP, hne, if_false]; exact h
theorem EvOps_mono {X X' : CallP} {Q Q' : St → Prop} (hX : ∀ f a s l (r : D) s', X f a s l r s' → X' f a s l r s') (hQ : ∀ st, Q st → Q' st) : ∀ l st, EvOps T X n0 lo wt draw ops Q l st → EvOps T X' n0 lo wt draw ops Q' l st
  | [], st, h => hQ st h
  | o :: rest, st, h => by
    unfold EvOps at h ⊢
    split at h
    · rcases h with ⟨d, h1, h0, h2⟩ | ⟨d, s', h1, h0, h2⟩ | ⟨f, a, r, s', h1, h2, h0, h4, h3⟩ | ⟨f, a, r, s', hw, ha, h1, h2, h0, h4, h3⟩
      · exact .inl ⟨d, h1, h0, EvOps_mono hX hQ rest _ h2⟩
      · exact .inr (.inl ⟨d, s', h1, h0, EvOps_mono hX hQ rest _ h2⟩)
      · exact .inr (.inr (.inl ⟨f, a, r, s', h1, hX _ _ _ _ _ _ h2, h0, h4, EvOps_mono hX hQ rest _ h3⟩))
      · exact .inr (.inr (.inr ⟨f, a, r, s', hw, ha, h1, hX _ _ _ _ _ _ h2, h0, h4, EvOps_mono hX hQ rest _ h3⟩))
    · exact EvOps_mono hX hQ rest _ h
    · exact h.elim
theorem EvOpsR_mono {m : Nat} {X X' : CallP} {Q Q' : St → Prop} (hX : ∀ f a s l (r : D) s', X f a s l r s' → X' f a s l r s') (hQ : ∀ st, Q st → Q' st) : ∀ l st, EvOpsR T X n0 lo m ops Q l st → EvOpsR T X' n0 lo m ops Q' l st
  | [], st, h => hQ st h
  | o :: rest, st, h => by
    unfold EvOpsR at h ⊢
    split at h
    · rcases h with ⟨d, h1, h2, h3⟩ | ⟨id, ds, h1, h2, h3, h4, h5⟩ | ⟨d, s', h1, h2, h3, h4⟩ | ⟨f, a, r, h1, h2, h3⟩
      · exact .inl ⟨d, h1, h2, EvOpsR_mono hX hQ rest _ h3⟩
      · exact .inr (.inl ⟨id, ds, h1, h2, h3, h4, EvOpsR_mono hX hQ rest _ h5⟩)
      · exact .inr (.inr (.inl ⟨d, s', h1, h2, h3, EvOpsR_mono hX hQ rest _ h4⟩))
      · exact .inr (.inr (.inr ⟨f, a, r, h1, fun s hs => hX _ _ _ _ _ _ (h2 s hs), EvOpsR_mono hX hQ rest _ h3⟩))
    · exact EvOpsR_mono hX hQ rest _ h
    · exact h.elim
theorem thenP_mono {K K' : St → Prop} {R R' : Exit → St → Prop} (hK : ∀ s, K s → K' s) (hR : ∀ e s, R e s → R' e s) : ∀ e s, thenP K R e s → thenP K' R' e s := by
  intro e s h
  cases e <;> first | exact hK s h | exact hR _ s h
theorem blockP_mono {id : Nat} {R R' : Exit → St → Prop} (hR : ∀ e s, R e s → R' e s) : ∀ e s, blockP id R e s → blockP id R' e s := by
  intro e s h
  cases e <;> simp only [blockP] at h ⊢
  case exit j => split at h <;> simp_all
  all_goals exact hR _ _ h
theorem EvC_mono {X X' : CallP} (hX : ∀ f a s l (r : D) s', X f a s l r s' → X' f a s l r s') : ∀ (c : Code) (R R' : Exit → St → Prop), (∀ e s, R e s → R' e s) → ∀ st, EvC T X n0 lo wt c R st → EvC T X' n0 lo wt c R' st := by
  intro c
  induction c with
  | skip => intro R R' hR st h; simp only [EvC] at h ⊢; exact hR _ _ h
  | region id l d =>
    intro R R' hR st h
    simp only [EvC] at h ⊢
    rcases h with ⟨hd, s2, hg, h⟩ | ⟨hd, ho, s2, m, hg, hm, h⟩
    · exact .inl ⟨hd, s2, hg, EvOps_mono hX (fun s => hR _ s) _ _ h⟩
    · exact .inr ⟨hd, ho, s2, m, hg, hm, EvOpsR_mono hX (fun s => hR _ s) _ _ h⟩
  | seq x y ihx ihy => intro R R' hR st h; simp only [EvC] at h ⊢; exact ihx _ _ (thenP_mono (fun s => ihy _ _ hR s) hR) _ h
  | cond c x y ihx ihy =>
    intro R R' hR st h
    simp only [EvC] at h ⊢
    split at h
    · exact ⟨fun hb => ihx _ _ hR _ (h.1 hb), fun hb => ihy _ _ hR _ (h.2 hb)⟩
    · exact h.elim
  | block id b ih => intro R R' hR st h; simp only [EvC] at h ⊢; exact ih _ _ (blockP_mono hR) _ h
  | loop b ih =>
    intro R R' hR st h
    simp only [EvC] at h ⊢
    intro Y hY
    exact h Y fun s s' hg hb => hY s s' hg (ih _ _ (thenP_mono (fun _ h => h) hR) _ hb)
  | exit id => intro R R' hR st h; simp only [EvC] at h ⊢; exact hR _ _ h
  | ret => intro R R' hR st h; simp only [EvC] at h ⊢; exact hR _ _ h
  | _ => intro R R' hR st h; simp only [EvC] at h

/-- A loop: a relation with a measure that each round lowers; between rounds what a ghost step allows. -/
theorem c_loop {b : Code} (I : Nat → St → Prop) {n : Nat} {st' : St} (hg : Ghost n0 lo st st') (h0 : I n st')
    (hr : ∀ n s, I n s → EvC T X n0 lo wt b (thenP (fun s' => ∃ m s'', m < n ∧ Ghost n0 lo s' s'' ∧ I m s'') R) s) : EvC T X n0 lo wt (.loop b) R st := by
  rw [EvC]
  intro Y hY
  have key : ∀ n s, I n s → EvC T X n0 lo wt b (thenP Y R) s ∧ ∀ s0, Ghost n0 lo s0 s → Y s0 := by
    intro n
    induction n using Nat.strongRecOn with
    | _ n ih =>
      intro s hI
      have hb : EvC T X n0 lo wt b (thenP Y R) s :=
        EvC_mono (fun _ _ _ _ _ _ h => h) b _ _ (thenP_mono (fun s' ⟨m, s'', hm, hg, hI'⟩ => (ih m hm s'' hI').2 s' hg) (fun _ _ h => h)) s (hr n s hI)
      exact ⟨hb, fun s0 hg => hY s0 s hg hb⟩
  exact (key n st' h0).2 st hg
theorem CallEv.intro {P : Program} {T : Tab} {B : CallP} {f : FuncId} {args : List D} {sto : Sto} {lo : Nat} {r : D} {sto' : Sto} (h : EvBody P T (CallEv P T B) f args sto lo r sto') : CallEv P T B f args sto lo r sto' := by
  intro X hX hB
  obtain ⟨fn, c, wt, h1, h2, h3, h4⟩ := h
  exact hX _ _ _ _ _ _ ⟨fn, c, wt, h1, h2, h3, EvC_mono (fun _ _ _ _ _ _ h => h X hX hB) c _ _ (fun _ _ h => h) _ h4⟩
theorem CallEv.base {P : Program} {T : Tab} {B : CallP} {f : FuncId} {args : List D} {sto : Sto} {lo : Nat} {r : D} {sto' : Sto} (h : B f args sto lo r sto') : CallEv P T B f args sto lo r sto' := fun _ _ hB => hB _ _ _ _ _ _ h
end
/-! What a walk unfolds. -/
attribute [go_sem] evPure evEff opd globAt globs ofVal ofVal1 evLoad kd pick pickV Kd.agg evFieldAddr evBin evBinI evShift evUn view viewC viewL D.cells lenD mget mput mdel okV evLookup ownWin evSliceW evSliceV evClear evDelete evUpdate evMakeMap evBuiltin evIndexAddr evSlice evIndex evField evBuild fillD placesT zeroD bound wrOf St.put evAppend cellsV fillV zeroV repl evSliceLit mm2 evMM List.foldlM_cons List.foldlM_nil capId D.inside scopedL evAppendZ argD argsD evCallee guardD shareE shareAll resOf resL resV
attribute [go_sem] List.set_cons_zero List.set_cons_succ List.getElem?_cons_zero List.getElem?_cons_succ List.map_cons List.map_nil Option.map_some Option.map_none Option.getD_some Option.getD_none Option.bind_some Option.bind_none List.length_append List.length_cons List.length_nil Nat.le_refl Nat.sub_self if_true if_false reduceIte Bool.false_eq_true decide_true decide_false and_self and_true true_and Nat.zero_add Nat.add_zero Nat.reduceAdd Nat.reduceSub Nat.reduceMul List.replicate_succ List.replicate_zero List.cons_append List.nil_append
theorem get_app0 {α : Type} (l : List α) (x : α) (m : List α) : (l ++ x :: m)[l.length]? = some x := by simp
theorem get_app {α : Type} (l m : List α) (k : Nat) : (l ++ m)[l.length + k]? = m[k]? := by rw [List.getElem?_append_right (by omega)]; congr 1; omega
theorem set_app0 {α : Type} (l : List α) (x y : α) (m : List α) : (l ++ x :: m).set l.length y = l ++ y :: m := by simp
theorem set_app {α : Type} (l m : List α) (k : Nat) (y : α) : (l ++ m).set (l.length + k) y = l ++ m.set k y := by rw [List.set_append_right _ _ (by omega)]; congr 2; omega
theorem take_app0 {α : Type} (l m : List α) : (l ++ m).take l.length = l := List.take_left
attribute [go_sem] get_app0 get_app set_app0 set_app take_app0 List.append_assoc List.take_succ_cons List.take_zero List.drop_succ_cons List.drop_zero List.take_nil List.drop_nil
end Go.Proofs.YtomameefmobnlaaDoor
namespace Go.Proofs.YtomameefmobnlaaDoor
open Go Go.RowKit
abbrev VI (n : Int) : V := .int .i64 n
abbrev VU (n : Nat) : V := .int .u64 (n : Int)
abbrev VB (b : Bool) : V := .bool b
/-- A slice of one-cell elements. -/
abbrev SL {α : Type} (f : α → V) (xs : List α) : V := .sl xs.length (xs.map f)
abbrev LI (xs : List Int) : V := SL VI xs
abbrev LLI (xs : List (List Int)) : V := SL LI xs
abbrev B0 : CallP := fun _ _ _ _ _ _ => False
theorem wrapI {x : Int} (h : -9223372036854775808 ≤ x ∧ x < 9223372036854775808) : IntKind.wrap .i64 x = x := by
  rw [IntKind.wrap_i64]; omega
theorem wrapU {x : Int} (h : 0 ≤ x ∧ x < 18446744073709551616) : IntKind.wrap .u64 x = x := by
  rw [IntKind.wrap_u64]; omega
theorem take_succ {α : Type} {l : List α} {i : Nat} (h : i < l.length) : l.take (i + 1) = l.take i ++ [l[i]] := List.take_succ_eq_append_getElem h
theorem beqT {a b : Int} (h : a = b) : (a == b) = true := by simp [h]
theorem beqF {a b : Int} (h : ¬ a = b) : (a == b) = false := by simp [h]
theorem bneT {a b : Int} (h : ¬ a = b) : (a != b) = true := by simp [h]
theorem bneF {a b : Int} (h : a = b) : (a != b) = false := by simp [h]
theorem listJ {n : Nat} {l : List D} (h : l.length = n) : ∃ J : Nat → D, l = (List.range n).map J :=
  ⟨fun k => l.getD k .dead, by
    apply List.ext_getElem
    · simp [h]
    · intro i h1 h2
      simp [List.getD, h1]⟩
theorem tmod2 (a : Nat) : (a : Int).tmod 2 = ((a % 2 : Nat) : Int) := by rw [Int.tmod_eq_emod_of_nonneg (by omega)]; omega
theorem tdiv2 (a : Nat) : (a : Int).tdiv 2 = ((a / 2 : Nat) : Int) := by rw [Int.tdiv_eq_ediv_of_nonneg (by omega)]; omega
attribute [go_sem] tmod2 tdiv2
attribute [go_sem] List.getElem_map List.length_map List.getElem?_map Int.toNat_natCast Nat.mul_one Nat.one_mul  Nat.mul_zero
-- last: it asks for a bound
attribute [go_sem low] List.getElem?_eq_getElem
end Go.Proofs.YtomameefmobnlaaDoor
namespace Go.Proofs.YtomameefmobnlaaDoor
def aroundS (n most : Int) : Int := (if n < 0 then -(n + 1) else n).tmod most
def atS (l : List Int) (i most : Int) : Int := if i < 0 ∨ i ≥ l.length then 0 else aroundS (l.getD i.toNat 0) most
def Big (x : Int) : Prop := -9223372036854775808 ≤ x ∧ x ≤ 9223372036854775807
theorem aroundS_bound {n most : Int} (hm : 0 < most) : 0 ≤ aroundS n most ∧ aroundS n most < most := by
  unfold aroundS
  rw [Int.tmod_eq_emod_of_nonneg (by split <;> omega)]
  exact ⟨Int.emod_nonneg _ (by omega), Int.emod_lt_of_pos _ hm⟩
theorem atS_bound {l : List Int} {i most : Int} (hm : 0 < most) : 0 ≤ atS l i most ∧ atS l i most < most := by
  unfold atS
  split
  · omega
  · exact aroundS_bound hm
end Go.Proofs.YtomameefmobnlaaDoor
namespace Go.Proofs.YtomameefmobnlaaDoor
open Go Go.ChangeShapes Go.WideShapes Go.ChangeAt Go.RowKit
set_option maxRecDepth 100000
theorem gTab : Tryd.prog.globalNamed "scoria/word.operations" = some 0 := by kernel_rfl
theorem tTab : (Tryd.prog.globals[0]?).map (·.type) = some 89 := by kernel_rfl
theorem cellsF : Tryd.prog.cellsOf 41 = 1 := by kernel_rfl
theorem cellsB : Tryd.prog.cellsOf 4 = 1 := by kernel_rfl
theorem cellsO : Tryd.prog.cellsOf 88 = 3 := by kernel_rfl
theorem cellsTb : Tryd.prog.cellsOf 89 = 42 := by kernel_rfl

theorem open_entry {W : World} {m : Nat} {cs : List Value} {b : UInt8} {r : List UInt8} {c t : Bool} {p : List MemPlace} {f0 : FuncId}
    (hone : ((List.range Tryd.prog.funcs.size).filter fun f => (Tryd.prog.funcs[f]?).any (·.name.toUTF8.data.toList == b :: r)) = [f0])
    (h : DataW.trod (funcToken Tryd.prog) Tryd.prog W 0 (fun _ => true) true m 88 cs = some (.agg [.held (b :: r), .lit (.bool c), .lit (.bool t)], p)) :
    cs = [.func (.func f0) #[] #[], .bool c, .bool t] := by
  obtain ⟨xs, n, rfl, hx, hl, hn, hel⟩ := DataW.trod_struct Tryd.underlying88 h
  rw [cellsO] at hl
  have h0 : DataW.trod (funcToken Tryd.prog) Tryd.prog W 0 (fun _ => true) true n 41 ((cs.drop 0).take (Tryd.prog.cellsOf 41)) = xs[0]? := hel 0 _ rfl
  have h1 : DataW.trod (funcToken Tryd.prog) Tryd.prog W 0 (fun _ => true) true n 4 ((cs.drop 1).take (Tryd.prog.cellsOf 4)) = xs[1]? := hel 1 _ rfl
  have h2 : DataW.trod (funcToken Tryd.prog) Tryd.prog W 0 (fun _ => true) true n 4 ((cs.drop 2).take (Tryd.prog.cellsOf 4)) = xs[2]? := hel 2 _ rfl
  rw [cellsF] at h0
  rw [cellsB] at h1 h2
  match cs, hl, xs, hn, hx with
  | [c0, c1, c2], _, [x0, x1, x2], _, hx =>
    simp only [List.map_cons, List.map_nil, Prod.mk.injEq, DataW.agg.injEq, List.cons.injEq, and_true] at hx
    obtain ⟨⟨e0, e1, e2⟩, _⟩ := hx
    obtain ⟨y0, q0⟩ := x0
    obtain ⟨y1, q1⟩ := x1
    obtain ⟨y2, q2⟩ := x2
    simp only at e0 e1 e2
    subst e0 e1 e2
    have k0 := func_of_trod (f0 := f0) Tryd.underlying41 hone (show DataW.trod (funcToken Tryd.prog) Tryd.prog W 0 (fun _ => true) true n 41 [c0] = some (.held (b :: r), q0) from h0)
    obtain ⟨b1, e1, g1⟩ := DataW.trod_bool Tryd.underlying4 (show DataW.trod (funcToken Tryd.prog) Tryd.prog W 0 (fun _ => true) true n 4 [c1] = some (.lit (.bool c), q1) from h1)
    obtain ⟨b2, e2, g2⟩ := DataW.trod_bool Tryd.underlying4 (show DataW.trod (funcToken Tryd.prog) Tryd.prog W 0 (fun _ => true) true n 4 [c2] = some (.lit (.bool t), q2) from h2)
    simp only [Prod.mk.injEq, DataW.lit.injEq, Lit.bool.injEq] at g1 g2
    simp only [List.cons.injEq, and_true] at e1 e2
    rw [k0, e1, e2, g1.1, g2.1]

def opNames : List (List UInt8) := [[115, 99, 111, 114, 105, 97, 47, 119, 111, 114, 100, 46, 111, 112, 101, 114, 97, 116, 105, 111, 110, 115, 36, 49], [115, 99, 111, 114, 105, 97, 47, 119, 111, 114, 100, 46, 111, 112, 101, 114, 97, 116, 105, 111, 110, 115, 36, 50], [115, 99, 111, 114, 105, 97, 47, 119, 111, 114, 100, 46, 111, 112, 101, 114, 97, 116, 105, 111, 110, 115, 36, 51], [115, 99, 111, 114, 105, 97, 47, 119, 111, 114, 100, 46, 111, 112, 101, 114, 97, 116, 105, 111, 110, 115, 36, 52], [115, 99, 111, 114, 105, 97, 47, 119, 111, 114, 100, 46, 111, 112, 101, 114, 97, 116, 105, 111, 110, 115, 36, 53], [115, 99, 111, 114, 105, 97, 47, 119, 111, 114, 100, 46, 111, 112, 101, 114, 97, 116, 105, 111, 110, 115, 36, 54], [115, 99, 111, 114, 105, 97, 47, 119, 111, 114, 100, 46, 111, 112, 101, 114, 97, 116, 105, 111, 110, 115, 36, 55], [115, 99, 111, 114, 105, 97, 47, 119, 111, 114, 100, 46, 111, 112, 101, 114, 97, 116, 105, 111, 110, 115, 36, 56], [115, 99, 111, 114, 105, 97, 47, 119, 111, 114, 100, 46, 111, 112, 101, 114, 97, 116, 105, 111, 110, 115, 36, 57], [115, 99, 111, 114, 105, 97, 47, 119, 111, 114, 100, 46, 111, 112, 101, 114, 97, 116, 105, 111, 110, 115, 36, 49, 48], [115, 99, 111, 114, 105, 97, 47, 119, 111, 114, 100, 46, 111, 112, 101, 114, 97, 116, 105, 111, 110, 115, 36, 49, 49], [115, 99, 111, 114, 105, 97, 47, 119, 111, 114, 100, 46, 111, 112, 101, 114, 97, 116, 105, 111, 110, 115, 36, 49, 50], [115, 99, 111, 114, 105, 97, 47, 119, 111, 114, 100, 46, 111, 112, 101, 114, 97, 116, 105, 111, 110, 115, 36, 49, 51], [115, 99, 111, 114, 105, 97, 47, 119, 111, 114, 100, 46, 111, 112, 101, 114, 97, 116, 105, 111, 110, 115, 36, 49, 52]]
def opData (i : Nat) : DataW (List UInt8) := .agg [.held (opNames.getD i []), .lit (.bool (i == 3 || i == 4)), .lit (.bool (decide (10 ≤ i)))]

def opVal : V → Value
  | .fn f => .func (.func f) #[] #[]
  | .bool b => .bool b
  | _ => undef
theorem opVal_rep {S : Stay} {w : World} : ∀ j c, opsV[j]? = some c → RepV S w (opVal (opsV.getD j (.bool false))) c ∧ (opVal (opsV.getD j (.bool false))).oneCell' = true := by
  intro j c hc
  have hj : j < 42 := (List.getElem?_eq_some_iff.1 hc).1
  have e : opsV.getD j (.bool false) = c := by simp [List.getD, hc]
  rw [e]
  have hall : ∀ c ∈ opsV, (∃ f, c = .fn f) ∨ ∃ b, c = .bool b := by
    intro c h
    simp only [opsV, List.mem_cons, List.not_mem_nil, or_false] at h
    rcases h with h | h | h | h | h | h | h | h | h | h | h | h | h | h | h | h | h | h | h | h | h | h | h | h | h | h | h | h | h | h | h | h | h | h | h | h | h | h | h | h | h | h
    all_goals (subst h; first | exact .inl ⟨_, rfl⟩ | exact .inr ⟨_, rfl⟩)
  rcases hall c (List.mem_of_getElem? hc) with ⟨f, rfl⟩ | ⟨b, rfl⟩
  · exact ⟨.fn f, rfl⟩
  · exact ⟨.bool b, rfl⟩
abbrev oc (i : Nat) : Value := opVal (opsV.getD i (.bool false))
theorem glob_of_laid {W : World} (h : laidMetH Tryd.prog Rows.termPartsRow.laid W) : GlobOK (fun b _ => b < W.heap.size) W := by
  obtain ⟨g, t, cs, fuel, p, hg, ht, hv, hd⟩ := h.funcs (List.mem_singleton.2 rfl)
  obtain rfl := Option.some.inj (gTab.symm.trans hg)
  obtain rfl := Option.some.inj (tTab.symm.trans ht)
  have hd' : DataW.trod (funcToken Tryd.prog) Tryd.prog W 0 (fun _ => true) true fuel 89 cs.toList = some (.agg ((List.range 14).map opData), p) := hd
  obtain ⟨xs, m, rfl, hx, hl, hn, hel⟩ := DataW.trod_array Tryd.underlying89 hd'
  rw [cellsTb] at hl
  rw [cellsO] at hel
  have hcell := World.var?_cell hg hv
  have hsz : 0 < W.heap.size := by
    have h0 := hcell 0
    have : (W.cell? ⟨0, 0, none⟩).isSome := by rw [h0]; simp; simp at hl; omega
    rcases Nat.lt_or_ge 0 W.heap.size with h | h
    · exact h
    · simp [World.cell?, Array.getElem?_eq_none h] at this
  have hx1 : xs.map (·.1) = (List.range 14).map opData := by
    have := (Prod.mk.inj hx).1; simpa using this.symm
  have key : ∀ i, i < 14 → ∃ q, DataW.trod (funcToken Tryd.prog) Tryd.prog W 0 (fun _ => true) true m 88 ((cs.toList.drop (i * 3)).take 3) = some (opData i, q) := by
    intro i hi
    have h1 := hel i hi
    have h2 : (xs.map (·.1))[i]? = some (opData i) := by rw [hx1]; simp [hi]
    rw [List.getElem?_map] at h2
    cases hxi : xs[i]? with
    | none => rw [hxi] at h2; simp at h2
    | some y => rw [hxi] at h1 h2; simp at h2; exact ⟨y.2, by rw [h1, ← h2]⟩
  have parts : ∀ i, i < 14 → (cs.toList.drop (i * 3)).take 3 = [oc (3 * i), oc (3 * i + 1), oc (3 * i + 2)] := by
    intro i hi
    obtain ⟨q, hq⟩ := key i hi
    rcases (show i = 0 ∨ i = 1 ∨ i = 2 ∨ i = 3 ∨ i = 4 ∨ i = 5 ∨ i = 6 ∨ i = 7 ∨ i = 8 ∨ i = 9 ∨ i = 10 ∨ i = 11 ∨ i = 12 ∨ i = 13 from by omega) with rfl | rfl | rfl | rfl | rfl | rfl | rfl | rfl | rfl | rfl | rfl | rfl | rfl | rfl
    all_goals exact open_entry (by kernel_rfl) hq
  have cellAt : ∀ i, i < 42 → W.cell? ⟨0, i, none⟩ = some (oc i) := by
    intro i hi
    rw [hcell i]
    have hp := parts (i / 3) (by omega)
    have hr : i % 3 = 0 ∨ i % 3 = 1 ∨ i % 3 = 2 := by omega
    have hget : cs[i]? = ((cs.toList.drop (i / 3 * 3)).take 3)[i % 3]? := by
      rw [List.getElem?_take, if_pos (by omega), List.getElem?_drop, show i / 3 * 3 + i % 3 = i from by omega, Array.getElem?_toList]
    rw [hget, hp]
    rcases hr with h | h | h
    · rw [h]; exact congrArg (fun j => some (oc j)) (by omega)
    · rw [h]; exact congrArg (fun j => some (oc j)) (by omega)
    · rw [h]; exact congrArg (fun j => some (oc j)) (by omega)
  intro g' cs' hm
  obtain ⟨rfl, rfl⟩ := Prod.mk.inj (List.mem_singleton.1 hm)
  refine ⟨oc, fun j hj => ⟨hsz, ?_, cellAt j hj⟩, fun j c hc => (opVal_rep j c hc).1⟩
  exact (opVal_rep (S := fun _ _ => True) (w := W) j _ (List.getElem?_eq_getElem hj)).2
theorem rep_int {w : World} (x : Int) : RepV (fun b _ => b < w.heap.size) w (.int .i64 x) (VI x) := .int _ _
theorem rep_ints {w : World} {v : Value} {xs : List Int} (h : RdL (IntV .i64) w v xs) : RepV (fun b _ => b < w.heap.size) w v (LI xs) := by
  obtain ⟨a, cap, rfl, ⟨h1, h1'⟩, h2, h3⟩ := h
  rcases Nat.eq_zero_or_pos xs.length with h0 | h0
  · obtain rfl := List.eq_nil_of_length_eq_zero h0
    exact .sl0 _ _ _ h1 h2 h1'
  · obtain ⟨b, off, u, rfl, hb, _⟩ := h3 0 h0
    refine .sl b off xs.length cap (fun j => .int .i64 (xs.getD j 0)) (xs.map VI) h1 h2 (fun j hj => ?_) fun j c hc => ?_
    · have hj' : j < xs.length := by simpa using hj
      obtain ⟨b', off', u', he, hb', hc', hu'⟩ := h3 j hj'
      simp only [Option.some.injEq, Addr.mk.injEq, and_true] at he
      obtain ⟨rfl, rfl⟩ := he
      refine ⟨hb', rfl, ?_⟩
      rw [hc', show u' = .int .i64 xs[j] from hu']
      simp [List.getD, hj']
    · have hj' : j < xs.length := by simpa using (List.getElem?_eq_some_iff.1 hc).1
      have : c = VI (xs.getD j 0) := by
        simp [hj'] at hc
        rw [← hc]; simp [List.getD, hj']
      rw [this]
      exact .int _ _
theorem rd_len {α : Type} {R : World → Value → α → Prop} {w : World} {v : Value} {xs : List α} (h : RdL R w v xs) : xs.length < 9223372036854775808 := by
  obtain ⟨a, cap, rfl, ⟨h1, h1'⟩, h2, h3⟩ := h
  have h4 : xs.length ≤ maxLen := Nat.le_trans h1 h2
  unfold maxLen at h4
  omega
theorem big_of {x : Int} (h : I64 x) : Big x := h
/-- From a law's contract to what the row asks. -/
theorem law_calls {B : CallP} (hB : ∀ f args sto lo r sto', B f args sto lo r sto' → CallOK Tryd.prog f args sto lo r sto') {f : FuncId} {xs : List V} {vals : List Value} {w : World} (h : CallEv Tryd.prog tab B f (xs.map .v) [] 0 (.v (.bool true)) []) (hgl : GlobOK (fun b _ => b < w.heap.size) w) (hv : Pw (RepV (fun b _ => b < w.heap.size) w) vals xs) :
    Calls Tryd.prog f vals.toArray w fun e w' => e = .returned (.bool true) ∧ Below w.heap.size w w' := by
  refine (call_plain tab_ok (by kernel_rfl) hB h hgl hv).mono fun e w' ⟨v, S', h1, h2, h3⟩ => ?_
  cases h2
  exact ⟨h1, h3⟩
end Go.Proofs.YtomameefmobnlaaDoor
namespace Go.Proofs.YtomameefmobnlaaDoor
open Go Go.RowKit
section
variable {T : Tab} {X : CallP} {n0 lo : Nat} {wt : List Tmp} {draw : Bool} {ops : Array Oper} {Q : St → Prop} {rest : List Oper} {o : Oper} {env : List D} {sto : Sto}
theorem set_same {l : List D} {d : Nat} {x : D} (h : l[d]? = some x) : l.set d x = l := by
  apply List.ext_getElem?
  intro k
  rcases Nat.decEq d k with hk | hk
  · rw [List.getElem?_set_ne hk]
  · subst hk
    rw [List.getElem?_set_self (List.getElem?_eq_some_iff.1 h).1, h]
set_option linter.unusedVariables false in
/-- A guard that is not known yet. -/
theorem ops_bsplit {j d : Nat} {want b : Bool} (h1 : o.guard = some (j, want)) (h2 : (ops[j]?).bind (·.dst) = some d) (h3 : env[d]? = some (.v (.bool b))) (ht : b = true → EvOps T X n0 lo wt draw ops Q (o :: rest) ⟨env.set d (.v (.bool true)), sto⟩) (hf : b = false → EvOps T X n0 lo wt draw ops Q (o :: rest) ⟨env.set d (.v (.bool false)), sto⟩) : EvOps T X n0 lo wt draw ops Q (o :: rest) ⟨env, sto⟩ := by
  cases b with
  | true => have := ht rfl; rwa [set_same h3] at this
  | false => have := hf rfl; rwa [set_same h3] at this
theorem ho_arr {id n : Nat} {es : Option (TypeId × Nat)} {wr : Bool} {cs : List V} : ∀ i ds, lo ≤ i → i < n0 → (sto.set id (.arr es wr n cs))[i]? = some (.cells ds) → sto[i]? = some (.cells ds) ∨ scopedL n0 ds = true := by
  intro i ds _ _ h
  left
  rw [List.getElem?_set] at h
  split at h
  · split at h <;> cases h
  · exact h
theorem ho_arr2 {id n n' : Nat} {es es' : Option (TypeId × Nat)} {wr wr' : Bool} {cs cs' : List V} : ∀ i ds, lo ≤ i → i < n0 → (sto.set id (.arr es wr n cs))[i]? = some (.cells ds) → (sto.set id (.arr es' wr' n' cs'))[i]? = some (.cells ds) ∨ scopedL n0 ds = true := by
  intro i ds _ _ h
  left
  rw [List.getElem?_set] at h ⊢
  split at h
  · split at h <;> cases h
  · rename_i hne
    rw [if_neg hne]
    exact h
theorem ho_map {id : Nat} {k : IntKind} {kvs : List (Int × V)} : ∀ i ds, lo ≤ i → i < n0 → (sto.set id (.map k kvs))[i]? = some (.cells ds) → sto[i]? = some (.cells ds) ∨ scopedL n0 ds = true := by
  intro i ds _ _ h
  left
  rw [List.getElem?_set] at h
  split at h
  · split at h <;> cases h
  · exact h
theorem ho_app {l : Sto} (hn : n0 ≤ sto.length) : ∀ i ds, lo ≤ i → i < n0 → (sto ++ l)[i]? = some (.cells ds) → sto[i]? = some (.cells ds) ∨ scopedL n0 ds = true := by
  intro i ds _ hi h
  left
  rwa [List.getElem?_append_left (by omega)] at h
theorem ho_app2 {l l' : Sto} (hn : n0 ≤ sto.length) : ∀ i ds, lo ≤ i → i < n0 → (sto ++ l)[i]? = some (.cells ds) → (sto ++ l')[i]? = some (.cells ds) ∨ scopedL n0 ds = true := by
  intro i ds _ hi h
  left
  rwa [List.getElem?_append_left (by omega)] at h ⊢
theorem set_sameE {id : Nat} {e : Ent} (h : sto[id]? = some e) : sto.set id e = sto := by
  apply List.ext_getElem?
  intro k
  rcases Nat.decEq id k with hk | hk
  · rw [List.getElem?_set_ne hk]
  · subst hk
    rw [List.getElem?_set_self (List.getElem?_eq_some_iff.1 h).1, h]
theorem getS {id : Nat} {e : Ent} (h : id < sto.length) : (sto.set id e)[id]? = some e := List.getElem?_set_self h
theorem mapSet {α : Type} {f : α → V} {zs : List α} {x : α} {i : Nat} (h : i < zs.length) : List.take i (zs.map f) ++ f x :: List.drop (i + 1) (zs.map f) = (zs.set i x).map f := by
  rw [List.map_set, List.set_eq_take_append_cons_drop, if_pos (by simpa using h)]
theorem CallEv.up {P : Program} {B B' : CallP} {f : FuncId} {args : List D} {r : D} {sto' : Sto} (hB : ∀ f args sto lo r sto', B f args sto lo r sto' → B' f args sto lo r sto') (h : CallEv P T B f args sto lo r sto') : CallEv P T B' f args sto lo r sto' :=
  fun X hX hb => h X hX fun _ _ _ _ _ _ q => hb _ _ _ _ _ _ (hB _ _ _ _ _ _ q)
theorem CallEv.up0 {P : Program} {B : CallP} {f : FuncId} {args : List D} {r : D} {sto' : Sto} (h : CallEv P T B0 f args sto lo r sto') : CallEv P T B f args sto lo r sto' := h.up fun _ _ _ _ _ _ q => q.elim
end
theorem bT {b : Bool} (h : b = true) : b = true := h
end Go.Proofs.YtomameefmobnlaaDoor
namespace Go.Proofs.YtomameefmobnlaaDoor
open Go
variable {T : Tab} {X : CallP} {n0 lo : Nat} {wt : List Tmp} {draw : Bool}
theorem cut_c {P : St → Prop} {c : Code} {R : Exit → St → Prop} {st : St} (h : P st) (k : ∀ s, P s → EvC T X n0 lo wt c R s) : EvC T X n0 lo wt c R st := k _ h
theorem cut_o {P : St → Prop} {ops : Array Oper} {Q : St → Prop} {l : List Oper} {st : St} (h : P st) (k : ∀ s, P s → EvOps T X n0 lo wt draw ops Q l s) : EvOps T X n0 lo wt draw ops Q l st := k _ h
/-- All ways out of a piece of code meet again. -/
theorem c_cut (e0 : Exit) (P : St → Prop) {c : Code} {R : Exit → St → Prop} {st : St} (h : EvC T X n0 lo wt c (fun e s => e = e0 ∧ P s) st) (k : ∀ s, P s → R e0 s) : EvC T X n0 lo wt c R st :=
  EvC_mono (fun _ _ _ _ _ _ h => h) _ _ _ (fun _ s h => h.1 ▸ k s h.2) _ h
theorem ite_same {α : Type} {m : Nat} {a b : α} (h : m = 0 → a = b) : (if m = 0 then a else b) = b := by by_cases hm : m = 0 <;> simp [hm, h]
/-- What a slot's slice reads as. -/
@[irreducible] def Rds (s : St) (d : D) (x : V) : Prop := view s.sto d = some x
theorem Rds.mk {s : St} {d : D} {x : V} (h : view s.sto d = some x) : Rds s d x := by unfold Rds; exact h
theorem Rds.get {s : St} {d : D} {x : V} (h : Rds s d x) : view s.sto d = some x := by unfold Rds at h; exact h
end Go.Proofs.YtomameefmobnlaaDoor
namespace Go.Proofs.YtomameefmobnlaaDoor
open Go Go.RowKit

/-- What is shown after the steps. -/
structure Later (q : Prop) : Prop where
  get : q
attribute [local irreducible] EvOps EvC
theorem go {p q : Prop} (k : Later q) (h : Later q → p := by (intro k; (first | with_reducible (first | refine c_seq ?_ | refine c_block ?_ | refine c_region ?_ | refine c_skip ?_ | refine c_exit ?_ | refine c_ret ?_ | refine then_normal ?_ | refine then_exit ?_ | refine then_ret ?_ | refine block_normal ?_ | refine block_here ?_ | refine block_ret ?_ | refine block_far (by decide) ?_ | refine ops_nil ?_ | refine c_cond_t rfl ?_ | refine c_cond_f rfl ?_) | ((with_reducible apply ops_pure); rfl; (simp (disch := (first | omega | assumption | ((repeat' with_reducible apply And.intro) <;> first | omega | assumption | rfl | (apply Or.inl; rfl) | (apply Or.inr; first | rfl | trivial | fail) | fail) | fail)) only [go_sem, if_pos, if_neg, wrapI, wrapU, decide_eq_true, decide_eq_false, beqT, beqF, bneT, bneF] <;> rfl); simp only [go_sem]) | ((with_reducible apply ops_pureF); rfl; (intro _; simp (disch := (first | omega | assumption | ((repeat' with_reducible apply And.intro) <;> first | omega | assumption | rfl | (apply Or.inl; rfl) | (apply Or.inr; first | rfl | trivial | fail) | fail) | fail)) only [go_sem, if_pos, if_neg, wrapI, wrapU, decide_eq_true, decide_eq_false, beqT, beqF, bneT, bneF] <;> rfl); simp only [go_sem]) | ((with_reducible apply ops_pureD); kernel_rfl; rfl; (simp (disch := (first | omega | assumption | ((repeat' with_reducible apply And.intro) <;> first | omega | assumption | rfl | (apply Or.inl; rfl) | (apply Or.inr; first | rfl | trivial | fail) | fail) | fail)) only [go_sem, if_pos, if_neg, wrapI, wrapU, decide_eq_true, decide_eq_false, beqT, beqF, bneT, bneF] <;> rfl); simp only [go_sem]) | ((with_reducible apply ops_skip); rfl; simp only [go_sem]) | ((with_reducible apply c_regionD); kernel_rfl) | ((with_reducible apply ops_eff); decide; rfl; (simp (disch := (first | omega | assumption | ((repeat' with_reducible apply And.intro) <;> first | omega | assumption | rfl | (apply Or.inl; rfl) | (apply Or.inr; first | rfl | trivial | fail) | fail) | fail)) only [go_sem, if_pos, if_neg, wrapI, wrapU, decide_eq_true, decide_eq_false, beqT, beqF, bneT, bneF] <;> rfl); simp only [go_sem])); (repeat (first | with_reducible (first | refine c_seq ?_ | refine c_block ?_ | refine c_region ?_ | refine c_skip ?_ | refine c_exit ?_ | refine c_ret ?_ | refine then_normal ?_ | refine then_exit ?_ | refine then_ret ?_ | refine block_normal ?_ | refine block_here ?_ | refine block_ret ?_ | refine block_far (by decide) ?_ | refine ops_nil ?_ | refine c_cond_t rfl ?_ | refine c_cond_f rfl ?_) | ((with_reducible apply ops_pure); rfl; (simp (disch := (first | omega | assumption | ((repeat' with_reducible apply And.intro) <;> first | omega | assumption | rfl | (apply Or.inl; rfl) | (apply Or.inr; first | rfl | trivial | fail) | fail) | fail)) only [go_sem, if_pos, if_neg, wrapI, wrapU, decide_eq_true, decide_eq_false, beqT, beqF, bneT, bneF] <;> rfl); simp only [go_sem]) | ((with_reducible apply ops_pureF); rfl; (intro _; simp (disch := (first | omega | assumption | ((repeat' with_reducible apply And.intro) <;> first | omega | assumption | rfl | (apply Or.inl; rfl) | (apply Or.inr; first | rfl | trivial | fail) | fail) | fail)) only [go_sem, if_pos, if_neg, wrapI, wrapU, decide_eq_true, decide_eq_false, beqT, beqF, bneT, bneF] <;> rfl); simp only [go_sem]) | ((with_reducible apply ops_pureD); kernel_rfl; rfl; (simp (disch := (first | omega | assumption | ((repeat' with_reducible apply And.intro) <;> first | omega | assumption | rfl | (apply Or.inl; rfl) | (apply Or.inr; first | rfl | trivial | fail) | fail) | fail)) only [go_sem, if_pos, if_neg, wrapI, wrapU, decide_eq_true, decide_eq_false, beqT, beqF, bneT, bneF] <;> rfl); simp only [go_sem]) | ((with_reducible apply ops_skip); rfl; simp only [go_sem]) | ((with_reducible apply c_regionD); kernel_rfl) | ((with_reducible apply ops_eff); decide; rfl; (simp (disch := (first | omega | assumption | ((repeat' with_reducible apply And.intro) <;> first | omega | assumption | rfl | (apply Or.inl; rfl) | (apply Or.inr; first | rfl | trivial | fail) | fail) | fail)) only [go_sem, if_pos, if_neg, wrapI, wrapU, decide_eq_true, decide_eq_false, beqT, beqF, bneT, bneF] <;> rfl); simp only [go_sem]))); exact k.get)) : p := h k
theorem goL {p q : Prop} (k : Later q) (h : Later q → p := by (intro k; (first | with_reducible (first | refine c_seq ?_ | refine c_block ?_ | refine c_region ?_ | refine c_skip ?_ | refine c_exit ?_ | refine c_ret ?_ | refine then_normal ?_ | refine then_exit ?_ | refine then_ret ?_ | refine block_normal ?_ | refine block_here ?_ | refine block_ret ?_ | refine block_far (by decide) ?_ | refine ops_nil ?_ | refine c_cond_t rfl ?_ | refine c_cond_f rfl ?_) | ((with_reducible apply ops_lit); rfl; (simp (disch := (first | omega | assumption | ((repeat' with_reducible apply And.intro) <;> first | omega | assumption | rfl | (apply Or.inl; rfl) | (apply Or.inr; first | rfl | trivial | fail) | fail) | fail)) only [go_sem, if_pos, if_neg, wrapI, wrapU, decide_eq_true, decide_eq_false, beqT, beqF, bneT, bneF] <;> rfl); simp only [go_sem]) | ((with_reducible apply ops_pure); rfl; (simp (disch := (first | omega | assumption | ((repeat' with_reducible apply And.intro) <;> first | omega | assumption | rfl | (apply Or.inl; rfl) | (apply Or.inr; first | rfl | trivial | fail) | fail) | fail)) only [go_sem, if_pos, if_neg, wrapI, wrapU, decide_eq_true, decide_eq_false, beqT, beqF, bneT, bneF] <;> rfl); simp only [go_sem]) | ((with_reducible apply ops_pureF); rfl; (intro _; simp (disch := (first | omega | assumption | ((repeat' with_reducible apply And.intro) <;> first | omega | assumption | rfl | (apply Or.inl; rfl) | (apply Or.inr; first | rfl | trivial | fail) | fail) | fail)) only [go_sem, if_pos, if_neg, wrapI, wrapU, decide_eq_true, decide_eq_false, beqT, beqF, bneT, bneF] <;> rfl); simp only [go_sem]) | ((with_reducible apply ops_pureD); kernel_rfl; rfl; (simp (disch := (first | omega | assumption | ((repeat' with_reducible apply And.intro) <;> first | omega | assumption | rfl | (apply Or.inl; rfl) | (apply Or.inr; first | rfl | trivial | fail) | fail) | fail)) only [go_sem, if_pos, if_neg, wrapI, wrapU, decide_eq_true, decide_eq_false, beqT, beqF, bneT, bneF] <;> rfl); simp only [go_sem]) | ((with_reducible apply ops_skip); rfl; simp only [go_sem]) | ((with_reducible apply c_regionD); kernel_rfl) | ((with_reducible apply ops_eff); decide; rfl; (simp (disch := (first | omega | assumption | ((repeat' with_reducible apply And.intro) <;> first | omega | assumption | rfl | (apply Or.inl; rfl) | (apply Or.inr; first | rfl | trivial | fail) | fail) | fail)) only [go_sem, if_pos, if_neg, wrapI, wrapU, decide_eq_true, decide_eq_false, beqT, beqF, bneT, bneF] <;> rfl); simp only [go_sem])); (repeat (first | with_reducible (first | refine c_seq ?_ | refine c_block ?_ | refine c_region ?_ | refine c_skip ?_ | refine c_exit ?_ | refine c_ret ?_ | refine then_normal ?_ | refine then_exit ?_ | refine then_ret ?_ | refine block_normal ?_ | refine block_here ?_ | refine block_ret ?_ | refine block_far (by decide) ?_ | refine ops_nil ?_ | refine c_cond_t rfl ?_ | refine c_cond_f rfl ?_) | ((with_reducible apply ops_lit); rfl; (simp (disch := (first | omega | assumption | ((repeat' with_reducible apply And.intro) <;> first | omega | assumption | rfl | (apply Or.inl; rfl) | (apply Or.inr; first | rfl | trivial | fail) | fail) | fail)) only [go_sem, if_pos, if_neg, wrapI, wrapU, decide_eq_true, decide_eq_false, beqT, beqF, bneT, bneF] <;> rfl); simp only [go_sem]) | ((with_reducible apply ops_pure); rfl; (simp (disch := (first | omega | assumption | ((repeat' with_reducible apply And.intro) <;> first | omega | assumption | rfl | (apply Or.inl; rfl) | (apply Or.inr; first | rfl | trivial | fail) | fail) | fail)) only [go_sem, if_pos, if_neg, wrapI, wrapU, decide_eq_true, decide_eq_false, beqT, beqF, bneT, bneF] <;> rfl); simp only [go_sem]) | ((with_reducible apply ops_pureF); rfl; (intro _; simp (disch := (first | omega | assumption | ((repeat' with_reducible apply And.intro) <;> first | omega | assumption | rfl | (apply Or.inl; rfl) | (apply Or.inr; first | rfl | trivial | fail) | fail) | fail)) only [go_sem, if_pos, if_neg, wrapI, wrapU, decide_eq_true, decide_eq_false, beqT, beqF, bneT, bneF] <;> rfl); simp only [go_sem]) | ((with_reducible apply ops_pureD); kernel_rfl; rfl; (simp (disch := (first | omega | assumption | ((repeat' with_reducible apply And.intro) <;> first | omega | assumption | rfl | (apply Or.inl; rfl) | (apply Or.inr; first | rfl | trivial | fail) | fail) | fail)) only [go_sem, if_pos, if_neg, wrapI, wrapU, decide_eq_true, decide_eq_false, beqT, beqF, bneT, bneF] <;> rfl); simp only [go_sem]) | ((with_reducible apply ops_skip); rfl; simp only [go_sem]) | ((with_reducible apply c_regionD); kernel_rfl) | ((with_reducible apply ops_eff); decide; rfl; (simp (disch := (first | omega | assumption | ((repeat' with_reducible apply And.intro) <;> first | omega | assumption | rfl | (apply Or.inl; rfl) | (apply Or.inr; first | rfl | trivial | fail) | fail) | fail)) only [go_sem, if_pos, if_neg, wrapI, wrapU, decide_eq_true, decide_eq_false, beqT, beqF, bneT, bneF] <;> rfl); simp only [go_sem]))); exact k.get)) : p := h k
theorem goX {p q : Prop} (k : Later q) (h : Later q → p := by (intro k; (first | with_reducible (first | refine c_seq ?_ | refine c_block ?_ | refine c_skip ?_ | refine c_exit ?_ | refine c_ret ?_ | refine then_normal ?_ | refine then_exit ?_ | refine then_ret ?_ | refine block_normal ?_ | refine block_here ?_ | refine block_ret ?_ | refine block_far (by decide) ?_ | refine ops_nil ?_ | refine c_cond_t rfl ?_ | refine c_cond_f rfl ?_) | ((with_reducible apply ops_pure); rfl; (simp (disch := (first | omega | assumption | ((repeat' with_reducible apply And.intro) <;> first | omega | assumption | rfl | (apply Or.inl; rfl) | (apply Or.inr; first | rfl | trivial | fail) | fail) | fail)) only [go_sem, if_pos, if_neg, wrapI, wrapU, decide_eq_true, decide_eq_false, beqT, beqF, bneT, bneF] <;> rfl); simp only [go_sem]) | ((with_reducible apply ops_pureF); rfl; (intro _; simp (disch := (first | omega | assumption | ((repeat' with_reducible apply And.intro) <;> first | omega | assumption | rfl | (apply Or.inl; rfl) | (apply Or.inr; first | rfl | trivial | fail) | fail) | fail)) only [go_sem, if_pos, if_neg, wrapI, wrapU, decide_eq_true, decide_eq_false, beqT, beqF, bneT, bneF] <;> rfl); simp only [go_sem]) | ((with_reducible apply ops_pureD); kernel_rfl; rfl; (simp (disch := (first | omega | assumption | ((repeat' with_reducible apply And.intro) <;> first | omega | assumption | rfl | (apply Or.inl; rfl) | (apply Or.inr; first | rfl | trivial | fail) | fail) | fail)) only [go_sem, if_pos, if_neg, wrapI, wrapU, decide_eq_true, decide_eq_false, beqT, beqF, bneT, bneF] <;> rfl); simp only [go_sem]) | ((with_reducible apply ops_skip); rfl; simp only [go_sem]) | ((with_reducible apply c_regionD); kernel_rfl) | ((with_reducible apply ops_eff); decide; rfl; (simp (disch := (first | omega | assumption | ((repeat' with_reducible apply And.intro) <;> first | omega | assumption | rfl | (apply Or.inl; rfl) | (apply Or.inr; first | rfl | trivial | fail) | fail) | fail)) only [go_sem, if_pos, if_neg, wrapI, wrapU, decide_eq_true, decide_eq_false, beqT, beqF, bneT, bneF] <;> rfl); simp only [go_sem])); (repeat (first | with_reducible (first | refine c_seq ?_ | refine c_block ?_ | refine c_skip ?_ | refine c_exit ?_ | refine c_ret ?_ | refine then_normal ?_ | refine then_exit ?_ | refine then_ret ?_ | refine block_normal ?_ | refine block_here ?_ | refine block_ret ?_ | refine block_far (by decide) ?_ | refine ops_nil ?_ | refine c_cond_t rfl ?_ | refine c_cond_f rfl ?_) | ((with_reducible apply ops_pure); rfl; (simp (disch := (first | omega | assumption | ((repeat' with_reducible apply And.intro) <;> first | omega | assumption | rfl | (apply Or.inl; rfl) | (apply Or.inr; first | rfl | trivial | fail) | fail) | fail)) only [go_sem, if_pos, if_neg, wrapI, wrapU, decide_eq_true, decide_eq_false, beqT, beqF, bneT, bneF] <;> rfl); simp only [go_sem]) | ((with_reducible apply ops_pureF); rfl; (intro _; simp (disch := (first | omega | assumption | ((repeat' with_reducible apply And.intro) <;> first | omega | assumption | rfl | (apply Or.inl; rfl) | (apply Or.inr; first | rfl | trivial | fail) | fail) | fail)) only [go_sem, if_pos, if_neg, wrapI, wrapU, decide_eq_true, decide_eq_false, beqT, beqF, bneT, bneF] <;> rfl); simp only [go_sem]) | ((with_reducible apply ops_pureD); kernel_rfl; rfl; (simp (disch := (first | omega | assumption | ((repeat' with_reducible apply And.intro) <;> first | omega | assumption | rfl | (apply Or.inl; rfl) | (apply Or.inr; first | rfl | trivial | fail) | fail) | fail)) only [go_sem, if_pos, if_neg, wrapI, wrapU, decide_eq_true, decide_eq_false, beqT, beqF, bneT, bneF] <;> rfl); simp only [go_sem]) | ((with_reducible apply ops_skip); rfl; simp only [go_sem]) | ((with_reducible apply c_regionD); kernel_rfl) | ((with_reducible apply ops_eff); decide; rfl; (simp (disch := (first | omega | assumption | ((repeat' with_reducible apply And.intro) <;> first | omega | assumption | rfl | (apply Or.inl; rfl) | (apply Or.inr; first | rfl | trivial | fail) | fail) | fail)) only [go_sem, if_pos, if_neg, wrapI, wrapU, decide_eq_true, decide_eq_false, beqT, beqF, bneT, bneF] <;> rfl); simp only [go_sem]))); exact k.get)) : p := h k
theorem sv {p : Prop} (h : p := by simp (disch := (first | omega | assumption | ((repeat' with_reducible apply And.intro) <;> first | omega | assumption | rfl | (apply Or.inl; rfl) | (apply Or.inr; first | rfl | trivial | fail) | fail) | fail)) only [go_sem, if_pos, if_neg, wrapI, wrapU, decide_eq_true, decide_eq_false, beqT, beqF, bneT, bneF] <;> rfl) : p := h
theorem call {T : Tab} {X : CallP} {n0 lo : Nat} {wt : List Tmp} {draw : Bool} {ops : Array Oper} {Q : St → Prop} {rest : List Oper} {o : Oper} {env : List D} {sto : Sto} {f : FuncId} {args : List D} (k : ∃ r, X f args sto (if draw then sto.length else lo) r sto ∧ EvOps T X n0 lo wt draw ops Q rest (St.put ⟨env, sto⟩ o.dst r)) (hg : guardD ops o env = some true := by rfl) (h : evCallee (opd env) sto o = some (f, args) := by simp (disch := (first | omega | assumption | ((repeat' with_reducible apply And.intro) <;> first | omega | assumption | rfl | (apply Or.inl; rfl) | (apply Or.inr; first | rfl | trivial | fail) | fail) | fail)) only [go_sem, if_pos, if_neg, wrapI, wrapU, decide_eq_true, decide_eq_false, beqT, beqF, bneT, bneF] <;> rfl) : EvOps T X n0 lo wt draw ops Q (o :: rest) ⟨env, sto⟩ := k.elim fun _ k => ops_call hg h k.1 k.2
section
variable {T : Tab} {X : CallP} {n0 lo : Nat} {wt : List Tmp} {draw : Bool} {ops : Array Oper} {Q : St → Prop} {R : Exit → St → Prop} {rest : List Oper} {o : Oper} {env : List D} {sto : Sto} {st : St}
theorem bsp {j d : Nat} {want b : Bool} (ht : b = true → EvOps T X n0 lo wt draw ops Q (o :: rest) ⟨env.set d (.v (.bool true)), sto⟩) (hf : b = false → EvOps T X n0 lo wt draw ops Q (o :: rest) ⟨env.set d (.v (.bool false)), sto⟩) (h1 : o.guard = some (j, want) := by rfl) (h2 : (ops[j]?).bind (·.dst) = some d := by rfl) (h3 : env[d]? = some (.v (.bool b)) := by rfl) : EvOps T X n0 lo wt draw ops Q (o :: rest) ⟨env, sto⟩ := ops_bsplit h1 h2 h3 ht hf
theorem csp {c : Operand} {x y : Code} {b : Bool} (hx : b = true → EvC T X n0 lo wt x R st) (hy : b = false → EvC T X n0 lo wt y R st) (hc : opd st.env c = .v (.bool b) := by rfl) : EvC T X n0 lo wt (.cond c x y) R st := c_cond hc hx hy
end
end Go.Proofs.YtomameefmobnlaaDoor
namespace Go.Proofs.YtomameefmobnlaaDoor
open Go Go.RowKit Go.Shelf
set_option maxRecDepth 100000
def renM : Go.Shelf.Ren := ⟨fun | 5 => 68 | 7 => 83 | 8 => 84 | 10 => 85 | 11 => 86 | 12 => 87 | 13 => 88 | 14 => 89 | 15 => 90 | 16 => 91 | 17 => 92 | 18 => 93 | 19 => 94 | 20 => 95 | 30 => 96 | 31 => 97 | 32 => 98 | 33 => 99 | 34 => 100 | 35 => 101 | 40 => 102 | n => n, fun | 0 => 0 | 3 => 3 | 4 => 4 | 5 => 5 | 9 => 9 | 22 => 22 | 23 => 22 | 25 => 3 | 32 => 100 | 35 => 102 | 36 => 103 | 41 => 30 | 44 => 109 | 46 => 111 | 53 => 112 | 57 => 116 | 63 => 118 | 64 => 76 | n => n, fun n => n⟩
theorem laysSort : SlLaysM.n5 Tryd.prog renM := {
  mixed := by kernel_rfl
  f5 := ⟨Tryd.f68.name, by kernel_rfl, Tryd.func68.trans (congrArg some (by kernel_rfl))⟩
  f7 := ⟨Tryd.f83.name, by kernel_rfl, Tryd.func83.trans (congrArg some (by kernel_rfl))⟩
  f8 := Tryd.func84.trans (congrArg some (by kernel_rfl))
  f10 := ⟨Tryd.f85.name, by kernel_rfl, Tryd.func85.trans (congrArg some (by kernel_rfl))⟩
  f11 := ⟨Tryd.f86.name, by kernel_rfl, Tryd.func86.trans (congrArg some (by kernel_rfl))⟩
  f12 := ⟨Tryd.f87.name, by kernel_rfl, Tryd.func87.trans (congrArg some (by kernel_rfl))⟩
  f13 := ⟨Tryd.f88.name, by kernel_rfl, Tryd.func88.trans (congrArg some (by kernel_rfl))⟩
  f14 := ⟨Tryd.f89.name, by kernel_rfl, Tryd.func89.trans (congrArg some (by kernel_rfl))⟩
  f15 := ⟨Tryd.f90.name, by kernel_rfl, Tryd.func90.trans (congrArg some (by kernel_rfl))⟩
  f16 := ⟨Tryd.f91.name, by kernel_rfl, Tryd.func91.trans (congrArg some (by kernel_rfl))⟩
  f17 := ⟨Tryd.f92.name, by kernel_rfl, Tryd.func92.trans (congrArg some (by kernel_rfl))⟩
  f18 := ⟨Tryd.f93.name, by kernel_rfl, Tryd.func93.trans (congrArg some (by kernel_rfl))⟩
  f19 := Tryd.func94.trans (congrArg some (by kernel_rfl))
  f20 := Tryd.func95.trans (congrArg some (by kernel_rfl))
  f30 := ⟨Tryd.f96.name, by kernel_rfl, Tryd.func96.trans (congrArg some (by kernel_rfl))⟩
  f31 := Tryd.func97.trans (congrArg some (by kernel_rfl))
  f32 := Tryd.func98.trans (congrArg some (by kernel_rfl))
  f33 := ⟨Tryd.f99.name, by kernel_rfl, Tryd.func99.trans (congrArg some (by kernel_rfl))⟩
  f34 := ⟨Tryd.f100.name, by kernel_rfl, Tryd.func100.trans (congrArg some (by kernel_rfl))⟩
  f35 := ⟨Tryd.f101.name, by kernel_rfl, Tryd.func101.trans (congrArg some (by kernel_rfl))⟩
  f40 := ⟨Tryd.f102.name, by kernel_rfl, Tryd.func102.trans (congrArg some (by kernel_rfl))⟩
  t0 := Tryd.underlying0
  a0 := Tryd.isAgg0
  z0 := Tryd.sizeOf0
  v0 := Tryd.zeroValue0
  t3 := Tryd.underlying3
  a3 := Tryd.isAgg3
  z3 := Tryd.sizeOf3
  v3 := Tryd.zeroValue3
  t4 := Tryd.underlying4
  a4 := Tryd.isAgg4
  z4 := Tryd.sizeOf4
  v4 := Tryd.zeroValue4
  t5 := Tryd.underlying5
  a5 := Tryd.isAgg5
  z5 := Tryd.sizeOf5
  v5 := Tryd.zeroValue5
  t9 := Tryd.underlying9
  a9 := Tryd.isAgg9
  z9 := Tryd.sizeOf9
  v9 := Tryd.zeroValue9
  t22 := Tryd.underlying22
  a22 := Tryd.isAgg22
  z22 := Tryd.sizeOf22
  v22 := Tryd.zeroValue22
  t23 := Tryd.underlying22
  a23 := Tryd.isAgg22
  z23 := Tryd.sizeOf22
  v23 := Tryd.zeroValue22
  t25 := Tryd.underlying3
  a25 := Tryd.isAgg3
  z25 := Tryd.sizeOf3
  v25 := Tryd.zeroValue3
  t32 := Tryd.underlying100
  a32 := Tryd.isAgg100
  z32 := Tryd.sizeOf100
  v32 := Tryd.zeroValue100
  t35 := Tryd.underlying102
  a35 := Tryd.isAgg102
  z35 := Tryd.sizeOf102
  v35 := Tryd.zeroValue102
  t36 := Tryd.underlying103
  a36 := Tryd.isAgg103
  z36 := Tryd.sizeOf103
  v36 := Tryd.zeroValue103
  t41 := Tryd.underlying30
  a41 := Tryd.isAgg30
  z41 := Tryd.sizeOf30
  v41 := Tryd.zeroValue30
  t44 := Tryd.underlying109
  a44 := Tryd.isAgg109
  z44 := Tryd.sizeOf109
  v44 := Tryd.zeroValue109
  t46 := Tryd.underlying111
  a46 := Tryd.isAgg111
  z46 := Tryd.sizeOf111
  v46 := Tryd.zeroValue111
  t53 := Tryd.underlying112
  a53 := Tryd.isAgg112
  z53 := Tryd.sizeOf112
  v53 := Tryd.zeroValue112
  t57 := Tryd.underlying116
  a57 := Tryd.isAgg116
  z57 := Tryd.sizeOf116
  v57 := Tryd.zeroValue116
  t63 := Tryd.underlying118
  a63 := Tryd.isAgg118
  z63 := Tryd.sizeOf118
  v63 := Tryd.zeroValue118
  t64 := Tryd.underlying76
  a64 := Tryd.isAgg76
  z64 := Tryd.sizeOf76
  v64 := Tryd.zeroValue76 }
def renZ : Go.Shelf.Ren := ⟨fun | 6 => 46 | 7 => 47 | 8 => 67 | 9 => 68 | 10 => 69 | 11 => 82 | n => n, fun | 0 => 0 | 3 => 4 | 4 => 4 | 23 => 68 | 24 => 22 | 26 => 3 | 27 => 71 | 28 => 72 | 33 => 85 | n => n, fun n => n⟩
theorem laysSorted : SlLaysZI.n6 Tryd.prog renZ := {
  mixed := by kernel_rfl
  f6 := ⟨Tryd.f46.name, by kernel_rfl, Tryd.func46.trans (congrArg some (by kernel_rfl))⟩
  f8 := ⟨Tryd.f67.name, by kernel_rfl, Tryd.func67.trans (congrArg some (by kernel_rfl))⟩
  f11 := ⟨Tryd.f82.name, by kernel_rfl, Tryd.func82.trans (congrArg some (by kernel_rfl))⟩
  t0 := Tryd.underlying0
  a0 := Tryd.isAgg0
  z0 := Tryd.sizeOf0
  v0 := Tryd.zeroValue0
  t24 := Tryd.underlying22
  a24 := Tryd.isAgg22
  z24 := Tryd.sizeOf22
  v24 := Tryd.zeroValue22
  t26 := Tryd.underlying3
  a26 := Tryd.isAgg3
  z26 := Tryd.sizeOf3
  v26 := Tryd.zeroValue3
  t28 := Tryd.underlying72
  a28 := Tryd.isAgg72
  z28 := Tryd.sizeOf72
  v28 := Tryd.zeroValue72
  i26 := by kernel_rfl }
theorem laysKeys : SlLaysZI.n7 Tryd.prog renZ := {
  mixed := by kernel_rfl
  f7 := ⟨Tryd.f47.name, by kernel_rfl, Tryd.func47.trans (congrArg some (by kernel_rfl))⟩
  f10 := ⟨Tryd.f69.name, by kernel_rfl, Tryd.func69.trans (congrArg some (by kernel_rfl))⟩
  t0 := Tryd.underlying0
  a0 := Tryd.isAgg0
  z0 := Tryd.sizeOf0
  v0 := Tryd.zeroValue0
  t4 := Tryd.underlying4
  a4 := Tryd.isAgg4
  z4 := Tryd.sizeOf4
  v4 := Tryd.zeroValue4
  t23 := Tryd.underlying68
  a23 := Tryd.isAgg68
  z23 := Tryd.sizeOf68
  v23 := Tryd.zeroValue68
  t26 := Tryd.underlying3
  a26 := Tryd.isAgg3
  z26 := Tryd.sizeOf3
  v26 := Tryd.zeroValue3
  t27 := Tryd.underlying71
  a27 := Tryd.isAgg71
  z27 := Tryd.sizeOf71
  v27 := Tryd.zeroValue71
  t28 := Tryd.underlying72
  a28 := Tryd.isAgg72
  z28 := Tryd.sizeOf72
  v28 := Tryd.zeroValue72
  t33 := Tryd.underlying85
  a33 := Tryd.isAgg85
  z33 := Tryd.sizeOf85
  v33 := Tryd.zeroValue85 }
end Go.Proofs.YtomameefmobnlaaDoor
namespace Go.Proofs.YtomameefmobnlaaDoor
open Go Go.RowKit Go.Shelf Go.Maps
open Go.WideElems (Fit rd rg pl rd_val rg_of)
open Go.WideShapes (sorted_perm)
set_option linter.unusedSimpArgs false
set_option linter.unusedVariables false
set_option maxRecDepth 100000
/-- A slice of the call's own, wherever it lies. -/
theorem arr_new {S : Stay} {gh : List Value} {sto : Sto} {w w' : World} {lo g s n cap : Nat} {cur : Array Value} {e : TypeId} {cs : List V} (hlo : lo ≤ sto.length) (hs : SR S gh w sto) (hb : Below w.heap.size w w') (hg0 : w.heap.size ≤ g) (hg : w'.heap[g]? = some (.cells cur e (0, 0))) (hn : n ≤ cap) (hc : cap ≤ maxLen) (hsz : cur.size = cap * s) (hl : cs.length = n * s)
    (hr : ∀ (j : Nat) (u : Value) (c : V), cur.toList[j]? = some u → cs[j]? = some c → u.oneCell' = true ∧ RepV S w u c) : ∃ gh', RepD S gh' (sto ++ [.arr (some (e, s)) true n cs]) w' (.slice (some ⟨g, 0, none⟩) n cap) (.arr sto.length n) ∧ SR S gh' w' (sto ++ [.arr (some (e, s)) true n cs]) ∧ Fr sto.length lo S gh w sto S gh' w' (sto ++ [.arr (some (e, s)) true n cs]) := by
  have hnew : ∀ b, blk (.slice (some ⟨g, 0, none⟩) n cap) = some b → w.heap.size ≤ b := by
    intro b hb
    simp only [blk, Option.some.injEq] at hb
    omega
  have hf : Fr sto.length lo S gh w sto S (gh ++ [.slice (some ⟨g, 0, none⟩) n cap]) w' (sto ++ [.arr (some (e, s)) true n cs]) := push_fr hs hlo hb (fun _ _ h => h) hnew
  refine ⟨_, ⟨by simp, ⟨_, _, rfl⟩, fun es' wr' m cs' h => ?_⟩, push_sr hs hf hb (fun b o h => .inl h) hnew ⟨g, cap, cur, rfl, hg, hn, hc, hsz, hl, fun j u c hu hcj => ⟨(hr j u c hu hcj).1, RepV.mono hf.stable (hr j u c hu hcj).2⟩, ?_⟩, hf⟩
  · simp only [List.getElem?_append_right (Nat.le_refl _), Nat.sub_self, List.getElem?_cons_zero, Option.some.injEq, Ent.arr.injEq] at h
    obtain ⟨_, _, rfl, _⟩ := h
    refine ⟨Nat.le_refl _, fun _ => ?_⟩
    rw [← hs.len]
    simp
  · simp only [if_true]
    intro o ho
    have := hs.stay _ _ ho; omega
theorem arr_new0 {S : Stay} {gh : List Value} {sto : Sto} {w w' : World} {lo : Nat} (hlo : lo ≤ sto.length) (hs : SR S gh w sto) (hb : Below w.heap.size w w') : ∃ gh', RepD S gh' (sto ++ [.arr none true 0 []]) w' (.slice none 0 0) (.arr sto.length 0) ∧ SR S gh' w' (sto ++ [.arr none true 0 []]) ∧ Fr sto.length lo S gh w sto S gh' w' (sto ++ [.arr none true 0 []]) := by
  have hnew : ∀ b, blk (.slice none 0 0) = some b → w.heap.size ≤ b := by
    intro b hb
    simp [blk] at hb
  have hf : Fr sto.length lo S gh w sto S (gh ++ [.slice none 0 0]) w' (sto ++ [.arr none true 0 []]) := push_fr hs hlo hb (fun _ _ h => h) hnew
  refine ⟨_, ⟨by simp, ⟨_, _, rfl⟩, fun es' wr' m cs' h => ?_⟩, push_sr hs hf hb (fun b o h => .inl h) hnew ⟨rfl, rfl, rfl⟩, hf⟩
  simp only [List.getElem?_append_right (Nat.le_refl _), Nat.sub_self, List.getElem?_cons_zero, Option.some.injEq, Ent.arr.injEq] at h
  obtain ⟨_, _, rfl, _⟩ := h
  refine ⟨Nat.le_refl _, fun _ => ?_⟩
  rw [← hs.len]
  simp
abbrev anyR : Value → Option (DataW Unit × List MemPlace) := fun _ => some (.nil, [])
theorem sortsIn (m : Nat) : AnyZI.SortsIn Tryd.prog renZ Fence.wide m :=
  ⟨fun blk off cap ss W hH hblk hsz => callsIn_wide.2 (AnyM.slices_Sort_int laysSort blk off cap ss W hH hblk hsz),
   fun p cap W => callsIn_wide.2 (AnyM.slices_Sort_int_none laysSort p cap W)⟩
/-- The keys of a map, sorted. -/
def keysS (kvs : List (Int × V)) : List Int := (kvs.map (·.1)).mergeSort leI
theorem keysS_length (kvs : List (Int × V)) : (keysS kvs).length = kvs.length := by simp [keysS, List.length_mergeSort]
/-- What is shown of slices.Sorted(maps.Keys(m)). -/
def sortB : CallP := fun f args sto _ r sto' => f = 46 ∧ ∃ (bid mid : Nat) (kvs : List (Int × V)), args = [.clo 69 [bid]] ∧ sto[bid]? = some (.cells [.map mid]) ∧ sto[mid]? = some (.map .i64 kvs) ∧ kvs.length ≤ 1000000 ∧ (∀ kv ∈ kvs, Big kv.1) ∧ r = .arr sto.length kvs.length ∧ sto' = sto ++ [.arr (if kvs.length = 0 then none else some (3, 1)) true kvs.length ((keysS kvs).map VI)]
theorem keyOf_big {n : Int} (h : Big n) : keyOf Tryd.prog 3 (.int .i64 n) = some (.int .i64 n) := by
  have hw : (Lit.int .i64 n).wf = true := by
    obtain ⟨h1, h2⟩ := h
    have e1 : IntKind.i64.min = -9223372036854775808 := by decide
    have e2 : IntKind.i64.max = 9223372036854775807 := by decide
    simp only [Lit.wf, e1, e2, Bool.and_eq_true, decide_eq_true_eq]
    omega
  simp [keyOf, Tryd.underlying3, mapKey, hw]
theorem sortB_ok : ∀ f args sto lo r sto', sortB f args sto lo r sto' → CallOK Tryd.prog f args sto lo r sto' := by
  rintro f args sto lo r sto' ⟨rfl, bid, mid, kvs, rfl, hbid, hmid, hn, hbig, rfl, rfl⟩
  refine ⟨by kernel_rfl, fun S gh w vals hlo hs hgl hv => ?_⟩
  obtain ⟨v0, rfl⟩ : ∃ v0, vals = [v0] := by
    have := hv.1
    match vals, this with
    | [v], _ => exact ⟨v, rfl⟩
  obtain ⟨vs, rfl, hvl, hvc⟩ : RepC S gh sto w v0 (.clo 69 [bid]) := hv.2 0 v0 _ rfl rfl
  obtain ⟨_, g, hg, hv0⟩ := hvc 0 bid rfl
  obtain rfl : vs = [.pointer (some ⟨g, 0, none⟩)] := by
    match vs, hvl with
    | [v], _ => simp only [List.getElem?_cons_zero, Option.some.injEq] at hv0; rw [hv0]
  obtain ⟨gv, hgv, hE⟩ := hs.ent bid _ hbid
  rw [hg] at hgv
  cases hgv
  obtain ⟨g', cur, ty, h0, hh, h1, h2, h3⟩ := hE
  cases h0
  obtain ⟨u, hu⟩ : ∃ u, cur.toList[0]? = some u := ⟨_, List.getElem?_eq_getElem (by rw [h1]; simp)⟩
  obtain ⟨_, g2, hg2, rfl⟩ : RepC S gh sto w u (.map mid) := (h3 0 u _ hu rfl).2
  have hcell : w.cell? ⟨g, 0, none⟩ = some (.map (some g2)) := by rw [cell_heap hh]; exact hu
  have hgl2 : g < w.heap.size := (Array.getElem?_eq_some_iff.1 hh).1
  obtain ⟨gv, hgv, hE⟩ := hs.ent mid _ hmid
  rw [hg2] at hgv
  cases hgv
  obtain ⟨g', es, clock, h0, hh2, k1, hst, k2, k3⟩ := hE
  cases h0
  have hsz : es.size = kvs.length := by rw [← Array.length_toList]; exact k2
  have hent : ∀ (j : Nat) (x : MapEntry), es.toList[j]? = some x → ∃ kv, kvs[j]? = some kv ∧ x.key = .int .i64 kv.1 ∧ rd Tryd.prog 3 anyR x = some (.int .i64 kv.1, .nil) := by
    intro j x hx
    have hj := (List.getElem?_eq_some_iff.1 hx).1
    have hkv : kvs[j]? = some kvs[j] := List.getElem?_eq_getElem (by omega)
    have hk := (k3 j x _ hx hkv).1
    refine ⟨_, hkv, hk, ?_⟩
    unfold rd
    rw [hk, keyOf_big (hbig _ (List.getElem_mem _))]
    rfl
  obtain ⟨D0, hD0⟩ : ∃ D0 : DataW Unit, D0 = .map ((es.toList.map (rg Tryd.prog 3 anyR)).foldr DataW.insert []) := ⟨_, rfl⟩
  have hown : w.ownsMap Tryd.prog 3 anyR g2 es.size D0 := ⟨es, clock, hh2, ⟨by rw [hsz]; unfold maxLen; omega, hst, fun x hx => by
    obtain ⟨j, hj⟩ := List.getElem?_of_mem hx
    obtain ⟨kv, _, _, h⟩ := hent j x hj
    exact ⟨_, h⟩⟩, Nat.le_refl _, hD0⟩
  have hperm : (intKeys D0).Perm (kvs.map (·.1)) := by
    rw [hD0]
    have hp := (sorted_perm (es.toList.map (rg Tryd.prog 3 anyR))).map (fun p => _root_.Go.intOf p.1)
    refine hp.trans (List.Perm.of_eq ?_)
    apply List.ext_getElem?
    intro j
    rw [List.getElem?_map, List.getElem?_map, List.getElem?_map]
    cases hx : es.toList[j]? with
    | none => rw [List.getElem?_eq_none (by rw [List.getElem?_eq_none_iff] at hx; omega)]; rfl
    | some x =>
      obtain ⟨kv, h4, _, h5⟩ := hent j x hx
      rw [h4]
      simp only [Option.map_some, rg_of h5, _root_.Go.intOf]
  have hsize : Maps.size D0 = kvs.length := by
    rw [hD0, size_eq, length_sorted, List.length_map, k2]
  have hseq := AnyZI.keys_gives (ρ := renZ) { laysKeys with } Fence.wide 2 trivial rfl (by omega) g g2 es.size D0 w hgl2 hcell hown
  have cS := AnyZI.sorted_in laysSorted Fence.wide 5 trivial trivial trivial trivial rfl (by omega) (sortsIn _) (enters_of Tryd.func68 (by kernel_rfl) rfl) 69 #[.pointer (some ⟨g, 0, none⟩)] trivial (enters_of Tryd.func69 (by kernel_rfl) rfl) _ _ (by rw [hsize]; unfold maxLen; omega) (by rw [hsize]; omega) w hseq
  refine (callsIn_wide.1 cS).mono ?_
  rintro e w' ⟨v, ss, rfl, hS, hrow, hnil, hb⟩
  have hkeys : ss.mergeSort (fun x y => decide (x ≤ y)) = keysS kvs := mergeSort_of_perm_i (hS.trans hperm)
  have hlen : ss.length = kvs.length := by
    have := (hS.trans hperm).length_eq
    simpa using this
  rw [hkeys, hlen] at hrow
  rcases hrow.2 with ⟨rfl, hz⟩ | ⟨gb, cp, cr, rfl, hbase, hgb, r1, r2, r3, r4⟩
  · have hk0 : kvs = [] := List.eq_nil_of_length_eq_zero hz
    subst hk0
    obtain ⟨gh', a1, a2, a3⟩ := arr_new0 hlo hs hb
    refine ⟨_, S, gh', rfl, ?_, ?_, ?_, by simp⟩ <;> simpa [keysS] using (by assumption)
  · have hne : kvs.length ≠ 0 := by
      intro h0
      have : ss = [] := List.eq_nil_of_length_eq_zero (by omega)
      have := hnil.2 this
      cases this
    rw [if_neg hne]
    obtain ⟨gh', a1, a2, a3⟩ := arr_new (e := 3) (s := 1) (cs := (keysS kvs).map VI) hlo hs hb hbase hgb r1 r2 r3 (by rw [List.length_map, keysS_length]; omega) (fun j u c hu hc => by
      have hj := (List.getElem?_eq_some_iff.1 hc).1
      rw [List.length_map, keysS_length] at hj
      have e1 : (cr.toList.take (kvs.length * 1))[j]? = some u := by rw [List.getElem?_take_of_lt (by omega)]; exact hu
      rw [r4, List.getElem?_map] at e1
      rw [List.getElem?_map] at hc
      cases hx : (keysS kvs)[j]? with
      | none => rw [hx] at hc; cases hc
      | some x =>
        rw [hx] at e1 hc
        cases e1; cases hc
        exact ⟨rfl, .int _ _⟩)
    exact ⟨_, S, gh', rfl, a1, a2, a3, by simp⟩
end Go.Proofs.YtomameefmobnlaaDoor
namespace Go.Proofs.YtomameefmobnlaaDoor
open Go Go.RowKit

attribute [local irreducible] EvOps EvC
set_option linter.unusedSimpArgs false
set_option linter.unusedVariables false
set_option maxRecDepth 100000
set_option maxHeartbeats 1000000
theorem around_ev (n most : Int) (hn : Big n) (hm : 0 < most) (hm2 : most < 9223372036854775808) (sto : Sto) (lo : Nat) (hlo : lo ≤ sto.length) : CallEv Tryd.prog tab B0 24 [.v (VI n), .v (VI most)] sto lo (.v (VI (aroundS n most))) sto := by
  obtain ⟨hn1, hn2⟩ := hn
  have hb := aroundS_bound (n := n) hm
  refine CallEv.intro ⟨_, _, [], Tryd.func24, rfl, by decide, ?_⟩; simp only [go_sem, Tryd.ntmps24]
  by_cases c1 : n < 0
  · have e : aroundS n most = (-(n + 1)).tmod most := by simp [aroundS, c1]
    rw [e] at hb ⊢
    (try refine go ⟨?_⟩)
    refine ⟨by first | exact .inr rfl | exact .inl rfl, .inl ⟨[], _, (by dsimp only [Tryd.f24]; exact sv), ?_, by simp⟩⟩
    rw [show (0 : Int) - (n + 1) = -(n + 1) from by omega]
  · have e : aroundS n most = n.tmod most := by simp [aroundS, c1]
    rw [e] at hb ⊢
    (try refine go ⟨?_⟩)
    refine ⟨by first | exact .inr rfl | exact .inl rfl, .inl ⟨[], _, (by dsimp only [Tryd.f24]; exact sv), ?_, by simp⟩⟩
    rfl
theorem at_ev (l : List Int) (i most : Int) (hl : l.length < 9223372036854775808) (hx : ∀ x ∈ l, Big x) (hm : 0 < most) (hm2 : most < 9223372036854775808) (sto : Sto) (lo : Nat) (hlo : lo ≤ sto.length) : CallEv Tryd.prog tab B0 81 [.v (LI l), .v (VI i), .v (VI most)] sto lo (.v (VI (atS l i most))) sto := by
  refine CallEv.intro ⟨_, _, [], Tryd.func81, rfl, by decide, ?_⟩; simp only [go_sem, Tryd.ntmps81]
  by_cases c1 : i < 0
  · have e : atS l i most = 0 := by simp [atS, c1]
    rw [e]
    (try refine go ⟨?_⟩)
    refine ⟨by first | exact .inr rfl | exact .inl rfl, .inl ⟨[], _, (by dsimp only [Tryd.f81]; exact sv), ?_, by simp⟩⟩
    rfl
  by_cases c2 : i ≥ l.length
  · have e : atS l i most = 0 := by simp [atS, c2]
    rw [e]
    (try refine go ⟨?_⟩)
    refine ⟨by first | exact .inr rfl | exact .inl rfl, .inl ⟨[], _, (by dsimp only [Tryd.f81]; exact sv), ?_, by simp⟩⟩
    rfl
  have hi : i.toNat < l.length := by omega
  have e : atS l i most = aroundS l[i.toNat] most := by simp [atS, c1, c2, List.getD, hi]
  rw [e]
  (try refine go ⟨?_⟩)
  ((refine call ?_); (refine ⟨_, around_ev _ _ (hx _ (List.getElem_mem hi)) hm hm2 _ _ (by first | omega | (simp; done) | (simp; omega)), ?_⟩); (try simp only [go_sem]))
  (try refine go ⟨?_⟩)
  refine ⟨by first | exact .inr rfl | exact .inl rfl, .inl ⟨[], _, (by dsimp only [Tryd.f81]; exact sv), ?_, by simp⟩⟩
  rfl
theorem sameInts_ev (a b : List Int) (ha : a.length < 9223372036854775808) (hb' : b.length < 9223372036854775808) (sto : Sto) (lo : Nat) (hlo : lo ≤ sto.length) : CallEv Tryd.prog tab B0 16 [.v (LI a), .v (LI b)] sto lo (.v (.bool (decide (a = b)))) sto := by
  refine CallEv.intro ⟨_, _, [], Tryd.func16, rfl, by decide, ?_⟩; simp only [go_sem, Tryd.ntmps16]
  by_cases c1 : a.length = b.length
  · (try refine go ⟨?_⟩)
    refine c_loop (fun m s => ∃ (i : Nat), (i ≤ a.length ∧ m = a.length - i ∧ a.take i = b.take i) ∧ (s.env.length = 26 ∧ s.sto = sto ∧ s.env[0]? = some (.v (LI a)) ∧ s.env[1]? = some (.v (LI b)) ∧ s.env[5]? = some (.v (VI i)))) (.refl _) ⟨0, ⟨by omega, rfl, by simp⟩, rfl, rfl, ?_, ?_, ?_⟩ ?_
    all_goals first | rfl | skip
    rintro m s ⟨i, ⟨h1, rfl, h3⟩, hL, hT, k0, k1, k5⟩
    obtain ⟨env, st0⟩ := s; obtain ⟨J, hJ⟩ := listJ hL; rw [show (List.range 26).map J = J 0 :: J 1 :: J 2 :: J 3 :: J 4 :: J 5 :: J 6 :: J 7 :: J 8 :: J 9 :: J 10 :: J 11 :: J 12 :: J 13 :: J 14 :: J 15 :: J 16 :: J 17 :: J 18 :: J 19 :: J 20 :: J 21 :: J 22 :: J 23 :: J 24 :: J 25 :: [] from by kernel_rfl] at hJ; replace k0 := Option.some.inj ((congrArg (·[0]?) hJ).symm.trans k0); replace k1 := Option.some.inj ((congrArg (·[1]?) hJ).symm.trans k1); replace k5 := Option.some.inj ((congrArg (·[5]?) hJ).symm.trans k5); rw [k0, k1, k5] at hJ; dsimp only at hJ hT; subst hJ; replace hT := hT.symm; subst hT; clear hL k0 k1 k5
    by_cases hb : i < a.length
    · by_cases c2 : a[i] = b[i]
      · (try refine go ⟨?_⟩)
        refine ⟨_, _, ?_, .refl _, i + 1, ⟨by omega, rfl, ?_⟩, rfl, rfl, ?_, ?_, ?_⟩
        · omega
        · rw [take_succ hb, take_succ (by omega), h3, c2]
        all_goals rfl
      · have : decide (a = b) = false := decide_eq_false fun h => c2 (by subst h; rfl)
        rw [this]
        (try refine go ⟨?_⟩)
        refine ⟨by first | exact .inr rfl | exact .inl rfl, .inl ⟨[], _, (by dsimp only [Tryd.f16]; exact sv), ?_, by simp⟩⟩
        rfl
    · rw [List.take_of_length_le (by omega), List.take_of_length_le (by omega)] at h3
      rw [decide_eq_true h3]
      (try refine go ⟨?_⟩)
      refine ⟨by first | exact .inr rfl | exact .inl rfl, .inl ⟨[], _, (by dsimp only [Tryd.f16]; exact sv), ?_, by simp⟩⟩
      rfl
  · have : decide (a = b) = false := decide_eq_false fun h => c1 (by rw [h])
    rw [this]
    (try refine go ⟨?_⟩)
    refine ⟨by first | exact .inr rfl | exact .inl rfl, .inl ⟨[], _, (by dsimp only [Tryd.f16]; exact sv), ?_, by simp⟩⟩
    rfl
end Go.Proofs.YtomameefmobnlaaDoor
namespace Go.Proofs.YtomameefmobnlaaDoor
open Go Go.RowKit

attribute [local irreducible] EvOps EvC
set_option linter.unusedSimpArgs false
set_option linter.unusedVariables false
set_option maxRecDepth 100000
set_option maxHeartbeats 1000000
theorem equalI_ev (a b : List Int) (ha : a.length < 9223372036854775808) (hb' : b.length < 9223372036854775808) (sto : Sto) (lo : Nat) (hlo : lo ≤ sto.length) : CallEv Tryd.prog tab B0 65 [.v (LI a), .v (LI b)] sto lo (.v (.bool (decide (a = b)))) sto := by
  refine CallEv.intro ⟨_, _, [], Tryd.func65, rfl, by decide, ?_⟩; simp only [go_sem, Tryd.ntmps65]
  by_cases c1 : a.length = b.length
  · (try refine go ⟨?_⟩)
    refine c_loop (fun m s => ∃ (i : Nat), (i ≤ a.length ∧ m = a.length - i ∧ a.take i = b.take i) ∧ (s.env.length = 26 ∧ s.sto = sto ∧ s.env[0]? = some (.v (LI a)) ∧ s.env[1]? = some (.v (LI b)) ∧ s.env[12]? = some (.v (VI a.length)) ∧ s.env[13]? = some (.v (VI i)))) (.refl _) ⟨0, ⟨by omega, rfl, by simp⟩, rfl, rfl, ?_, ?_, ?_, ?_⟩ ?_
    all_goals first | rfl | skip
    rintro m s ⟨i, ⟨h1, rfl, h3⟩, hL, hT, k0, k1, k12, k13⟩
    obtain ⟨env, st0⟩ := s; obtain ⟨J, hJ⟩ := listJ hL; rw [show (List.range 26).map J = J 0 :: J 1 :: J 2 :: J 3 :: J 4 :: J 5 :: J 6 :: J 7 :: J 8 :: J 9 :: J 10 :: J 11 :: J 12 :: J 13 :: J 14 :: J 15 :: J 16 :: J 17 :: J 18 :: J 19 :: J 20 :: J 21 :: J 22 :: J 23 :: J 24 :: J 25 :: [] from by kernel_rfl] at hJ; replace k0 := Option.some.inj ((congrArg (·[0]?) hJ).symm.trans k0); replace k1 := Option.some.inj ((congrArg (·[1]?) hJ).symm.trans k1); replace k12 := Option.some.inj ((congrArg (·[12]?) hJ).symm.trans k12); replace k13 := Option.some.inj ((congrArg (·[13]?) hJ).symm.trans k13); rw [k0, k1, k12, k13] at hJ; dsimp only at hJ hT; subst hJ; replace hT := hT.symm; subst hT; clear hL k0 k1 k12 k13
    by_cases hb : i < a.length
    · by_cases c2 : a[i] = b[i]
      · (try refine go ⟨?_⟩)
        refine ⟨_, _, ?_, .refl _, i + 1, ⟨by omega, rfl, ?_⟩, rfl, rfl, ?_, ?_, ?_, ?_⟩
        · omega
        · rw [take_succ hb, take_succ (by omega), h3, c2]
        all_goals rfl
      · have : decide (a = b) = false := decide_eq_false fun h => c2 (by subst h; rfl)
        rw [this]
        (try refine go ⟨?_⟩)
        refine ⟨by first | exact .inr rfl | exact .inl rfl, .inl ⟨[], _, (by dsimp only [Tryd.f65]; exact sv), ?_, by simp⟩⟩
        rfl
    · rw [List.take_of_length_le (by omega), List.take_of_length_le (by omega)] at h3
      rw [decide_eq_true h3]
      (try refine go ⟨?_⟩)
      refine ⟨by first | exact .inr rfl | exact .inl rfl, .inl ⟨[], _, (by dsimp only [Tryd.f65]; exact sv), ?_, by simp⟩⟩
      rfl
  · have : decide (a = b) = false := decide_eq_false fun h => c1 (by rw [h])
    rw [this]
    (try refine go ⟨?_⟩)
    refine ⟨by first | exact .inr rfl | exact .inl rfl, .inl ⟨[], _, (by dsimp only [Tryd.f65]; exact sv), ?_, by simp⟩⟩
    rfl
end Go.Proofs.YtomameefmobnlaaDoor
namespace Go.Proofs.YtomameefmobnlaaDoor
open Go
theorem agr0 {sto l l' : Sto} (h : l'.length = l.length) : (sto ++ l').length = (sto ++ l).length ∧ ∀ i, i < sto.length → (sto ++ l')[i]? = (sto ++ l)[i]? :=
  ⟨by simp [h], fun i hi => by rw [List.getElem?_append_left hi, List.getElem?_append_left hi]⟩
theorem agr_pre {sto p l l' : Sto} {k : Nat} (hk : p.length = k) (h : l'.length = l.length) : (sto ++ (p ++ l')).length = (sto ++ (p ++ l)).length ∧ ∀ i, i < sto.length + k → (sto ++ (p ++ l'))[i]? = (sto ++ (p ++ l))[i]? := by
  rw [← List.append_assoc, ← List.append_assoc]
  have := agr0 (sto := sto ++ p) h
  exact ⟨this.1, fun i hi => this.2 i (by rw [List.length_append, hk]; exact hi)⟩
theorem agr1 {sto l l' : Sto} {a : Ent} (h : l'.length = l.length) : (sto ++ a :: l').length = (sto ++ a :: l).length ∧ ∀ i, i < sto.length + 1 → (sto ++ a :: l')[i]? = (sto ++ a :: l)[i]? := agr_pre (p := [a]) rfl h
theorem agr2 {sto l l' : Sto} {a b : Ent} (h : l'.length = l.length) : (sto ++ a :: b :: l').length = (sto ++ a :: b :: l).length ∧ ∀ i, i < sto.length + 2 → (sto ++ a :: b :: l')[i]? = (sto ++ a :: b :: l)[i]? := agr_pre (p := [a, b]) rfl h
theorem agr3 {sto l l' : Sto} {a b c : Ent} (h : l'.length = l.length) : (sto ++ a :: b :: c :: l').length = (sto ++ a :: b :: c :: l).length ∧ ∀ i, i < sto.length + 3 → (sto ++ a :: b :: c :: l')[i]? = (sto ++ a :: b :: c :: l)[i]? := agr_pre (p := [a, b, c]) rfl h
end Go.Proofs.YtomameefmobnlaaDoor
namespace Go.Proofs.YtomameefmobnlaaDoor
open Go
/-- A node: kind, N, M, kids. -/
inductive Tr where
  | mk (k n m : Int) (kids : List Tr)
def Tr.k : Tr → Int | .mk k _ _ _ => k
def Tr.n : Tr → Int | .mk _ n _ _ => n
def Tr.m : Tr → Int | .mk _ _ m _ => m
def Tr.kids : Tr → List Tr | .mk _ _ _ l => l
mutual
def cellsT : Tr → List V
  | .mk k n m l => [VI k, VI n, VI m, .sl l.length (cellsTs l)]
def cellsTs : List Tr → List V
  | [] => []
  | t :: l => cellsT t ++ cellsTs l
end
abbrev TV (t : Tr) : V := .agg (cellsT t)
attribute [go_sem] cellsT
mutual
def tsz : Tr → Nat
  | .mk _ _ _ l => 1 + tszs l
def tszs : List Tr → Nat
  | [] => 0
  | t :: l => tsz t + tszs l
end
theorem tsz_pos : ∀ t : Tr, 0 < tsz t
  | .mk _ _ _ _ => by rw [tsz]; omega
theorem tsz_get : ∀ {l : List Tr} {i : Nat} (h : i < l.length), tsz l[i] ≤ tszs l
  | t :: l, 0, _ => by simp only [tszs, List.getElem_cons_zero]; omega
  | t :: l, i + 1, h => by
    have := tsz_get (l := l) (i := i) (by simpa using h)
    simp only [tszs, List.getElem_cons_succ]; omega
theorem tszs_length : ∀ l : List Tr, l.length ≤ tszs l
  | [] => by simp [tszs]
  | t :: l => by have := tszs_length l; have := tsz_pos t; simp only [tszs, List.length_cons]; omega
theorem cellsT_length (t : Tr) : (cellsT t).length = 4 := by cases t; rfl
@[go_sem] theorem cellsTs_length : ∀ l : List Tr, (cellsTs l).length = l.length * 4
  | [] => rfl
  | t :: l => by rw [cellsTs, List.length_append, cellsT_length, cellsTs_length l, List.length_cons]; omega
@[go_sem] theorem cellsTs_at : ∀ {l : List Tr} {i : Nat} (h : i < l.length), ((cellsTs l).drop (i * 4)).take 4 = cellsT l[i]
  | .mk k n m kids :: l, 0, _ => by simp [cellsTs, cellsT]
  | .mk k n m kids :: l, i + 1, h => by
    have := cellsTs_at (l := l) (i := i) (by simpa using h)
    simp only [cellsTs, List.getElem_cons_succ]
    rw [← this, show (i + 1) * 4 = i * 4 + 1 + 1 + 1 + 1 from by omega]
    simp [cellsT]
theorem cellsTs_append (a b : List Tr) : cellsTs (a ++ b) = cellsTs a ++ cellsTs b := by
  induction a with
  | nil => rfl
  | cons x a ih => rw [List.cons_append, cellsTs, cellsTs, ih, List.append_assoc]
/-- The word of a number. -/
def wrapS (n : Int) : Int := if n.tmod 16 < -8 then n.tmod 16 + 16 else if n.tmod 16 > 7 then n.tmod 16 - 16 else n.tmod 16
theorem wrapS_range (n : Int) : -8 ≤ wrapS n ∧ wrapS n ≤ 7 := by
  unfold wrapS
  have h1 := Int.lt_tmod_of_pos n (b := 16) (by omega)
  have h2 := Int.tmod_lt_of_pos n (b := 16) (by omega)
  (repeat' split) <;> omega
theorem wrapS_eq (n : Int) : wrapS n = (n + 8) % 16 - 8 := by
  unfold wrapS
  by_cases h : 0 ≤ n
  · rw [Int.tmod_eq_emod_of_nonneg h]; (repeat' split) <;> omega
  · obtain ⟨m, rfl⟩ : ∃ m, n = -m := ⟨-n, by omega⟩
    rw [Int.neg_tmod, Int.tmod_eq_emod_of_nonneg (by omega)]; (repeat' split) <;> omega
theorem wrapS_id {n : Int} (h1 : -8 ≤ n) (h2 : n ≤ 7) : wrapS n = n := by rw [wrapS_eq]; omega
/-- The bits of a word. -/
def bitsW (w : Int) : Nat := ((wrapS w + 16) % 16).toNat
/-- What an operation yields for words. -/
def opW (op a b : Int) : Int :=
  if op = 0 then wrapS (a + b) else if op = 1 then wrapS (a - b) else if op = 2 then wrapS (a * b)
  else if op = 3 then (if b = 0 then 0 else wrapS (a.tdiv b)) else if op = 4 then (if b = 0 then 0 else wrapS (a.tmod b))
  else if op = 5 then wrapS ((bitsW a &&& bitsW b : Nat) : Int) else if op = 6 then wrapS ((bitsW a ||| bitsW b : Nat) : Int) else if op = 7 then wrapS ((bitsW a ^^^ bitsW b : Nat) : Int)
  else if op = 8 then wrapS (a * ((2 ^ (bitsW b % 4) : Nat) : Int)) else if op = 9 then wrapS (a.fdiv ((2 ^ (bitsW b % 4) : Nat) : Int))
  else if op = 10 then (if a < b then 1 else 0) else if op = 11 then (if a = b then 1 else 0)
  else if op = 12 then (if a ≠ 0 ∧ b ≠ 0 then 1 else 0) else if op = 13 then (if a ≠ 0 ∨ b ≠ 0 then 1 else 0) else 0
def Wd (v : Int) : Prop := -8 ≤ v ∧ v ≤ 7
theorem wd_ite {c : Prop} [Decidable c] {x y : Int} (hx : Wd x) (hy : Wd y) : Wd (if c then x else y) := by
  split
  · exact hx
  · exact hy
theorem opW_range (op a b : Int) : -8 ≤ opW op a b ∧ opW op a b ≤ 7 := by
  have h0 : Wd 0 := ⟨by omega, by omega⟩
  have h1 : Wd 1 := ⟨by omega, by omega⟩
  have hw : ∀ x, Wd (wrapS x) := wrapS_range
  show Wd _
  unfold opW
  repeat' first | exact hw _ | exact h0 | exact h1 | apply wd_ite
theorem opW_truth {op a b : Int} (h1 : 10 ≤ op) (h2 : op ≤ 13) : opW op a b = 0 ∨ opW op a b = 1 := by
  unfold opW
  rw [if_neg (by omega), if_neg (by omega), if_neg (by omega), if_neg (by omega), if_neg (by omega), if_neg (by omega), if_neg (by omega), if_neg (by omega), if_neg (by omega), if_neg (by omega)]
  repeat' split
  all_goals omega
/-- The type that a node says it has. -/
def typeR : Tr → Int
  | .mk k n m kids =>
    if k = 4 then 0 else if k = 5 then 1 else if k = 6 then m else if k = 9 then (if n ≥ 10 then 1 else 0) else if k = 10 then 1
    else if k = 29 then (match kids with | [_, a, _] => typeR a | _ => -1) else -1
/-- Terms, by type: 0 of words, 1 of truth values. -/
inductive Wt : Int → Tr → Prop where
  | num {n : Int} (h1 : -8 ≤ n) (h2 : n ≤ 7) : Wt 0 (.mk 4 n 0 [])
  | truth {n : Int} (h1 : 0 ≤ n) (h2 : n ≤ 1) : Wt 1 (.mk 5 n 0 [])
  | var {n m : Int} (h1 : 0 ≤ n) (h2 : n ≤ 63) (h3 : m = 0 ∨ m = 1) : Wt m (.mk 6 n m [])
  | word {op : Int} {a b : Tr} (h1 : 0 ≤ op) (h2 : op ≤ 9) (ha : Wt 0 a) (hb : Wt 0 b) : Wt 0 (.mk 9 op 0 [a, b])
  | comp {op : Int} {a b : Tr} (h1 : 10 ≤ op) (h2 : op ≤ 11) (ha : Wt 0 a) (hb : Wt 0 b) : Wt 1 (.mk 9 op 0 [a, b])
  | both {op : Int} {a b : Tr} (h1 : 12 ≤ op) (h2 : op ≤ 13) (ha : Wt 1 a) (hb : Wt 1 b) : Wt 1 (.mk 9 op 0 [a, b])
  | not {a : Tr} (ha : Wt 1 a) : Wt 1 (.mk 10 0 0 [a])
  | cond {k : Int} {c a b : Tr} (hc : Wt 1 c) (ha : Wt k a) (hb : Wt k b) : Wt k (.mk 29 0 0 [c, a, b])
theorem Wt.kind {k : Int} {t : Tr} (h : Wt k t) : k = 0 ∨ k = 1 := by
  induction h with
  | num => exact .inl rfl
  | truth => exact .inr rfl
  | var _ _ h => exact h
  | word => exact .inl rfl
  | comp => exact .inr rfl
  | both => exact .inr rfl
  | not => exact .inr rfl
  | cond _ _ _ _ ih _ => exact ih
theorem Wt.type {k : Int} {t : Tr} (h : Wt k t) : typeR t = k := by
  induction h with
  | num => rfl
  | truth => rfl
  | var => rfl
  | word h1 h2 =>
    rename_i op a b _ _ _ _
    have e : typeR (.mk 9 op 0 [a, b]) = if op ≥ 10 then 1 else 0 := by simp [typeR]
    rw [e, if_neg (by omega)]
  | comp h1 h2 =>
    rename_i op a b _ _ _ _
    have e : typeR (.mk 9 op 0 [a, b]) = if op ≥ 10 then 1 else 0 := by simp [typeR]
    rw [e, if_pos (by omega)]
  | both h1 h2 =>
    rename_i op a b _ _ _ _
    have e : typeR (.mk 9 op 0 [a, b]) = if op ≥ 10 then 1 else 0 := by simp [typeR]
    rw [e, if_pos (by omega)]
  | not => rfl
  | cond _ _ _ _ ih _ => simp only [typeR]; exact ih
/-- The value of a variable. -/
def valAt (vals : List Int) (n m : Int) : Int := if m = 1 then (if vals.getD n.toNat 0 ≠ 0 then 1 else 0) else wrapS (vals.getD n.toNat 0)
/-- The value, as the reference has it. -/
def evalS (vals : List Int) : Tr → Int
  | .mk k n m kids =>
    if k = 6 then valAt vals n m
    else if k = 9 then (match kids with | a :: b :: _ => opW n (wrapS (evalS vals a)) (wrapS (evalS vals b)) | _ => 0)
    else if k = 10 then (match kids with | a :: _ => if evalS vals a = 1 then 0 else 1 | _ => 0)
    else if k = 29 then (match kids with | c :: a :: b :: _ => if evalS vals c = 1 then evalS vals a else evalS vals b | _ => 0)
    else n
theorem eval_range {k : Int} {t : Tr} (h : Wt k t) (vals : List Int) : -8 ≤ evalS vals t ∧ evalS vals t ≤ 7 ∧ (k = 1 → evalS vals t = 0 ∨ evalS vals t = 1) := by
  induction h with
  | num h1 h2 => exact ⟨h1, h2, fun h => by omega⟩
  | truth h1 h2 => refine ⟨?_, ?_, fun _ => ?_⟩ <;> (show _; simp only [evalS]; simp; omega)
  | var h1 h2 h3 =>
    rename_i n m
    have e : evalS vals (.mk 6 n m []) = valAt vals n m := rfl
    rw [e, valAt]
    have := wrapS_range (vals.getD n.toNat 0)
    by_cases hm : m = 1
    · rw [if_pos hm]; refine ⟨?_, ?_, fun _ => ?_⟩ <;> split <;> omega
    · rw [if_neg hm]; exact ⟨this.1, this.2, fun h => absurd h hm⟩
  | word h1 h2 ha hb iha ihb =>
    rename_i op a b
    have e : evalS vals (.mk 9 op 0 [a, b]) = opW op (wrapS (evalS vals a)) (wrapS (evalS vals b)) := by rw [evalS]; rfl
    rw [e]
    have := opW_range op (wrapS (evalS vals a)) (wrapS (evalS vals b))
    exact ⟨this.1, this.2, fun h => by omega⟩
  | comp h1 h2 ha hb iha ihb =>
    rename_i op a b
    have e : evalS vals (.mk 9 op 0 [a, b]) = opW op (wrapS (evalS vals a)) (wrapS (evalS vals b)) := by rw [evalS]; rfl
    rw [e]
    have := opW_range op (wrapS (evalS vals a)) (wrapS (evalS vals b))
    exact ⟨this.1, this.2, fun _ => opW_truth h1 (by omega)⟩
  | both h1 h2 ha hb iha ihb =>
    rename_i op a b
    have e : evalS vals (.mk 9 op 0 [a, b]) = opW op (wrapS (evalS vals a)) (wrapS (evalS vals b)) := by rw [evalS]; rfl
    rw [e]
    have := opW_range op (wrapS (evalS vals a)) (wrapS (evalS vals b))
    exact ⟨this.1, this.2, fun _ => opW_truth (by omega) h2⟩
  | not ha ih =>
    rename_i a
    have e : evalS vals (.mk 10 0 0 [a]) = if evalS vals a = 1 then 0 else 1 := by simp [evalS]
    rw [e]
    refine ⟨?_, ?_, fun _ => ?_⟩ <;> split <;> omega
  | cond hc ha hb ihc iha ihb =>
    rename_i k c a b
    have e : evalS vals (.mk 29 0 0 [c, a, b]) = if evalS vals c = 1 then evalS vals a else evalS vals b := by rw [evalS]; rfl
    rw [e]
    split
    · exact iha
    · exact ihb
end Go.Proofs.YtomameefmobnlaaDoor
namespace Go.Proofs.YtomameefmobnlaaDoor
open Go
abbrev MS := Tr × Int × Int
def leafS (l : List Int) (kind a f : Int) : MS :=
  if atS l (a + 1) 4 > 0 then (.mk 6 (2 * kind + atS l (a + 2) 2) kind [], a + 3, f - 1)
  else if kind = 1 then (.mk 5 (atS l (a + 2) 2) 0 [], a + 3, f - 1)
  else (.mk 4 (atS l (a + 2) 16 - 8) 0 [], a + 3, f - 1)
/-- What Make makes: the term, and the maker's numbers behind it. -/
def makeS (l : List Int) : Nat → Int → Int → Int → MS
  | 0, kind, a, f => leafS l kind a f
  | d + 1, kind, a, f =>
    if f - 1 < 3 ∨ atS l a 10 < 2 then leafS l kind a f
    else if atS l a 10 = 2 then
      (.mk 29 0 0 [(makeS l d 1 (a + 1) (f - 1)).1, (makeS l d kind (makeS l d 1 (a + 1) (f - 1)).2.1 (makeS l d 1 (a + 1) (f - 1)).2.2).1,
        (makeS l d kind (makeS l d kind (makeS l d 1 (a + 1) (f - 1)).2.1 (makeS l d 1 (a + 1) (f - 1)).2.2).2.1 (makeS l d kind (makeS l d 1 (a + 1) (f - 1)).2.1 (makeS l d 1 (a + 1) (f - 1)).2.2).2.2).1],
        (makeS l d kind (makeS l d kind (makeS l d 1 (a + 1) (f - 1)).2.1 (makeS l d 1 (a + 1) (f - 1)).2.2).2.1 (makeS l d kind (makeS l d 1 (a + 1) (f - 1)).2.1 (makeS l d 1 (a + 1) (f - 1)).2.2).2.2).2)
    else if kind = 1 ∧ atS l a 10 = 3 then (.mk 10 0 0 [(makeS l d 1 (a + 1) (f - 1)).1], (makeS l d 1 (a + 1) (f - 1)).2)
    else if kind = 1 then
      (.mk 9 (10 + atS l (a + 2) 4) 0 [(makeS l d (if atS l (a + 2) 4 ≥ 2 then 1 else 0) (a + 3) (f - 1)).1,
        (makeS l d (if atS l (a + 2) 4 ≥ 2 then 1 else 0) (makeS l d (if atS l (a + 2) 4 ≥ 2 then 1 else 0) (a + 3) (f - 1)).2.1 (makeS l d (if atS l (a + 2) 4 ≥ 2 then 1 else 0) (a + 3) (f - 1)).2.2).1],
        (makeS l d (if atS l (a + 2) 4 ≥ 2 then 1 else 0) (makeS l d (if atS l (a + 2) 4 ≥ 2 then 1 else 0) (a + 3) (f - 1)).2.1 (makeS l d (if atS l (a + 2) 4 ≥ 2 then 1 else 0) (a + 3) (f - 1)).2.2).2)
    else
      (.mk 9 (atS l (a + 1) 10) 0 [(makeS l d 0 (a + 2) (f - 1)).1, (makeS l d 0 (makeS l d 0 (a + 2) (f - 1)).2.1 (makeS l d 0 (a + 2) (f - 1)).2.2).1],
        (makeS l d 0 (makeS l d 0 (a + 2) (f - 1)).2.1 (makeS l d 0 (a + 2) (f - 1)).2.2).2)
/-- So many nodes at most. -/
def bdT : Nat → Nat
  | 0 => 1
  | d + 1 => 1 + 3 * bdT d
/-- What is known of what was made. -/
def Made (d : Nat) (kind a f : Int) (r : MS) : Prop :=
  Wt kind r.1 ∧ tsz r.1 ≤ bdT d ∧ a ≤ r.2.1 ∧ r.2.1 ≤ a + 4 * bdT d ∧ f - bdT d ≤ r.2.2 ∧ r.2.2 ≤ f
theorem leaf_made (l : List Int) (d : Nat) {kind : Int} (hk : kind = 0 ∨ kind = 1) (a f : Int) : Made d kind a f (leafS l kind a f) := by
  have hb : 1 ≤ bdT d := by cases d <;> simp only [bdT] <;> omega
  have h1 := atS_bound (l := l) (i := a + 2) (most := 2) (by omega)
  have h2 := atS_bound (l := l) (i := a + 2) (most := 16) (by omega)
  unfold leafS
  split
  · exact ⟨.var (by omega) (by omega) hk, by simpa [tsz, tszs] using hb, by show a ≤ a + 3; omega, by show a + 3 ≤ _; omega, by show _ ≤ f - 1; omega, by show f - 1 ≤ f; omega⟩
  · split
    · rename_i h
      subst h
      exact ⟨.truth h1.1 (by omega), by simpa [tsz, tszs] using hb, by show a ≤ a + 3; omega, by show a + 3 ≤ _; omega, by show _ ≤ f - 1; omega, by show f - 1 ≤ f; omega⟩
    · obtain rfl : kind = 0 := by omega
      exact ⟨.num (by omega) (by omega), by simpa [tsz, tszs] using hb, by show a ≤ a + 3; omega, by show a + 3 ≤ _; omega, by show _ ≤ f - 1; omega, by show f - 1 ≤ f; omega⟩
theorem make_made (l : List Int) : ∀ (d : Nat) {kind : Int} (_ : kind = 0 ∨ kind = 1) (a f : Int), Made d kind a f (makeS l d kind a f)
  | 0, kind, hk, a, f => leaf_made l 0 hk a f
  | d + 1, kind, hk, a, f => by
    have ih := fun {kind : Int} (hk : kind = 0 ∨ kind = 1) a f => make_made l d hk a f
    rw [makeS]
    have hb : bdT (d + 1) = 1 + 3 * bdT d := rfl
    split
    · exact leaf_made l _ hk a f
    split
    · obtain ⟨c1, c2, c3, c4, c5, c6⟩ := ih (.inr rfl) (a + 1) (f - 1)
      generalize makeS l d 1 (a + 1) (f - 1) = c at *
      obtain ⟨x1, x2, x3, x4, x5, x6⟩ := ih hk c.2.1 c.2.2
      generalize makeS l d kind c.2.1 c.2.2 = x at *
      obtain ⟨y1, y2, y3, y4, y5, y6⟩ := ih hk x.2.1 x.2.2
      generalize makeS l d kind x.2.1 x.2.2 = y at *
      exact ⟨.cond c1 x1 y1, by simp only [tsz, tszs]; omega, by show a ≤ y.2.1; omega, by show y.2.1 ≤ _; omega, by show _ ≤ y.2.2; omega, by show y.2.2 ≤ f; omega⟩
    split
    · rename_i h
      obtain ⟨rfl, _⟩ := h
      obtain ⟨c1, c2, c3, c4, c5, c6⟩ := ih (.inr rfl) (a + 1) (f - 1)
      generalize makeS l d 1 (a + 1) (f - 1) = c at *
      exact ⟨.not c1, by simp only [tsz, tszs]; omega, by show a ≤ c.2.1; omega, by show c.2.1 ≤ _; omega, by show _ ≤ c.2.2; omega, by show c.2.2 ≤ f; omega⟩
    split
    · rename_i h
      subst h
      have h4 := atS_bound (l := l) (i := a + 2) (most := 4) (by omega)
      by_cases h2 : atS l (a + 2) 4 ≥ 2
      · rw [if_pos h2]
        obtain ⟨c1, c2, c3, c4, c5, c6⟩ := ih (.inr rfl) (a + 3) (f - 1)
        generalize makeS l d 1 (a + 3) (f - 1) = c at *
        obtain ⟨x1, x2, x3, x4, x5, x6⟩ := ih (.inr rfl) c.2.1 c.2.2
        generalize makeS l d 1 c.2.1 c.2.2 = x at *
        exact ⟨.both (by omega) (by omega) c1 x1, by simp only [tsz, tszs]; omega, by show a ≤ x.2.1; omega, by show x.2.1 ≤ _; omega, by show _ ≤ x.2.2; omega, by show x.2.2 ≤ f; omega⟩
      · rw [if_neg h2]
        obtain ⟨c1, c2, c3, c4, c5, c6⟩ := ih (.inl rfl) (a + 3) (f - 1)
        generalize makeS l d 0 (a + 3) (f - 1) = c at *
        obtain ⟨x1, x2, x3, x4, x5, x6⟩ := ih (.inl rfl) c.2.1 c.2.2
        generalize makeS l d 0 c.2.1 c.2.2 = x at *
        exact ⟨.comp (by omega) (by omega) c1 x1, by simp only [tsz, tszs]; omega, by show a ≤ x.2.1; omega, by show x.2.1 ≤ _; omega, by show _ ≤ x.2.2; omega, by show x.2.2 ≤ f; omega⟩
    · obtain rfl : kind = 0 := by omega
      have h4 := atS_bound (l := l) (i := a + 1) (most := 10) (by omega)
      obtain ⟨c1, c2, c3, c4, c5, c6⟩ := ih (.inl rfl) (a + 2) (f - 1)
      generalize makeS l d 0 (a + 2) (f - 1) = c at *
      obtain ⟨x1, x2, x3, x4, x5, x6⟩ := ih (.inl rfl) c.2.1 c.2.2
      generalize makeS l d 0 c.2.1 c.2.2 = x at *
      exact ⟨.word h4.1 (by omega) c1 x1, by simp only [tsz, tszs]; omega, by show a ≤ x.2.1; omega, by show x.2.1 ≤ _; omega, by show _ ≤ x.2.2; omega, by show x.2.2 ≤ f; omega⟩
def termS (l : List Int) (kind : Int) : Tr := (makeS l 4 (aroundS kind 2) 0 14).1
theorem term_ok (l : List Int) (kind : Int) : Wt (aroundS kind 2) (termS l kind) ∧ tsz (termS l kind) ≤ 121 := by
  have h := aroundS_bound (n := kind) (most := 2) (by omega)
  obtain ⟨h1, h2, _⟩ := make_made l 4 (kind := aroundS kind 2) (by omega) 0 14
  exact ⟨h1, h2⟩
def valuesS (n : Int) : List Int := [(aroundS n 1024).tmod 16 - 8, ((aroundS n 1024).tdiv 16).tmod 16 - 8, ((aroundS n 1024).tdiv 256).tmod 2, (aroundS n 1024).tdiv 512]
end Go.Proofs.YtomameefmobnlaaDoor
