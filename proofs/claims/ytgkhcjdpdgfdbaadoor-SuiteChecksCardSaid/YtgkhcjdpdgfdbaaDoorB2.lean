/-
  One operation of the evaluator is one of the model's; regions in the order of the text. No condition of its own. Regions that draw their order: whatever order the tape picks, they come to what the order of the text comes to. No condition of its own. Regions that draw their order: the walk of all orders. No condition of its own. Code in the evaluator is code in the model: sequences, branches, blocks, loops; calls. No condition of its own. The evaluator is right: what it says of a call holds of the model's run. No condition of its own. The table of the types of this program, for the evaluator. No condition of its own. The rules by which a walk goes through code in the evaluator. No condition of its own. Plain data's names and small laws for walks in the evaluator. No condition of its own. Rules for walks that part by themselves. No condition of its own. Cuts: what is known of the state takes the state's place. No condition of its own. The walk's tactics, each laid into a hypothesis that it proves itself, so that a text only names it. No condition of its own. Library functions on lists of numbers, on plain data: Index, Contains, Compare, MinFunc. No condition of its own. Library functions on plain data: IndexFunc, ContainsFunc. No condition of its own. Library functions on plain data: IndexFunc, ContainsFunc at int. No condition of its own. Library functions on plain data: IndexFunc, ContainsFunc at uint. No condition of its own. Sorted lists of numbers: plain facts. No condition of its own. The library's sort at uint, of at most twelve elements, on plain data. No condition of its own. slices.AppendSeq(nil, slices.Values(s)), for slices of one-cell elements: the same elements in a slice of the call's own. No condition of its own.
-/
import Derived.Test.YtgkhcjdpdgfdbaaDoorB1
import Derived.Test.YtgkhcjdpdgfdbaaDoorProg
import Derived.RangeFuncGives
import Derived.RangeFuncBox
import Derived.RangeFuncLeaves
import Derived.Maps.AppendAt
import Derived.Shelf.Abstract
import Derived.WalkKit
import Derived.OwnWalkIn
import Derived.TacticsInMore
import Derived.LoopNIn
import Derived.LoopIn
namespace Go.Proofs.YtgkhcjdpdgfdbaaDoor
open Go Go.RowKit

/-- What the evaluator says of a call, said of the model's. -/
def CallOK (P : Program) : CallP := fun f args sto lo r sto' =>
  callable P f = true ∧ ∀ S gh w vals, lo ≤ sto.length → SR S gh w sto → GlobOK S w → Pw (RepD S gh sto w) vals args →
    Calls P f vals.toArray w fun e w' => ∃ v S' gh', e = .returned v ∧ RepD S' gh' sto' w' v r ∧ SR S' gh' w' sto' ∧ Fr sto.length lo S gh w sto S' gh' w' sto' ∧ sto.length ≤ sto'.length
section
variable {P : Program} {T : Tab} {S : Stay} {gh : List Value} {w : World} {a : Act} {st : St} {n0 lo : Nat} {wt : List Tmp} {draw : Bool} {ops : Array Oper}
theorem RS.put {S' : Stay} {gh' : List Value} {w' : World} {sto' : Sto} (h : RS S gh w a st) (hs : SR S' gh' w' sto') (hf : Fr st.sto.length lo S gh w st.sto S' gh' w' sto') {v : Value} {d : D} (hd : RepD S' gh' sto' w' v d) (dst : Option Tmp) : RS S' gh' w' (a.put dst v) (St.put { st with sto := sto' } dst d) := by
  have henv : ∀ (t : Nat) (u : Value) (e : D), a.tmps.toList[t]? = some u → st.env[t]? = some e → RepD S' gh' sto' w' u e := fun t u e hu he => RepD.mono h.sto hf (h.env t u e hu he)
  cases dst with
  | none => exact ⟨h.size, henv, hs, h.defers, h.glob.mono hf.stable⟩
  | some t =>
    refine ⟨?_, fun t' u e hu he => ?_, hs, h.defers, h.glob.mono hf.stable⟩
    · simp only [Act.put, St.put, Array.toList_setIfInBounds, List.length_set]; exact h.size
    · simp only [Act.put, St.put, Array.toList_setIfInBounds] at hu he
      rcases Nat.decEq t t' with hne | heq
      · rw [List.getElem?_set_ne hne] at hu he
        exact henv t' u e hu he
      · subst heq
        have h1 : t < a.tmps.toList.length := by have := (List.getElem?_eq_some_iff.1 hu).1; simpa using this
        rw [List.getElem?_set_self h1] at hu
        rw [List.getElem?_set_self (by rw [← h.size]; exact h1)] at he
        cases hu; cases he
        exact hd
theorem RS.opd (h : RS S gh w a st) (x : Operand) : RepD S gh st.sto w (a.eval x) (opd st.env x) := opd_rep h.glob h.size h.env x
theorem guard_sound (h : RS S gh w a st) {o : Oper} {b : Bool} (hg : guardD ops o st.env = some b) : Region.wanted o (yielded ops a.tmps) = b := by
  unfold guardD at hg
  unfold Region.wanted
  split at hg
  · rename_i h0
    simp only [h0]
    simpa using hg
  · rename_i j want h0
    simp only [h0]
    split at hg
    · rename_i hd
      simp only [Option.some.injEq] at hg
      subst hg
      simp [yielded, hd]
    · rename_i d hd
      have key : ∀ v, a.tmps[d]? = some v ↔ a.tmps.toList[d]? = some v := fun v => by rw [Array.getElem?_toList]
      split at hg
      · rename_i he
        simp only [Option.some.injEq] at hg
        subst hg
        have : a.tmps[d]? = none := by
          rw [← Array.getElem?_toList, List.getElem?_eq_none_iff]
          rw [List.getElem?_eq_none_iff] at he
          rw [h.size]; exact he
        simp [yielded, hd, this]
      · rename_i b' he
        simp only [Option.some.injEq] at hg
        subst hg
        have hlt : d < a.tmps.toList.length := by rw [h.size]; exact (List.getElem?_eq_some_iff.1 he).1
        have hv := List.getElem?_eq_getElem hlt
        have hr := h.env d _ _ hv he
        have hb := RepV.bool_inv hr
        rw [hb] at hv
        have hv' : a.tmps[d]? = some (.bool b') := (key _).2 hv
        simp only [yielded, hd, Option.bind_some, hv']
        cases b' <;> cases want <;> rfl
      · rename_i he
        simp only [Option.some.injEq] at hg
        subst hg
        have hlt : d < a.tmps.toList.length := by rw [h.size]; exact (List.getElem?_eq_some_iff.1 he).1
        have hv := List.getElem?_eq_getElem hlt
        have hr : a.tmps.toList[d] = undef := h.env d _ _ hv he
        rw [hr] at hv
        have hv' : a.tmps[d]? = some undef := (key _).2 hv
        simp [yielded, hd, hv', undef]
      · cases hg
theorem argD_sound {sto : Sto} (hs : SR S gh w sto) {v : Value} {d d' : D} (h : RepD S gh sto w v d) (ha : argD sto d = some d') : RepD S gh sto w v d' := by
  unfold argD at ha
  split at ha
  · simp only [Option.some.injEq] at ha; subst ha; exact h
  · simp only [Option.some.injEq] at ha; subst ha; exact h
  · simp only [Option.some.injEq] at ha; subst ha; exact h
  · simp only [Option.some.injEq] at ha; subst ha; exact h
  · simp only [Option.some.injEq] at ha; subst ha; exact h
  · simp only [Option.some.injEq] at ha; subst ha; exact h
  · simp only [Option.some.injEq] at ha; subst ha; exact h
  · simp only [Option.some.injEq] at ha; subst ha; exact h
  · simp only [Option.some.injEq] at ha; subst ha; exact h
  · rename_i id n
    split at ha
    · split at ha
      · simp only [Option.some.injEq] at ha; subst ha; exact h
      · cases ha
    · cases hv : view sto (.arr id n) with
      | none => rw [hv] at ha; cases ha
      | some x =>
        rw [hv] at ha
        simp only [Option.map_some, Option.some.injEq] at ha
        subst ha
        exact view_rep hs h hv
  · cases hv : view sto d with
    | none => rw [hv] at ha; cases ha
    | some x =>
      rw [hv] at ha
      simp only [Option.map_some, Option.some.injEq] at ha
      subst ha
      exact view_rep hs h hv
theorem argsD_sound {sto : Sto} (hs : SR S gh w sto) : ∀ (vs : List Value) (ds ds' : List D), Pw (RepD S gh sto w) vs ds → argsD sto ds = some ds' → Pw (RepD S gh sto w) vs ds'
  | [], [], ds', _, h => by simp only [argsD, Option.some.injEq] at h; subst h; exact Pw.nil
  | [], _ :: _, _, h, _ => by have := h.1; simp at this
  | _ :: _, [], _, h, _ => by have := h.1; simp at this
  | v :: vs, d :: ds, ds', hp, h => by
    simp only [argsD] at h
    split at h
    · rename_i x xs h1 h2
      simp only [Option.some.injEq] at h
      subst h
      exact Pw.cons (argD_sound hs (hp.2 0 v d rfl rfl) h1) (argsD_sound hs vs ds xs (by have := hp.drop 1; simpa using this) h2)
    · cases h
theorem evCallee_sound {sto : Sto} (hs : SR S gh w sto) {e : Operand → Value} {ρ : Operand → D} (hρ : ∀ x, RepD S gh sto w (e x) (ρ x)) {o : Oper} {f : FuncId} {args : List D} (h : evCallee ρ sto o = some (f, args)) (hc : callable P f = true) :
    ∃ vals : List Value, (execOp e o).run P w = .ok (.enter f vals.toArray) w ∧ Pw (RepD S gh sto w) vals args := by
  unfold evCallee at h
  split at h
  · rename_i c hop
    have go : ∀ (f0 : Operand), c.callee = .value f0 → ∀ (fid : FuncId) (vs : List Value), e f0 = .func (.func fid) #[] vs.toArray → ∀ (l : List D), argsD sto (c.args.toList.map ρ) = some l → ∀ (ds : List D), Pw (RepD S gh sto w) vs ds → callable P fid = true →
        ∃ vals : List Value, (execOp e o).run P w = .ok (.enter fid vals.toArray) w ∧ Pw (RepD S gh sto w) vals (l ++ ds) := by
      intro f0 hcal fid vs hv l hl ds hds hc
      have ha := argsD_sound hs _ _ _ (argsRep hρ c.args.toList) hl
      refine ⟨c.args.toList.map e ++ vs, ?_, ha.append hds⟩
      have hcal' : (callFunc fid ((c.args.map e) ++ vs.toArray)).run P w = .ok (.enter fid ((c.args.map e) ++ vs.toArray)) w := by
        unfold callable at hc
        split at hc
        · rename_i fn hfn
          simp only [Bool.and_eq_true, bne_iff_ne, ne_eq] at hc
          obtain ⟨b1, b2⟩ := hc
          cases hb : fn.body with
          | none => rw [hb] at b1; cases b1
          | some body => simp [callFunc, hfn, b2, hb]
        · cases hc
      unfold execOp
      simp only [hop, resolve, hcal, hv, Deferred.ofValue, Sem.run_bind, Sem.run_pure, Result.andThen_ok, invoke, Array.empty_append, hcal']
      congr 3
      apply Array.ext'
      simp
    split at h
    · rename_i f0 hcal
      split at h
      · rename_i fid caps hf
        cases hl : argsD sto (c.args.toList.map ρ) with
        | none => rw [hl] at h; cases h
        | some l =>
          rw [hl] at h
          simp only [Option.map_some, Option.some.injEq, Prod.mk.injEq] at h
          obtain ⟨rfl, rfl⟩ := h
          have h0 := hρ f0
          rw [hf] at h0
          obtain ⟨vs, hv, h1, h2⟩ := h0
          exact go f0 hcal fid vs hv l hl (caps.map (.ptr · 0)) ⟨by simp [h1], fun j u d hu hd => by
            rw [List.getElem?_map] at hd
            cases hx : caps[j]? with
            | none => rw [hx] at hd; cases hd
            | some id =>
              rw [hx] at hd
              simp only [Option.map_some, Option.some.injEq] at hd
              subst hd
              obtain ⟨a1, g, a2, a3⟩ := h2 j id hx
              rw [a3] at hu
              cases hu
              exact ⟨a1, g, a2, rfl⟩⟩ hc
      · rename_i fid hf
        cases hl : argsD sto (c.args.toList.map ρ) with
        | none => rw [hl] at h; cases h
        | some l =>
          rw [hl] at h
          simp only [Option.map_some, Option.some.injEq, Prod.mk.injEq] at h
          obtain ⟨rfl, rfl⟩ := h
          have h0 := hρ f0
          rw [hf] at h0
          have h0' : RepV S w (e f0) (.fn fid) := h0
          have hv : e f0 = .func (.func fid) #[] ([] : List Value).toArray := by
            generalize e f0 = v at h0'
            cases h0'; rfl
          have := go f0 hcal fid [] hv l hl [] Pw.nil hc
          rw [List.append_nil] at this
          exact this
      · cases h
    · cases h
  · cases h
/-- A composite slice that stays. -/
theorem lit_stay (hT : T.OK P) {sto : Sto} (hs : SR S gh w sto) {e : Operand → Value} {ρ : Operand → D} (hρ : ∀ x, RepD S gh sto w (e x) (ρ x)) {o : Oper} {t : TypeId} {len : Nat} {ps : Array (Nat × Operand)} (ho : o.op = .buildSlice t len ps) {d : D} (h : evPure T ρ sto o = some d) (lo : Nat) : EffN P lo S gh w sto (execOp e o) d sto := by
  unfold evPure at h
  simp only [ho] at h
  cases hl : evSliceLit T sto t len (ps.toList.map fun p => (p.1, ρ p.2)) with
  | none => rw [hl] at h; cases h
  | some x =>
    rw [hl] at h
    simp only [Option.map_some, Option.some.injEq] at h
    subst h
    obtain ⟨arr, h1, h2, h3, h4, h5⟩ := sliceLit_run (P := P) hT hs hρ hl
    have hb := below_new w (.cells arr x.1)
    obtain ⟨S', hS'⟩ : ∃ S' : Stay, S' = fun b o => S b o ∨ (b = w.heap.size ∧ o < x.2.2.length) := ⟨_, rfl⟩
    have hf : Fr sto.length lo S gh w sto S' gh (w.alloc (.cells arr x.1)) sto := by
      refine ⟨rfl, rfl, rfl, hb.size, fun b o h => ⟨by rw [hS']; exact .inl h, hb.cell (p := ⟨b, o, none⟩) (hs.stay b o h)⟩, fun b hlt _ => hb.block b hlt, fun i _ => ⟨rfl, rfl⟩, fun i g hi hg => .inl ⟨i, hi, hg⟩, fun i e gv _ a1 a2 => ⟨e, gv, a1, a2, KeepE.refl gv e⟩⟩
    refine ⟨_, .slice (some ⟨w.heap.size, 0, none⟩) len len, S', gh, w.alloc (.cells arr x.1), ?_, .inl rfl, ?_, ?_, hf⟩
    · unfold execOp
      simp only [ho, Sem.run_bind, h1, Result.andThen_ok, Sem.run_pure]
    · show RepV S' _ _ _
      have hcell : ∀ j, j < x.2.2.length → ∃ u, arr.toList[j]? = some u := fun j hj => ⟨_, List.getElem?_eq_getElem (by rw [Array.length_toList, h3, ← h4]; exact hj)⟩
      refine .sl w.heap.size 0 len len (fun j => (arr.toList[j]?).getD undef) x.2.2 (Nat.le_refl _) h2 (fun j hj => ?_) (fun j c hc => ?_)
      · obtain ⟨u, hu⟩ := hcell j hj
        have hc : x.2.2[j]? = some x.2.2[j] := List.getElem?_eq_getElem hj
        refine ⟨by rw [hS']; exact .inr ⟨rfl, by omega⟩, ?_, ?_⟩
        · rw [hu]; exact (h5 j u _ hu hc).1
        · rw [Nat.zero_add, cell_heap (heap_alloc_new w _), hu]; rfl
      · obtain ⟨u, hu⟩ := hcell j (List.getElem?_eq_some_iff.1 hc).1
        simp only [hu, Option.getD_some]
        exact RepV.mono hf.stable (h5 j u c hu hc).2
    · refine ⟨hs.len, fun i en hi => ?_, hs.inj, fun b o h => ?_⟩
      · obtain ⟨gv, q1, q2⟩ := hs.ent i en hi
        refine ⟨gv, q1, RepE.mono hs hf q2 fun g hg => ?_⟩
        have hlt := q2.lt hg
        refine ⟨hb.block g hlt, fun o => ⟨fun ho => ?_, fun ho => (hf.stable g o ho).1⟩⟩
        rw [hS'] at ho
        rcases ho with ho | ⟨ho, _⟩
        · exact ho
        · omega
      · rw [hS'] at h
        rcases h with h | ⟨rfl, _⟩
        · exact Nat.lt_of_lt_of_le (hs.stay b o h) hb.size
        · simp
/-- The entries that are older than the call name none of its own. -/
def OutSc (n0 : Nat) (sto : Sto) : Prop := ∀ i ds, i < n0 → sto[i]? = some (.cells ds) → scopedL n0 ds = true
theorem scopedL_iff {m : Nat} : ∀ {ds : List D}, scopedL m ds = true ↔ ∀ d ∈ ds, d.inside m = true
  | [] => by simp [scopedL]
  | d :: ds => by simp [scopedL, scopedL_iff (ds := ds)]
theorem scopedL_app {m : Nat} {as1 bs : List D} : scopedL m (as1 ++ bs) = true ↔ scopedL m as1 = true ∧ scopedL m bs = true := by
  simp only [scopedL_iff, List.mem_append]
  exact ⟨fun h => ⟨fun d hd => h d (.inl hd), fun d hd => h d (.inr hd)⟩, fun h d hd => hd.elim (h.1 d) (h.2 d)⟩
theorem OutSc.push {sto : Sto} (h : OutSc n0 sto) (hn : n0 ≤ sto.length) (e : Ent) : OutSc n0 (sto ++ [e]) := fun i ds hi hd => h i ds hi (by rw [List.getElem?_append_left (by omega)] at hd; exact hd)
theorem OutSc.setArr {sto : Sto} (h : OutSc n0 sto) {id : Nat} {es : Option (TypeId × Nat)} {wr : Bool} {n : Nat} {cs : List V} : OutSc n0 (sto.set id (.arr es wr n cs)) := fun i ds hi hd => by
  rcases Nat.decEq id i with hne | heq
  · rw [List.getElem?_set_ne hne] at hd; exact h i ds hi hd
  · subst heq
    rw [List.getElem?_set] at hd
    split at hd
    · split at hd <;> cases hd
    · exact h _ ds hi hd
theorem OutSc.setMap {sto : Sto} (h : OutSc n0 sto) {id : Nat} {k : IntKind} {kvs : List (Int × V)} : OutSc n0 (sto.set id (.map k kvs)) := fun i ds hi hd => by
  rcases Nat.decEq id i with hne | heq
  · rw [List.getElem?_set_ne hne] at hd; exact h i ds hi hd
  · subst heq
    rw [List.getElem?_set] at hd
    split at hd
    · split at hd <;> cases hd
    · exact h _ ds hi hd
theorem evEff_out {wr : Bool} {ρ : Operand → D} {sto : Sto} {o : Oper} {d : D} {sto' : Sto} (hn : n0 ≤ sto.length) (ho : OutSc n0 sto) (h : evEff T n0 lo wr ρ sto o = some (d, sto')) : OutSc n0 sto' := by
  unfold evEff at h
  split at h
  · rename_i t x _
    cases hc : (ρ x).cells with
    | none => rw [hc] at h; cases h
    | some ds => rw [hc] at h; simp only [Option.map_some, Option.some.injEq, Prod.mk.injEq] at h; rw [← h.2]; exact ho.push hn _
  · split at h
    · rename_i i _
      cases hc : zeroD i with
      | none => rw [hc] at h; cases h
      | some ds => rw [hc] at h; simp only [Option.map_some, Option.some.injEq, Prod.mk.injEq] at h; rw [← h.2]; exact ho.push hn _
    · cases h
  · rename_i t len ps _
    cases hl : evSliceLit T sto t len (ps.toList.map fun p => (p.1, ρ p.2)) with
    | none => rw [hl] at h; cases h
    | some x => rw [hl] at h; simp only [Option.map_some, Option.some.injEq, Prod.mk.injEq] at h; rw [← h.2]; exact ho.push hn _
  · split at h
    · split at h
      · split at h
        · split at h
          · simp only [Option.some.injEq, Prod.mk.injEq] at h; rw [← h.2]; exact ho.push hn _
          · cases h
        · cases h
      · cases h
    · cases h
  · split at h
    · rename_i i ds _ _
      split at h
      · split at h
        · rename_i id off _
          split at h
          · rename_i cs hcs
            split at h
            · rename_i hc
              simp only [Option.some.injEq, Prod.mk.injEq] at h
              rw [← h.2]
              intro k es hk he
              rcases Nat.decEq id k with hne | heq
              · rw [List.getElem?_set_ne hne] at he; exact ho k es hk he
              · subst heq
                rw [List.getElem?_set_self (by omega)] at he
                simp only [Option.some.injEq, Ent.cells.injEq] at he
                subst he
                have h1 := ho id cs hk hcs
                rw [scopedL_iff] at h1
                rw [scopedL_app, scopedL_app]
                refine ⟨⟨scopedL_iff.2 fun d hd => h1 d (List.mem_of_mem_take hd), hc.2.2 hk⟩, scopedL_iff.2 fun d hd => h1 d (List.mem_of_mem_drop hd)⟩
            · cases h
          · cases h
        · split at h
          · split at h
            · simp only [Option.some.injEq, Prod.mk.injEq] at h; rw [← h.2]; exact ho.setArr
            · cases h
          · cases h
        · cases h
      · cases h
    · cases h
  · unfold evMakeMap at h
    split at h
    · split at h
      · simp only [Option.some.injEq, Prod.mk.injEq] at h; rw [← h.2]; exact ho.push hn _
      · simp only [Option.some.injEq, Prod.mk.injEq] at h; rw [← h.2]; exact ho.push hn _
      · cases h
    · cases h
  · unfold evUpdate at h
    split at h
    · split at h
      · split at h
        · simp only [Option.some.injEq, Prod.mk.injEq] at h; rw [← h.2]; exact ho.setMap
        · cases h
      · cases h
    · cases h
  · split at h
    · split at h
      · unfold evAppend at h
        split at h
        · split at h
          · split at h
            · split at h
              · split at h
                · split at h
                  · simp only [Option.some.injEq, Prod.mk.injEq] at h; rw [← h.2]; exact ho
                  · simp only [Option.some.injEq, Prod.mk.injEq] at h; rw [← h.2]; exact ho.push hn _
                · cases h
              · split at h
                · split at h
                  · split at h
                    · simp only [Option.some.injEq, Prod.mk.injEq] at h; rw [← h.2]; exact ho
                    · simp only [Option.some.injEq, Prod.mk.injEq] at h; rw [← h.2]; exact ho.setArr
                  · cases h
                · cases h
              · cases h
            · cases h
          · cases h
        · cases h
      · split at h
        · unfold evAppendZ at h
          split at h
          · split at h
            · split at h
              · split at h
                · simp only [Option.some.injEq, Prod.mk.injEq] at h; rw [← h.2]; exact ho.setArr
                · cases h
              · cases h
            · cases h
          · cases h
        · cases h
    · unfold evClear at h
      split at h
      · split at h
        · split at h
          · split at h
            · simp only [Option.some.injEq, Prod.mk.injEq] at h
              rw [← h.2]
              split
              · exact ho
              · exact ho.setArr
            · cases h
          · cases h
        · cases h
      · cases h
    · unfold evDelete at h
      split at h
      · split at h
        · split at h
          · simp only [Option.some.injEq, Prod.mk.injEq] at h; rw [← h.2]; exact ho.setMap
          · cases h
        · cases h
      · cases h
    · cases h
  · cases h
/-- One operation. -/
theorem op_step (hT : T.OK P) {Q : St → Prop} {Q' : Exit → Act → World → Prop} {K : Act → World → Prop} {o : Oper} {rest : List Oper} (hn : n0 ≤ st.sto.length) (hlo : lo ≤ n0) (hout : OutSc n0 st.sto) (h : EvOps T (CallOK P) n0 lo wt draw ops Q (o :: rest) st) (hrs : RS S gh w a st)
    (hK : ∀ a' w' st' S' gh', EvOps T (CallOK P) n0 lo wt draw ops Q rest st' → RS S' gh' w' a' st' → Fr n0 lo S gh w st.sto S' gh' w' st'.sto → n0 ≤ st'.sto.length → OutSc n0 st'.sto → K a' w') :
    if Region.wanted o (yielded ops a.tmps) = true then o.wp P a w K Q' else K (a.put o.dst undef) w := by
  have hlen : ∀ {S' : Stay} {gh' : List Value} {w' : World} {sto' : Sto}, Fr st.sto.length lo S gh w st.sto S' gh' w' sto' → n0 ≤ sto'.length := by
    intro S' gh' w' sto' hf
    rcases Nat.eq_zero_or_pos n0 with h0 | h0
    · omega
    · obtain ⟨gv, hg, _⟩ := hrs.sto.ent (n0 - 1) _ (List.getElem?_eq_getElem (by omega))
      obtain ⟨e', gv', h1, _⟩ := hf.keep (n0 - 1) _ gv (by omega) (List.getElem?_eq_getElem (by omega)) hg
      have := (List.getElem?_eq_some_iff.1 h1).1
      omega
  have eff : ∀ {d : D} {sto' : Sto}, EffN P lo S gh w st.sto (execOp a.eval o) d sto' → OutSc n0 sto' → EvOps T (CallOK P) n0 lo wt draw ops Q rest (St.put { st with sto := sto' } o.dst d) → o.wp P a w K Q' := by
    intro d sto' ⟨nx, v, S', gh', w', h1, h2, h3, h4, h5⟩ hos k
    have hrs' := RS.put hrs h4 h5 h3 o.dst
    have hst : (St.put { st with sto := sto' } o.dst d).sto = sto' := by cases o.dst <;> rfl
    have fin := hK (a.put o.dst v) w' _ S' gh' k hrs' (by rw [hst]; exact h5.weaken hn) (by rw [hst]; exact hlen h5) (by rw [hst]; exact hos)
    unfold Oper.wp
    rw [h1]
    rcases h2 with rfl | ⟨rfl, rfl⟩
    · exact fin
    · exact fin
  unfold EvOps at h
  split at h
  · rename_i hg
    rw [if_pos (guard_sound hrs hg)]
    rcases h with ⟨d, h1, _, h2⟩ | ⟨d, sto', h1, _, h2⟩ | ⟨f, args, r, sto', h1, h2, _, hso, h3⟩
    · by_cases hb : ∃ t n ps, o.op = .buildSlice t n ps
      · obtain ⟨t, n, ps, ho⟩ := hb
        exact eff (lit_stay hT hrs.sto hrs.opd ho h1 lo) hout h2
      · obtain ⟨u, q1, q2⟩ := evPure_sound hT hrs.sto hrs.opd (fun t n ps ho => hb ⟨t, n, ps, ho⟩) h1
        exact eff ⟨.value u, u, S, gh, w, q1, .inl rfl, q2, hrs.sto, Fr.refl _ _ _ _ _ _⟩ hout h2
    · exact eff (evEff_sound hT (by omega) hrs.sto hrs.opd h1) (evEff_out hn hout h1) h2
    · obtain ⟨hc, hcall⟩ := h2
      obtain ⟨vals, q1, q2⟩ := evCallee_sound hrs.sto hrs.opd h1 hc
      unfold Oper.wp
      rw [q1]
      refine Calls.mono (hcall S gh w vals (by cases draw <;> simp <;> omega) hrs.sto hrs.glob q2) ?_
      rintro e w' ⟨v, S', gh', rfl, r1, r2, r3, r4⟩
      have r3' : Fr st.sto.length lo S gh w st.sto S' gh' w' sto' := by
        cases draw with
        | false => simpa using r3
        | true =>
          simp only [if_true] at r3
          refine { r3 with block := fun b hb hn => r3.block b hb fun i hi hg => hn i (by omega) hg, low := fun i hi => r3.low i (by omega), new := fun i g hi hg => ?_ }
          rcases Nat.lt_or_ge i st.sto.length with hlt | hge
          · left
            refine ⟨i, hi, ?_⟩
            unfold blkAt at hg ⊢
            rw [(r3.low i hlt).1] at hg
            exact hg
          · rcases r3.new i g hge hg with ⟨j, hj, hg'⟩ | h'
            · exact .inl ⟨j, by omega, hg'⟩
            · exact .inr h'
      have hrs' := RS.put hrs r2 r3' (d := r) r1 o.dst
      have hst : (St.put { st with sto := sto' } o.dst r).sto = sto' := by cases o.dst <;> rfl
      exact hK _ w' _ S' gh' h3 hrs' (by rw [hst]; exact r3'.weaken hn) (by rw [hst]; omega) (by
        rw [hst]
        rcases hso with rfl | hso
        · exact hout
        · intro i ds hi hd
          rcases Nat.lt_or_ge i lo with hl | hl
          · rw [(r3'.low i hl).2] at hd; exact hout i ds hi hd
          · exact (hso i ds hl hi hd).elim (fun h => hout i ds hi h) id)
  · rename_i hg
    rw [if_neg (by rw [guard_sound hrs hg]; simp)]
    exact hK _ w _ S gh h (RS.put hrs hrs.sto (Fr.refl st.sto.length lo _ _ _ _) (d := .undef) rfl o.dst) (by cases o.dst <;> exact Fr.refl _ _ _ _ _ _) (by cases o.dst <;> exact hn) (by cases o.dst <;> exact hout)
  · exact h.elim
def okExit : Exit → Bool
  | .normal => true
  | .exit _ => true
  | .ret => true
  | _ => false
/-- What a piece of code leaves. -/
def PostOK (n0 lo : Nat) (S : Stay) (gh : List Value) (w : World) (sto : Sto) (R : Exit → St → Prop) (e : Exit) (a' : Act) (w' : World) : Prop :=
  okExit e = true ∧ ∃ st' S' gh', R e st' ∧ RS S' gh' w' a' st' ∧ Fr n0 lo S gh w sto S' gh' w' st'.sto ∧ n0 ≤ st'.sto.length ∧ OutSc n0 st'.sto
theorem PostOK.trans {S' : Stay} {gh' : List Value} {w' : World} {sto sto' : Sto} {R : Exit → St → Prop} (hf : Fr n0 lo S gh w sto S' gh' w' sto') {e : Exit} {a2 : Act} {w2 : World} (h : PostOK n0 lo S' gh' w' sto' R e a2 w2) : PostOK n0 lo S gh w sto R e a2 w2 := by
  obtain ⟨h0, st2, S2, gh2, h1, h2, h3, h4⟩ := h
  exact ⟨h0, st2, S2, gh2, h1, h2, hf.trans h3, h4⟩
/-- A region in the order of the text. -/
theorem evOps_list (hT : T.OK P) {R : Exit → St → Prop} {S0 : Stay} {gh0 : List Value} {w0 : World} {sto0 : Sto} (hlo : lo ≤ n0) : ∀ (l : List Oper) (st : St) (S : Stay) (gh : List Value) (a : Act) (w : World), n0 ≤ st.sto.length → OutSc n0 st.sto → EvOps T (CallOK P) n0 lo wt draw ops (R .normal) l st → RS S gh w a st → Fr n0 lo S0 gh0 w0 sto0 S gh w st.sto →
    wpList P ops (PostOK n0 lo S0 gh0 w0 sto0 R) l a w
  | [], st, S, gh, a, w, hn, ho, h, hrs, hf => ⟨rfl, st, S, gh, h, hrs, hf, hn, ho⟩
  | o :: rest, st, S, gh, a, w, hn, ho, h, hrs, hf => by
    refine wpList_step fun K hK => ?_
    exact op_step hT hn hlo ho h hrs fun a' w' st' S' gh' h1 h2 h3 h4 h5 => hK a' w' (evOps_list hT hlo rest st' S' gh' a' w' h4 h5 h1 h2 (hf.trans h3))
end
end Go.Proofs.YtgkhcjdpdgfdbaaDoor
namespace Go.Proofs.YtgkhcjdpdgfdbaaDoor
open Go Go.RowKit

section
variable {T : Tab} {X : CallP} {n0 lo : Nat} {wt : List Tmp} {ops : Array Oper}
theorem evPure_kind {ρ : Operand → D} {sto : Sto} {o : Oper} {d : D} (h : evPure T ρ sto o = some d) : effKind o = 0 := by
  unfold evPure at h
  unfold effKind
  cases hop : o.op <;> rw [hop] at h <;> simp only at h ⊢
  all_goals first | (cases h; done) | skip
  case call c =>
    split at h
    · rename_i b hb
      simp only [hb]
      cases b <;> first | rfl | (simp only [evBuiltin] at h; cases h)
    · cases h
theorem evEff_kind {wr : Bool} {ρ : Operand → D} {sto : Sto} {o : Oper} {x : D × Sto} (h : evEff T n0 lo wr ρ sto o = some x) : effKind o ≠ 3 := by
  unfold evEff at h
  unfold effKind
  cases hop : o.op <;> rw [hop] at h <;> simp only at h ⊢
  all_goals first | (intro h; cases h; done) | (cases h; done) | skip
  case call c =>
    split at h
    · rename_i hb _ _
      simp only [hb]
      intro h; cases h
    · rename_i hb _ _
      simp only [hb]
      intro h; cases h
    · rename_i hb _ _
      simp only [hb]
      intro h; cases h
    · cases h
theorem evCallee_kind {ρ : Operand → D} {sto : Sto} {o : Oper} {x : FuncId × List D} (h : evCallee ρ sto o = some x) : effKind o = 3 := by
  unfold evCallee at h
  unfold effKind
  split at h
  · rename_i hop
    simp only [hop]
    split at h
    · rename_i hb
      simp only [hb]
    · cases h
  · cases h
theorem map_agree {ρ ρ' : Operand → D} {l : List Operand} (h : ∀ x ∈ l, ρ x = ρ' x) : l.map ρ = l.map ρ' := List.map_congr_left h
theorem parts_agree {ρ ρ' : Operand → D} {ps : Array (Nat × Operand)} (h : ∀ x ∈ (ps.toList.map (·.2)).toArray, ρ x = ρ' x) : (ps.toList.map fun p => (p.1, ρ p.2)) = ps.toList.map fun p => (p.1, ρ' p.2) := by
  apply List.map_congr_left
  intro p hp
  rw [h p.2 (by simp only [List.mem_toArray]; exact List.mem_map.2 ⟨p, hp, rfl⟩)]
theorem opt_agree {ρ ρ' : Operand → D} {m : Option Operand} (h : ∀ x ∈ m.toArray, ρ x = ρ' x) : m.map ρ = m.map ρ' := by
  cases m with
  | none => rfl
  | some x => simp only [Option.map_some]; rw [h x (by simp)]
theorem evPure_congr {ρ ρ' : Operand → D} {sto : Sto} {o : Oper} (h : ∀ x ∈ o.op.operands, ρ x = ρ' x) : evPure T ρ sto o = evPure T ρ' sto o := by
  unfold evPure
  cases hop : o.op <;> rw [hop] at h <;> simp only [Op.operands] at h ⊢
  case move x => rw [h x (by simp)]
  case assign x => rw [h x (by simp)]
  case pick c a b => rw [h c (by simp), h a (by simp), h b (by simp)]
  case build t ps => rw [parts_agree h]
  case buildSlice t n ps => rw [parts_agree h]
  case load t x => rw [h x (by simp)]
  case nilCheck x => rw [h x (by simp)]
  case binOp op t x y ty => rw [h x (by simp), h y (by simp)]
  case unOp op t x => rw [h x (by simp)]
  case convert s t x => rw [h x (by simp)]
  case makeFunc fn f c =>
    have hc : c.toList.map ρ = c.toList.map ρ' := map_agree fun x hx => h x (by simp; exact .inr (by simpa using hx))
    cases fn <;> simp only [hc]
  case slice t x l hi m =>
    rw [h x (by simp), opt_agree (m := l) (fun y hy => h y (by simp at hy ⊢; simp [hy])), opt_agree (m := hi) (fun y hy => h y (by simp at hy ⊢; simp [hy])), opt_agree (m := m) (fun y hy => h y (by simp at hy ⊢; simp [hy]))]
  case fieldAddr t x f => rw [h x (by simp)]
  case field t x f => rw [h x (by simp)]
  case indexAddr t x i => rw [h x (by simp), h i (by simp)]
  case index t x i => rw [h x (by simp), h i (by simp)]
  case extract x i => rw [h x (by simp)]
  case lookup t x i ok => rw [h x (by simp), h i (by simp)]
  case call c =>
    have hc : c.args.toList.map ρ = c.args.toList.map ρ' := map_agree fun x hx => h x (by simp only [Call.operands, Array.mem_append]; exact .inr (by simpa using hx))
    rw [hc]
theorem evEff_congr {wr : Bool} {ρ ρ' : Operand → D} {sto : Sto} {o : Oper} (h : ∀ x ∈ o.op.operands, ρ x = ρ' x) : evEff T n0 lo wr ρ sto o = evEff T n0 lo wr ρ' sto o := by
  unfold evEff
  cases hop : o.op <;> rw [hop] at h <;> simp only [Op.operands] at h ⊢
  case box t x => rw [h x (by simp)]
  case buildSlice t n ps => rw [parts_agree h]
  case makeSlice t l c => rw [h l (by simp), h c (by simp)]
  case store t p x => rw [h p (by simp), h x (by simp)]
  case makeMap t r => rw [opt_agree h]
  case mapUpdate t m x v => rw [h m (by simp), h x (by simp), h v (by simp)]
  case call c =>
    have hc : ∀ x ∈ c.args.toList, ρ x = ρ' x := fun x hx => h x (by simp only [Call.operands, Array.mem_append]; exact .inr (by simpa using hx))
    split
    · rename_i x y t t' hb ha ht
      rw [hc x (by rw [ha]; simp), hc y (by rw [ha]; simp)]
    · rename_i x t hb ha ht
      rw [hc x (by rw [ha]; simp)]
    · rename_i m x t t' hb ha ht
      rw [hc m (by rw [ha]; simp), hc x (by rw [ha]; simp)]
    · rfl
theorem evCallee_congr {ρ ρ' : Operand → D} {sto : Sto} {o : Oper} (h : ∀ x ∈ o.op.operands, ρ x = ρ' x) : evCallee ρ sto o = evCallee ρ' sto o := by
  unfold evCallee
  cases hop : o.op <;> rw [hop] at h <;> simp only [Op.operands] at h ⊢
  case call c =>
    have hc : c.args.toList.map ρ = c.args.toList.map ρ' := map_agree fun x hx => h x (by simp only [Call.operands, Array.mem_append]; exact .inr (by simpa using hx))
    split
    · rename_i f hf
      rw [h f (by simp only [Call.operands, hf, Array.mem_append]; exact .inl (by simp)), hc]
    · rfl
/-- What an operation yields. -/
def ValR (T : Tab) (X : CallP) (n0 lo : Nat) (wt : List Tmp) (ops : Array Oper) (o : Oper) (env : List D) (sto : Sto) (d : D) (sto' : Sto) : Prop :=
  (guardD ops o env = some true ∧ ((evPure T (opd env) sto o = some d ∧ (needsFree ops o = true → ∀ s, evPure T (opd env) s o = some d) ∧ sto' = sto) ∨
    (evEff T n0 lo (wrOf wt o) (opd env) sto o = some (d, sto') ∧ effKind o ≠ 0) ∨
    (∃ f args r, d = r ∧ evCallee (opd env) sto o = some (f, args) ∧ X f args sto sto.length r sto ∧ sto' = sto ∧ needsFree ops o = needsFree ops o))) ∨
  (guardD ops o env = some false ∧ d = .undef ∧ sto' = sto)
theorem evOps_cons {Q : St → Prop} {o : Oper} {rest : List Oper} {st : St} : EvOps T X n0 lo wt true ops Q (o :: rest) st ↔ ∃ d sto', ValR T X n0 lo wt ops o st.env st.sto d sto' ∧ EvOps T X n0 lo wt true ops Q rest (St.put ⟨st.env, sto'⟩ o.dst d) := by
  rw [EvOps]
  constructor
  · intro h
    split at h
    · rename_i hg
      rcases h with ⟨d, h1, h2, h3⟩ | ⟨d, sto', h1, h2, h3⟩ | ⟨f, args, r, sto', h1, h2, h3, _, h4⟩
      · exact ⟨d, st.sto, .inl ⟨hg, .inl ⟨h1, h2 rfl, rfl⟩⟩, h3⟩
      · exact ⟨d, sto', .inl ⟨hg, .inr (.inl ⟨h1, h2 rfl⟩)⟩, h3⟩
      · obtain rfl := h3 rfl
        exact ⟨r, st.sto, .inl ⟨hg, .inr (.inr ⟨f, args, r, rfl, h1, h2, rfl, rfl⟩)⟩, h4⟩
    · rename_i hg
      exact ⟨.undef, st.sto, .inr ⟨hg, rfl, rfl⟩, h⟩
    · exact h.elim
  · rintro ⟨d, sto', ⟨hg, h⟩ | ⟨hg, rfl, rfl⟩, k⟩
    · rw [hg]
      rcases h with ⟨h1, h2, rfl⟩ | ⟨h1, h2⟩ | ⟨f, args, r, rfl, h1, h2, rfl, _⟩
      · exact .inl ⟨d, h1, fun _ => h2, k⟩
      · exact .inr (.inl ⟨d, sto', h1, fun _ => h2, k⟩)
      · exact .inr (.inr ⟨f, args, d, st.sto, h1, h2, fun _ => rfl, .inl rfl, k⟩)
    · rw [hg]; exact k
theorem ValR.same {o : Oper} {env : List D} {sto sto' : Sto} {d : D} (h : ValR T X n0 lo wt ops o env sto d sto') (hk : effKind o = 0 ∨ effKind o = 3) : sto' = sto := by
  rcases h with ⟨hg, ⟨h1, h2, rfl⟩ | ⟨h1, h2⟩ | ⟨f, args, r, rfl, h1, h2, rfl, _⟩⟩ | ⟨hg, rfl, rfl⟩
  · rfl
  · rcases hk with hk | hk
    · exact absurd hk h2
    · exact absurd hk (evEff_kind h1)
  · rfl
  · rfl
theorem ValR.free {o : Oper} {env : List D} {sto sto' : Sto} {d : D} (h : ValR T X n0 lo wt ops o env sto d sto') (hk : effKind o = 0) (hn : needsFree ops o = true) (s : Sto) : ValR T X n0 lo wt ops o env s d s := by
  rcases h with ⟨hg, ⟨h1, h2, rfl⟩ | ⟨h1, h2⟩ | ⟨f, args, r, rfl, h1, h2, rfl, _⟩⟩ | ⟨hg, rfl, rfl⟩
  · exact .inl ⟨hg, .inl ⟨h2 hn s, h2, rfl⟩⟩
  · exact absurd hk h2
  · rw [evCallee_kind h1] at hk; cases hk
  · exact .inr ⟨hg, rfl, rfl⟩
theorem opd_agree {env : List D} {d : Tmp} {u : D} {x : Operand} (h : x ≠ .tmp d) : opd (env.set d u) x = opd env x := by
  cases x with
  | tmp t =>
    have : d ≠ t := fun e => h (by rw [e])
    simp only [opd, List.getElem?_set_ne this]
  | _ => rfl
theorem looks_op {o : Oper} {d : Tmp} (h : d ∉ o.looksAt ops) : ∀ x ∈ o.op.operands, x ≠ .tmp d := by
  intro x hx e
  subst e
  apply h
  unfold Oper.looksAt
  refine List.mem_append_left _ (List.mem_filterMap.2 ⟨.tmp d, by simpa using hx, rfl⟩)
theorem looks_guard {o : Oper} {d : Tmp} {env : List D} {u : D} (h : d ∉ o.looksAt ops) : guardD ops o (env.set d u) = guardD ops o env := by
  unfold guardD
  cases hg : o.guard with
  | none => rfl
  | some p =>
    obtain ⟨j, want⟩ := p
    cases hd : (ops[j]?).bind (·.dst) with
    | none => simp only [hd]
    | some e =>
      have hne : d ≠ e := by
        intro heq
        subst heq
        apply h
        unfold Oper.looksAt
        refine List.mem_append_right _ ?_
        simp [hg, hd]
      simp only [hd, List.getElem?_set_ne hne]
theorem ValR.congr {o : Oper} {env : List D} {sto sto' : Sto} {d : D} {t : Option Tmp} {u : D} (ht : ∀ x, t = some x → x ∉ o.looksAt ops) : ValR T X n0 lo wt ops o (St.put ⟨env, sto⟩ t u).env sto d sto' ↔ ValR T X n0 lo wt ops o env sto d sto' := by
  cases t with
  | none => exact Iff.rfl
  | some x =>
    have h := ht x rfl
    have hop : ∀ y ∈ o.op.operands, opd (env.set x u) y = opd env y := fun y hy => opd_agree (looks_op h y hy)
    show ValR T X n0 lo wt ops o (env.set x u) sto d sto' ↔ _
    unfold ValR
    rw [looks_guard h, evEff_congr hop, evCallee_congr hop]
    simp only [fun s => evPure_congr (T := T) (sto := s) hop]
theorem put_comm {env : List D} {sto : Sto} {x y : Option Tmp} {u v : D} (h : ∀ d, x = some d → y ≠ some d) : St.put (St.put ⟨env, sto⟩ x u) y v = St.put (St.put ⟨env, sto⟩ y v) x u := by
  cases x with
  | none => rfl
  | some a =>
    cases y with
    | none => rfl
    | some b =>
      have hne : a ≠ b := fun e => h a rfl (by rw [e])
      simp only [St.put]
      rw [List.set_comm _ _ hne]
theorem put_env {env : List D} {sto s2 : Sto} {x : Option Tmp} {u : D} : (St.put ⟨env, sto⟩ x u).env = (St.put ⟨env, s2⟩ x u).env := by cases x <;> rfl
theorem put_sto {env : List D} {sto : Sto} {x : Option Tmp} {u : D} : (St.put ⟨env, sto⟩ x u).sto = sto := by cases x <;> rfl
/-- Two neighbours change places. -/
theorem evOps_swap {Q : St → Prop} {x y : Oper} {rest : List Oper} {st : St} (ha : x.apart ops y = true) (hk : kindsOk (effKind x) (effKind y) = true) (hx : effKind x = 0 → (effKind y = 1 ∨ effKind y = 2) → needsFree ops x = true) (hy : effKind y = 0 → (effKind x = 1 ∨ effKind x = 2) → needsFree ops y = true)
    (h : EvOps T X n0 lo wt true ops Q (x :: y :: rest) st) : EvOps T X n0 lo wt true ops Q (y :: x :: rest) st := by
  obtain ⟨a1, a2, a3⟩ := Oper.apart_spec ha
  obtain ⟨dx, sx, hvx, h'⟩ := evOps_cons.1 h
  obtain ⟨dy, sy, hvy, hrest⟩ := evOps_cons.1 h'
  rw [put_sto] at hvy
  have hvy' : ValR T X n0 lo wt ops y st.env sx dy sy := (ValR.congr a1).1 hvy
  have fin : ∀ s1, ValR T X n0 lo wt ops y st.env st.sto dy s1 → ValR T X n0 lo wt ops x st.env s1 dx sy → EvOps T X n0 lo wt true ops Q (y :: x :: rest) st := by
    intro s1 q1 q2
    refine evOps_cons.2 ⟨dy, s1, q1, evOps_cons.2 ⟨dx, sy, ?_, ?_⟩⟩
    · rw [put_sto]
      exact (ValR.congr a3).2 q2
    · have e1 : St.put ⟨(St.put ⟨st.env, sx⟩ x.dst dx).env, sy⟩ y.dst dy = St.put (St.put ⟨st.env, sy⟩ x.dst dx) y.dst dy := by cases x.dst <;> rfl
      have e2 : St.put ⟨(St.put ⟨st.env, s1⟩ y.dst dy).env, sy⟩ x.dst dx = St.put (St.put ⟨st.env, sy⟩ y.dst dy) x.dst dx := by cases y.dst <;> rfl
      rw [e2, ← put_comm a2, ← e1]
      exact hrest
  simp only [kindsOk, Bool.or_eq_true, Bool.and_eq_true, beq_iff_eq] at hk
  rcases hk with (⟨k1, k2⟩ | ⟨k1, k2⟩) | ⟨k1, k2⟩
  · obtain rfl := hvx.same k1
    obtain rfl := hvy'.same k2
    exact fin _ hvy' hvx
  · obtain rfl := hvx.same (.inl k1)
    exact fin _ hvy' (hvx.free k1 (hx k1 k2) sy)
  · obtain rfl := hvy'.same (.inl k2)
    exact fin _ (hvy'.free k2 (hy k2 k1) st.sto) hvx
end
end Go.Proofs.YtgkhcjdpdgfdbaaDoor
namespace Go.Proofs.YtgkhcjdpdgfdbaaDoor
open Go Go.RowKit

theorem anc_fold (acc : List Nat) (i : Nat) : ∀ (l : List Edge) (s : Nat), (l.foldl (fun s e => if Region.binds .any e then s ||| 2 ^ e.on ||| acc.getD e.on 0 else s) s).testBit i = true → s.testBit i = true ∨ ∃ e ∈ l, Region.binds .any e = true ∧ (e.on = i ∨ (acc.getD e.on 0).testBit i = true)
  | [], s, h => .inl h
  | e :: l, s, h => by
    rw [List.foldl_cons] at h
    rcases anc_fold acc i l _ h with h | ⟨e', he, h⟩
    · by_cases hb : Region.binds .any e = true
      · rw [if_pos hb, Nat.testBit_or, Nat.testBit_or, Nat.testBit_two_pow] at h
        simp only [Bool.or_eq_true, decide_eq_true_eq] at h
        rcases h with (h | h) | h
        · exact .inl h
        · exact .inr ⟨e, by simp, hb, .inl h⟩
        · exact .inr ⟨e, by simp, hb, .inr h⟩
      · rw [if_neg hb] at h
        exact .inl h
    · exact .inr ⟨e', List.mem_cons_of_mem _ he, h⟩
theorem ancs_get : ∀ (l : List Oper) (acc : List Nat), ∃ tail, ancs l acc = acc ++ tail ∧ tail.length = l.length ∧ ∀ (m : Nat) (o : Oper), l[m]? = some o → tail[m]? = some (ancOf (acc ++ tail.take m) o)
  | [], acc => ⟨[], by simp [ancs], rfl, fun m o h => by simp at h⟩
  | o :: l, acc => by
    obtain ⟨tail, h1, h2, h3⟩ := ancs_get l (acc ++ [ancOf acc o])
    refine ⟨ancOf acc o :: tail, by rw [ancs, h1, List.append_assoc]; rfl, by simp [h2], fun m o' hm => ?_⟩
    cases m with
    | zero =>
      simp only [List.getElem?_cons_zero, Option.some.injEq] at hm
      subst hm
      simp
    | succ m =>
      have := h3 m o' (by simpa using hm)
      simp only [List.getElem?_cons_succ, List.take_succ_cons]
      rw [this, List.append_assoc]
      rfl
section
variable {ops : Array Oper}
/-- Who comes before whom. -/
theorem anc_step {j i : Nat} {o : Oper} (ho : ops[j]? = some o) (h : ((ancs ops.toList []).getD j 0).testBit i = true) : ∃ e ∈ o.after, Region.binds .any e = true ∧ (e.on = i ∨ (e.on < j ∧ ((ancs ops.toList []).getD e.on 0).testBit i = true)) := by
  obtain ⟨tail, h1, h2, h3⟩ := ancs_get ops.toList []
  rw [List.nil_append] at h1
  have hj : ops.toList[j]? = some o := by rw [Array.getElem?_toList]; exact ho
  have ht := h3 j o hj
  rw [h1, List.getD_eq_getElem?_getD, ht, Option.getD_some, List.nil_append] at h
  rcases anc_fold _ i _ _ h with h | ⟨e, he, hb, h⟩
  · simp at h
  · refine ⟨e, by simpa using he, hb, ?_⟩
    rcases h with h | h
    · exact .inl h
    · right
      rw [List.getD_eq_getElem?_getD] at h
      rcases Nat.lt_or_ge e.on j with hlt | hge
      · refine ⟨hlt, ?_⟩
        rw [List.getElem?_take_of_lt hlt] at h
        rw [h1, List.getD_eq_getElem?_getD]; exact h
      · rw [List.getElem?_eq_none (by simp; omega)] at h
        simp at h
/-- What is listed: with each operation those that it waits for. -/
def Closed (ops : Array Oper) (L : Nat → Prop) : Prop := ∀ k o, ops[k]? = some o → L k → ∀ e ∈ o.after, Region.binds .any e = true → L e.on
theorem anc_listed {L : Nat → Prop} (hc : Closed ops L) : ∀ (j : Nat) (o : Oper), ops[j]? = some o → (∀ e ∈ o.after, Region.binds .any e = true → L e.on) → ∀ i, ((ancs ops.toList []).getD j 0).testBit i = true → L i := by
  intro j
  induction j using Nat.strongRecOn with
  | _ j ih =>
    intro o ho hp i hi
    obtain ⟨e, he, hb, h⟩ := anc_step ho hi
    rcases h with h | ⟨hlt, h⟩
    · rw [← h]; exact hp e he hb
    · have hl := hp e he hb
      cases ho2 : ops[e.on]? with
      | none =>
        exfalso
        obtain ⟨tail, h1, h2, _⟩ := ancs_get ops.toList []
        rw [List.nil_append] at h1
        rw [h1, List.getD_eq_getElem?_getD, List.getElem?_eq_none (by rw [h2, Array.length_toList]; simpa using ho2)] at h
        simp at h
      | some o2 => exact ih e.on hlt o2 ho2 (hc e.on o2 ho2 hl) i h
theorem drawOk_spec (h : drawOk ops = true) : (∀ j o, ops[j]? = some o → ∀ e ∈ o.after, Region.binds .any e = true → e.on < j) ∧ ∀ i j x y, i < j → ops[i]? = some x → ops[j]? = some y → ((ancs ops.toList []).getD j 0).testBit i = true ∨ (x.apart ops y = true ∧ kindsOk (effKind x) (effKind y) = true) := by
  unfold drawOk at h
  simp only [List.all_eq_true, List.mem_range, Bool.and_eq_true, Bool.or_eq_true] at h
  have lt : ∀ j o, ops[j]? = some o → j < ops.size := fun j o ho => (Array.getElem?_eq_some_iff.1 ho).1
  refine ⟨fun j o ho e he hb => ?_, fun i j x y hij hx hy => ?_⟩
  · have := (h j (lt j o ho)).1
    rw [ho] at this
    simp only [List.all_eq_true, Bool.or_eq_true, Bool.not_eq_true', decide_eq_true_eq] at this
    rcases this e (by simpa using he) with h | h
    · rw [hb] at h; cases h
    · exact h
  · have := (h j (lt j y hy)).2 i hij
    rw [hx, hy] at this
    simpa using this
theorem needsFree_of {i j : Nat} {x y : Oper} (hij : i ≠ j) (hx : ops[i]? = some x) (hy : ops[j]? = some y) (ht : ((ancs ops.toList []).getD (max j i) 0).testBit (min j i) = false) (hk : effKind y = 1 ∨ effKind y = 2) : needsFree ops x = true := by
  have lt : ∀ j o, ops[j]? = some o → j < ops.size := fun j o ho => (Array.getElem?_eq_some_iff.1 ho).1
  unfold needsFree
  simp only [List.any_eq_true, List.mem_range]
  refine ⟨i, lt i x hx, ?_⟩
  rw [hx]
  simp only [beq_self_eq_true, Bool.true_and, List.any_eq_true, List.mem_range]
  refine ⟨j, lt j y hy, ?_⟩
  rw [hy]
  simp only [Bool.and_eq_true, bne_iff_ne, ne_eq, Bool.not_eq_true', Bool.or_eq_true, beq_iff_eq]
  exact ⟨⟨fun e => hij e.symm, ht⟩, hk⟩
def opsOf (ops : Array Oper) (l : List Nat) : List Oper := l.map fun i => ops.getD i default
variable {T : Tab} {X : CallP} {n0 lo : Nat} {wt : List Tmp}
/-- An operation that may come up now, taken first. -/
theorem bubble (hd : drawOk ops = true) {Q : St → Prop} {i : Nat} {y : Oper} (hy : ops[i]? = some y) (l2 : List Nat) : ∀ (l1 : List Nat) (st : St), (∀ k ∈ l1, k < i ∧ ((ancs ops.toList []).getD i 0).testBit k = false) →
    EvOps T X n0 lo wt true ops Q (opsOf ops (l1 ++ i :: l2)) st → EvOps T X n0 lo wt true ops Q (y :: opsOf ops (l1 ++ l2)) st
  | [], st, _, h => by
    have : ops.getD i default = y := by rw [Array.getD_eq_getD_getElem?, hy]; rfl
    have h' : EvOps T X n0 lo wt true ops Q (ops.getD i default :: opsOf ops l2) st := h
    rw [this] at h'; exact h'
  | k :: l1, st, hl, h => by
    obtain ⟨hk, ht⟩ := hl k (by simp)
    have hsz : i < ops.size := (Array.getElem?_eq_some_iff.1 hy).1
    have hx : ops[k]? = some (ops[k]'(by omega)) := Array.getElem?_eq_getElem (by omega)
    have hxd : ops.getD k default = ops[k]'(by omega) := by rw [Array.getD_eq_getD_getElem?, hx]; rfl
    have h1 : EvOps T X n0 lo wt true ops Q (ops[k]'(by omega) :: opsOf ops (l1 ++ i :: l2)) st := by
      have h' : EvOps T X n0 lo wt true ops Q (ops.getD k default :: opsOf ops (l1 ++ i :: l2)) st := h
      rw [hxd] at h'; exact h'
    obtain ⟨d, sto', hv, hr⟩ := evOps_cons.1 h1
    have hr' := bubble hd hy l2 l1 _ (fun k' hk' => hl k' (List.mem_cons_of_mem _ hk')) hr
    have h2 : EvOps T X n0 lo wt true ops Q (ops[k]'(by omega) :: y :: opsOf ops (l1 ++ l2)) st := evOps_cons.2 ⟨d, sto', hv, hr'⟩
    have hok := ((drawOk_spec hd).2 k i _ y hk hx hy).resolve_left (by rw [ht]; simp)
    have hmm : max i k = i ∧ min i k = k := ⟨by omega, by omega⟩
    have h3 := evOps_swap hok.1 hok.2 (fun _ hk2 => needsFree_of (by omega) hx hy (by rw [hmm.1, hmm.2]; exact ht) hk2) (fun _ hk2 => needsFree_of (by omega) hy hx (by rw [Nat.max_comm, Nat.min_comm, hmm.1, hmm.2]; exact ht) hk2) h2
    have : opsOf ops (k :: l1 ++ l2) = (ops[k]'(by omega)) :: opsOf ops (l1 ++ l2) := by rw [← hxd]; rfl
    rw [this]; exact h3
end
section
variable {P : Program} {T : Tab} {n0 lo : Nat} {wt : List Tmp} {ops : Array Oper}
theorem RS.drew {S : Stay} {gh : List Value} {w : World} {a : Act} {st : St} (h : RS S gh w a st) : RS S gh w.drew a st ∧ Fr st.sto.length lo S gh w st.sto S gh w.drew st.sto := by
  have hf : Fr st.sto.length lo S gh w st.sto S gh w.drew st.sto := ⟨rfl, rfl, rfl, Nat.le_refl _, fun b o h => ⟨h, rfl⟩, fun b _ _ => rfl, fun i _ => ⟨rfl, rfl⟩, fun i g hi hg => .inl ⟨i, hi, hg⟩, fun i e gv _ h1 h2 => ⟨e, gv, h1, h2, KeepE.refl gv e⟩⟩
  refine ⟨⟨h.size, fun t v d hv hd => RepD.mono h.sto hf (h.env t v d hv hd), ⟨h.sto.len, fun i e hi => ?_, h.sto.inj, h.sto.stay⟩, h.defers, h.glob.mono hf.stable⟩, hf⟩
  obtain ⟨gv, h1, h2⟩ := h.sto.ent i e hi
  exact ⟨gv, h1, RepE.mono h.sto hf h2 fun g _ => ⟨rfl, fun o => Iff.rfl⟩⟩
/-- A region, whatever its order. -/
theorem evOps_any (hT : T.OK P) (hd : drawOk ops = true) {R : Exit → St → Prop} {S0 : Stay} {gh0 : List Value} {w0 : World} {sto0 : Sto} (hlo : lo ≤ n0) : ∀ (l : List Nat) (listed : Array Bool) (st : St) (S : Stay) (gh : List Value) (a : Act) (w : World), l.Pairwise (· < ·) → (∀ k, k ∈ l ↔ k < ops.size ∧ listed.getD k true = false) → listed.size = ops.size → Closed ops (fun k => listed.getD k false = true) →
    n0 ≤ st.sto.length → OutSc n0 st.sto → EvOps T (CallOK P) n0 lo wt true ops (R .normal) (opsOf ops l) st → RS S gh w a st → Fr n0 lo S0 gh0 w0 sto0 S gh w st.sto → wpAny P .any ops (PostOK n0 lo S0 gh0 w0 sto0 R) l.length listed a w := by
  intro l
  generalize hn : l.length = n
  induction n generalizing l with
  | zero =>
    intro listed st S gh a w hp hm hsz hc hn0 hos h hrs hf
    have hl : l = [] := List.length_eq_zero_iff.1 hn
    subst hl
    refine ⟨?_, ⟨rfl, st, S, gh, h, hrs, hf, hn0, hos⟩⟩
    rw [Region.ready, List.filter_eq_nil_iff]
    intro k hk
    have hk' : k < ops.size := by simpa using hk
    have : listed.getD k true = true := by
      have := (not_congr (hm k)).1 (by simp)
      simpa [hk'] using this
    simp [this]
  | succ n ih =>
    intro listed st S gh a w hp hm hsz hc hn0 hos h hrs hf
    have rdy : ∀ i, i ∈ Region.ready .any ops listed ↔ ∃ o, ops[i]? = some o ∧ listed.getD i true = false ∧ ∀ e ∈ o.after, Region.binds .any e = true → listed.getD e.on false = true := by
      intro i
      rw [Region.ready, List.mem_filter, List.mem_range]
      constructor
      · rintro ⟨h1, h2⟩
        have ho : ops[i]? = some ops[i] := Array.getElem?_eq_getElem h1
        simp only [ho, Option.map_some, Option.getD_some, Bool.and_eq_true, Bool.not_eq_true'] at h2
        refine ⟨_, ho, h2.1, fun e he hb => ?_⟩
        have h3 := Array.all_eq_true'.1 h2.2 e he
        simp only [hb, Bool.not_true, Bool.false_or] at h3
        exact h3
      · rintro ⟨o, ho, h1, h2⟩
        refine ⟨(Array.getElem?_eq_some_iff.1 ho).1, ?_⟩
        simp only [ho, Option.map_some, Option.getD_some, h1, Bool.not_false, Bool.true_and]
        refine Array.all_eq_true'.2 fun e he => ?_
        by_cases hb : Region.binds .any e = true
        · simp [h2 e he hb]
        · simp [hb]
    refine ⟨fun hnil => ?_, fun i hi => ?_⟩
    · -- somebody is ready
      exfalso
      cases l with
      | nil => simp at hn
      | cons i l =>
        obtain ⟨hi1, hi2⟩ := (hm i).1 (by simp)
        have ho : ops[i]? = some ops[i] := Array.getElem?_eq_getElem hi1
        have : i ∈ Region.ready .any ops listed := (rdy i).2 ⟨_, ho, hi2, fun e he hb => by
          have hlt := (drawOk_spec hd).1 i _ ho e he hb
          have hnot : e.on ∉ i :: l := by
            intro hmem
            rcases List.mem_cons.1 hmem with h | h
            · omega
            · have := (List.pairwise_cons.1 hp).1 e.on h; omega
          have := (not_congr (hm e.on)).1 hnot
          have hes : e.on < ops.size := by omega
          have hlt2 : e.on < listed.size := by omega
          simp only [hes, true_and, Array.getD_eq_getD_getElem?, Array.getElem?_eq_getElem hlt2, Option.getD_some] at this ⊢
          simpa using this⟩
        rw [hnil] at this
        cases this
    · obtain ⟨o, ho, hi2, hpre⟩ := (rdy i).1 hi
      have hisz : i < ops.size := (Array.getElem?_eq_some_iff.1 ho).1
      have hil : i ∈ l := (hm i).2 ⟨hisz, hi2⟩
      obtain ⟨l1, l2, rfl⟩ := List.append_of_mem hil
      have hpw := List.pairwise_append.1 hp
      have hl1 : ∀ k ∈ l1, k < i := fun k hk => hpw.2.2 k hk i (by simp)
      have hanc : ∀ k ∈ l1, k < i ∧ ((ancs ops.toList []).getD i 0).testBit k = false := by
        intro k hk
        refine ⟨hl1 k hk, ?_⟩
        cases hb : ((ancs ops.toList []).getD i 0).testBit k with
        | false => rfl
        | true =>
          exfalso
          have h1 : listed.getD k false = true := anc_listed hc i o ho hpre k hb
          have h2 := ((hm k).1 (by simp [hk])).2
          have hk2 : k < listed.size := by have := hl1 k hk; omega
          simp only [Array.getD_eq_getD_getElem?, Array.getElem?_eq_getElem hk2, Option.getD_some] at h1 h2
          rw [h1] at h2; cases h2
      have hb := bubble hd ho l2 l1 st hanc h
      unfold wpOp
      simp only [ho]
      have hstep := op_step (Q' := PostOK n0 lo S0 gh0 w0 sto0 R) (K := wpAny P .any ops (PostOK n0 lo S0 gh0 w0 sto0 R) n (listed.setIfInBounds i true)) hT hn0 hlo hos hb hrs fun a' w' st' S' gh' h1 h2 h3 h4 h5 => by
        have hisz2 : i < listed.size := by omega
        have look : ∀ k d, (listed.setIfInBounds i true).getD k d = if k = i then true else listed.getD k d := by
          intro k d
          simp only [Array.getD_eq_getD_getElem?]
          by_cases hk : k = i
          · subst hk
            rw [if_pos rfl, Array.getElem?_setIfInBounds_self_of_lt hisz2]; rfl
          · rw [if_neg hk, Array.getElem?_setIfInBounds_ne (fun e => hk e.symm)]
        have hni : i ∉ l1 ++ l2 := by
          intro hmem
          rcases List.mem_append.1 hmem with h | h
          · have := hl1 i h; omega
          · have := (List.pairwise_cons.1 hpw.2.1).1 i h; omega
        refine ih (l1 ++ l2) (by simp at hn ⊢; omega) (listed.setIfInBounds i true) st' S' gh' a' w' ?_ ?_ (by simp [hsz]) ?_ h4 h5 h1 h2 (hf.trans h3)
        · exact List.pairwise_append.2 ⟨hpw.1, (List.pairwise_cons.1 hpw.2.1).2, fun x hx y hy => hpw.2.2 x hx y (by simp [hy])⟩
        · intro k
          rw [look]
          by_cases hk : k = i
          · subst hk
            simp [hni]
          · rw [if_neg hk, ← hm k]
            simp [hk]
        · intro k o' ho' hk e he hb'
          rw [look] at hk ⊢
          by_cases hki : k = i
          · subst hki
            rw [ho] at ho'
            cases ho'
            have := hpre e he hb'
            split
            · rfl
            · exact this
          · rw [if_neg hki] at hk
            have := hc k o' ho' hk e he hb'
            split
            · rfl
            · exact this
      by_cases hw : Region.wanted o (yielded ops a.tmps) = true
      · rw [if_pos hw] at hstep ⊢
        exact .inl hstep
      · rw [if_neg hw] at hstep ⊢
        exact hstep
theorem evOps_draw (hT : T.OK P) (hm : P.follows .mixedOrders = true) (hd : drawOk ops = true) {R : Exit → St → Prop} (hlo : lo ≤ n0) {st : St} {S : Stay} {gh : List Value} {a : Act} {w : World} (hn : n0 ≤ st.sto.length) (hos : OutSc n0 st.sto) (h : EvOps T (CallOK P) n0 lo wt true ops (R .normal) ops.toList st) (hrs : RS S gh w a st) (id : Nat) :
    (Code.region id ops true).wp P (PostOK n0 lo S gh w st.sto R) a w := by
  refine wp_region_any hm ?_
  obtain ⟨hrs', hf⟩ := RS.drew (lo := lo) hrs
  have hl : opsOf ops (List.range ops.size) = ops.toList := by
    apply List.ext_getElem?
    intro k
    simp only [opsOf, List.getElem?_map]
    rcases Nat.lt_or_ge k ops.size with hk | hk
    · rw [List.getElem?_range hk, Array.getElem?_toList, Array.getElem?_eq_getElem hk]
      simp [Array.getD_eq_getD_getElem?, hk]
    · rw [List.getElem?_eq_none (by simpa using hk), List.getElem?_eq_none (by simpa using hk)]; rfl
  have := evOps_any (P := P) hT hd (R := R) (S0 := S) (gh0 := gh) (w0 := w) (sto0 := st.sto) hlo (List.range ops.size) (Array.replicate ops.size false) st S gh a w.drew List.pairwise_lt_range (fun k => by
    simp only [List.mem_range, Array.getD_eq_getD_getElem?]
    constructor
    · intro hk; exact ⟨hk, by simp [hk]⟩
    · exact fun h => h.1) (by simp) (fun k o ho hk => by
    exfalso
    simp only [Array.getD_eq_getD_getElem?] at hk
    rcases Nat.lt_or_ge k ops.size with h | h
    · simp [h] at hk
    · simp [h] at hk) hn hos (by rw [hl]; exact h) hrs' (hf.weaken hn)
  rw [List.length_range] at this
  exact this
end
end Go.Proofs.YtgkhcjdpdgfdbaaDoor
namespace Go.Proofs.YtgkhcjdpdgfdbaaDoor
open Go Go.RowKit

/-! ### A loop, one round at a time -/
theorem exitTo_len {id : Nat} : ∀ {k k' : List Item}, exitTo id k = some k' → k'.length ≤ k.length
  | [], k', h => by simp [exitTo] at h
  | x :: k, k', h => by
    cases x <;> simp only [exitTo] at h
    case inBlock j =>
      split at h
      · simp only [Option.some.injEq] at h; subst h; simp
      · have := exitTo_len h; simp only [List.length_cons]; omega
    all_goals (have := exitTo_len h; simp only [List.length_cons]; omega)
theorem steps_tail {P : Program} {m m1 m' : Machine} (h1 : step P m = .next m1) (h : Steps P m m') (hne : m ≠ m') : Steps P m1 m' := by
  obtain ⟨n, hn⟩ := h
  cases n with
  | zero => simp only [runN, Stepped.next.injEq] at hn; exact absurd hn hne
  | succ n => simp only [runN, h1] at hn; exact ⟨n, hn⟩
theorem lone_todo {f g : Frame} {cs : List Frame} {w w' : World} (h : lone f cs w = lone g cs w') : f.todo = g.todo ∧ f.mode = g.mode := by
  simp only [lone, Machine.mk.injEq, Array.mk.injEq, List.cons.injEq, Goroutine.mk.injEq] at h
  obtain ⟨_, ⟨⟨rfl, _⟩, _⟩, _⟩ := h
  exact ⟨rfl, rfl⟩
theorem wp_loop_unroll {P : Program} {c : Code} {Q : Exit → Act → World → Prop} (hQ : ∀ e a w, Q e a w → okExit e = true) {a : Act} {w : World} (h : c.wp P (Exit.then ((Code.loop c).wp P Q) Q) a w) : (Code.loop c).wp P Q a w := by
  intro b k cs
  obtain ⟨e, a₁, w₁, hq, harr⟩ := h b (.inLoop c :: k) cs
  cases e with
  | normal =>
    obtain ⟨e₂, a₂, w₂, hq₂, harr₂⟩ := hq b k cs
    refine ⟨e₂, a₂, w₂, hq₂, .of_steps (Steps.head step_loop harr) ?_⟩
    have h1 : step P (lone (b.at a₁ (.inLoop c :: k)) cs w₁) = .next (lone (b.at a₁ (.code c :: .inLoop c :: k)) cs w₁) := step_inLoop
    have h2 : step P (lone (b.at a₁ (.code (.loop c) :: k)) cs w₁) = .next (lone (b.at a₁ (.code c :: .inLoop c :: k)) cs w₁) := step_loop
    have move : ∀ m', lone (b.at a₁ (.code (.loop c) :: k)) cs w₁ ≠ m' → Steps P (lone (b.at a₁ (.code (.loop c) :: k)) cs w₁) m' → Steps P (lone (b.at a₁ (.inLoop c :: k)) cs w₁) m' := fun m' hne hs => .head h1 (steps_tail h2 hs hne)
    cases e₂ with
    | normal =>
      refine move _ (fun heq => ?_) harr₂
      have := (lone_todo heq).1
      simp only [Frame.at] at this
      have := congrArg List.length this
      simp at this
    | exit id =>
      intro k' hk'
      refine move _ (fun heq => ?_) (harr₂ k' hk')
      have h3 := (lone_todo heq).1
      simp only [Frame.at] at h3
      have h4 := exitTo_len hk'
      rw [← h3] at h4
      simp at h4
      omega
    | ret =>
      obtain ⟨todo, hs⟩ := harr₂
      refine ⟨todo, move _ (fun heq => ?_) hs⟩
      have := (lone_todo heq).2
      simp [Frame.at] at this
    | goto l => exact absurd (hQ _ _ _ hq₂) (by simp [okExit])
    | panic c => exact absurd (hQ _ _ _ hq₂) (by simp [okExit])
    | outgrown => exact absurd (hQ _ _ _ hq₂) (by simp [okExit])
  | exit id => exact ⟨_, a₁, w₁, hq, .of_steps (.one step_loop) (.pass (x := .inLoop c) rfl (fun _ _ => .inl (by simp)) harr)⟩
  | goto l => exact absurd (hQ _ _ _ hq) (by simp [okExit])
  | ret => exact ⟨_, a₁, w₁, hq, .of_steps (.one step_loop) (.pass (x := .inLoop c) rfl (fun _ _ => .inl (by simp)) harr)⟩
  | panic ch => exact absurd (hQ _ _ _ hq) (by simp [okExit])
  | outgrown => exact absurd (hQ _ _ _ hq) (by simp [okExit])

/-! ### What is done between regions and rounds -/
section
variable {n0 lo : Nat} {S : Stay} {gh : List Value} {w : World} {a : Act} {st : St}
/-- What such a step leaves. -/
def GhostOK (n0 lo : Nat) (S : Stay) (gh : List Value) (w : World) (a : Act) (sto : Sto) (st' : St) : Prop :=
  ∃ S' gh', RS S' gh' w a st' ∧ Fr n0 lo S gh w sto S' gh' w st'.sto ∧ n0 ≤ st'.sto.length ∧ OutSc n0 st'.sto
theorem share_one (hs : SR S gh w st.sto) (hrs : RS S gh w a st) (hn : n0 ≤ st.sto.length) (hos : OutSc n0 st.sto) {i : Nat} {e : Ent} (hi : st.sto[i]? = some e) (hlo : lo ≤ i) : GhostOK n0 lo S gh w a st.sto { st with sto := st.sto.set i (shareE e) } := by
  have keepSame : st.sto.set i e = st.sto := by
    apply List.ext_getElem?
    intro k
    rcases Nat.decEq i k with h | h
    · rw [List.getElem?_set_ne h]
    · subst h; rw [List.getElem?_set_self (List.getElem?_eq_some_iff.1 hi).1, hi]
  cases e with
  | cells ds =>
    have hsE : shareE (.cells ds) = .cells ds := rfl
    exact ⟨S, gh, by rw [hsE, keepSame]; exact hrs, by simp only [hsE, keepSame]; exact Fr.refl _ _ _ _ _ _, by simpa [hsE, keepSame] using hn, by simpa [hsE, keepSame] using hos⟩
  | map k kvs =>
    have hsE : shareE (.map k kvs) = .map k kvs := rfl
    exact ⟨S, gh, by rw [hsE, keepSame]; exact hrs, by simp only [hsE, keepSame]; exact Fr.refl _ _ _ _ _ _, by simpa [hsE, keepSame] using hn, by simpa [hsE, keepSame] using hos⟩
  | arr es wr n cs =>
    obtain ⟨gv, hg, hE⟩ := hs.ent i _ hi
    obtain ⟨S', hS'⟩ : ∃ S' : Stay, S' = fun b o => S b o ∨ (blk gv = some b ∧ o < cs.length) := ⟨_, rfl⟩
    have hst : ∀ b o, S b o → S' b o ∧ w.cell? ⟨b, o, none⟩ = w.cell? ⟨b, o, none⟩ := fun b o h => ⟨by rw [hS']; exact .inl h, rfl⟩
    have hf : Fr st.sto.length lo S gh w st.sto S' (gh.set i gv) w (st.sto.set i (.arr es false n cs)) := upd_fr hi hg hlo rfl rfl rfl (Nat.le_refl _) (fun _ _ _ => rfl) hst (fun g h => .inl h) ⟨Nat.le_refl _, fun _ => rfl⟩
    have hlt : ∀ b, blk gv = some b → b < w.heap.size := fun b hb => hE.lt hb
    have hsr := upd_sr (e' := .arr es false n cs) hs hi hg hf (fun _ _ _ => rfl) (fun b o h => by
      rw [hS'] at h
      rcases h with h | ⟨h, _⟩
      · exact .inl h
      · exact .inr ⟨h, hlt b h⟩) (fun g h => .inl h) (by
      cases es with
      | none => exact hE
      | some es =>
        obtain ⟨e0, s⟩ := es
        obtain ⟨g, cap, cur, rfl, hh, h1, h2, h3, h4, h5, h6⟩ := hE
        refine ⟨g, cap, cur, rfl, hh, h1, h2, h3, h4, fun j u c hu hc => ⟨(h5 j u c hu hc).1, RepV.mono hf.stable (h5 j u c hu hc).2⟩, ?_⟩
        simp only [Bool.false_eq_true, if_false]
        intro o
        rw [hS', h4]
        constructor
        · rintro (h | ⟨_, h⟩)
          · cases wr with
            | true => simp only [if_true] at h6; exact absurd h (h6 o)
            | false => simp only [Bool.false_eq_true, if_false] at h6; exact (h6 o).1 h
          · exact h
        · exact fun h => .inr ⟨rfl, h⟩)
    refine ⟨S', gh.set i gv, ⟨hrs.size, fun t v d hv hd => RepD.mono hs hf (hrs.env t v d hv hd), hsr, hrs.defers, hrs.glob.mono hf.stable⟩, hf.weaken hn, by simpa [shareE] using hn, ?_⟩
    exact hos.setArr
theorem shareAll_ok : ∀ (l : List Nat) (st : St) (S : Stay) (gh : List Value), RS S gh w a st → n0 ≤ st.sto.length → OutSc n0 st.sto → GhostOK n0 lo S gh w a st.sto { st with sto := shareAll lo l st.sto }
  | [], st, S, gh, hrs, hn, hos => ⟨S, gh, hrs, Fr.refl _ _ _ _ _ _, hn, hos⟩
  | i :: l, st, S, gh, hrs, hn, hos => by
    unfold shareAll
    by_cases hlo : lo ≤ i
    · rw [if_pos hlo]
      cases hi : st.sto[i]? with
      | none => exact shareAll_ok l st S gh hrs hn hos
      | some e =>
        obtain ⟨S', gh', h1, h2, h3, h4⟩ := share_one hrs.sto hrs hn hos hi hlo
        obtain ⟨S2, gh2, k1, k2, k3, k4⟩ := shareAll_ok l _ S' gh' h1 h3 h4
        exact ⟨S2, gh2, k1, h2.trans k2, k3, k4⟩
    · rw [if_neg hlo]
      exact shareAll_ok l st S gh hrs hn hos
theorem RS.setEnv (hrs : RS S gh w a st) (t : Nat) (d : D) (hd : ∀ v, a.tmps.toList[t]? = some v → RepD S gh st.sto w v d) : RS S gh w a { st with env := st.env.set t d } := by
  refine ⟨by simpa using hrs.size, fun t' v e hv he => ?_, hrs.sto, hrs.defers, hrs.glob⟩
  simp only at he
  rcases Nat.decEq t t' with h | h
  · rw [List.getElem?_set_ne h] at he; exact hrs.env t' v e hv he
  · subst h
    have hlt := (List.getElem?_eq_some_iff.1 hv).1
    rw [List.getElem?_set_self (by rw [← hrs.size]; exact hlt)] at he
    cases he
    exact hd v hv
/-- A cell of a box is read otherwise; memory stays as it is. -/
theorem cell_over {i k : Nat} {ds : List D} {d : D} (hrs : RS S gh w a st) (hn : n0 ≤ st.sto.length) (hos : OutSc n0 st.sto) (hi : st.sto[i]? = some (.cells ds)) (hlo : lo ≤ i) (hsc : i < n0 → d.inside n0 = true) (hd : ∀ v, (∃ e, ds[k]? = some e ∧ RepC S gh st.sto w v e) → RepC S gh st.sto w v d) : GhostOK n0 lo S gh w a st.sto { st with sto := st.sto.set i (.cells (ds.set k d)) } := by
  obtain ⟨gv, hg, hE⟩ := hrs.sto.ent i _ hi
  have hf : Fr st.sto.length lo S gh w st.sto S (gh.set i gv) w (st.sto.set i (.cells (ds.set k d))) := upd_fr hi hg hlo rfl rfl rfl (Nat.le_refl _) (fun _ _ _ => rfl) (fun b o h => ⟨h, rfl⟩) (fun g h => .inl h) ⟨rfl, by simp⟩
  have hsr := upd_sr (e' := .cells (ds.set k d)) hrs.sto hi hg hf (fun _ _ _ => rfl) (fun b o h => .inl h) (fun g h => .inl h) (by
    obtain ⟨g, cur, ty, rfl, hh, h1, h2, h3⟩ := hE
    refine ⟨g, cur, ty, rfl, hh, by simpa using h1, h2, fun j u e hu he => ?_⟩
    rcases Nat.decEq k j with h | h
    · rw [List.getElem?_set_ne h] at he
      have := h3 j u e hu he
      exact ⟨this.1, RepC.mono hrs.sto hf this.2⟩
    · subst h
      have hlt : k < ds.length := by have := (List.getElem?_eq_some_iff.1 hu).1; omega
      rw [List.getElem?_set_self hlt] at he
      cases he
      have := h3 k u _ hu (List.getElem?_eq_getElem hlt)
      exact ⟨this.1, RepC.mono hrs.sto hf (hd u ⟨_, List.getElem?_eq_getElem hlt, this.2⟩)⟩)
  refine ⟨S, _, ⟨hrs.size, fun t v d hv hd => RepD.mono hrs.sto hf (hrs.env t v d hv hd), hsr, hrs.defers, hrs.glob.mono hf.stable⟩, hf.weaken hn, by simpa using hn, fun j es hj he => ?_⟩
  simp only at he
  rcases Nat.decEq i j with h | h
  · rw [List.getElem?_set_ne h] at he; exact hos j es hj he
  · subst h
    rw [List.getElem?_set_self (List.getElem?_eq_some_iff.1 hi).1] at he
    simp only [Option.some.injEq, Ent.cells.injEq] at he
    subst he
    have h0 := hos i ds hj hi
    rw [scopedL_iff] at h0 ⊢
    intro e he
    rcases List.mem_or_eq_of_mem_set he with h | rfl
    · exact h0 e h
    · exact hsc hj
/-- A nil slice that gets an entry. -/
theorem push_nil {wr : Bool} (hrs : RS S gh w a st) (hn : n0 ≤ st.sto.length) (hos : OutSc n0 st.sto) (hlo : lo ≤ st.sto.length) : ∃ gh', RS S gh' w a { st with sto := st.sto ++ [.arr none wr 0 []] } ∧ Fr st.sto.length lo S gh w st.sto S gh' w (st.sto ++ [.arr none wr 0 []]) ∧ OutSc n0 (st.sto ++ [.arr none wr 0 []]) ∧ gh'[st.sto.length]? = some (.slice none 0 0) := by
  have hf : Fr st.sto.length lo S gh w st.sto S (gh ++ [.slice none 0 0]) w (st.sto ++ [.arr none wr 0 []]) := push_fr hrs.sto hlo (Below.refl _ _) (fun _ _ h => h) (fun g h => by simp [blk] at h)
  have hsr := push_sr hrs.sto hf (Below.refl _ _) (fun b o h => .inl h) (fun g h => by simp [blk] at h) ⟨rfl, rfl, rfl⟩
  exact ⟨_, ⟨hrs.size, fun t v d hv hd => RepD.mono hrs.sto hf (hrs.env t v d hv hd), hsr, hrs.defers, hrs.glob.mono hf.stable⟩, hf, hos.push hn _, by rw [← hrs.sto.len]; simp⟩
theorem arr_nil_rep {wr : Bool} {gh' : List Value} {sto : Sto} {v : Value} (hg : gh'[sto.length]? = some (.slice none 0 0)) (hv : v = .slice none 0 0) : RepC S gh' (sto ++ [.arr none wr 0 []]) w v (.arr sto.length 0) := by
  subst hv
  refine ⟨by simp, ⟨_, _, rfl⟩, fun es wr' m cs h => ?_⟩
  simp only [List.getElem?_append_right (Nat.le_refl _), Nat.sub_self, List.getElem?_cons_zero, Option.some.injEq, Ent.arr.injEq] at h
  obtain ⟨_, _, rfl, _⟩ := h
  exact ⟨Nat.le_refl _, fun _ => hg⟩
theorem inside_agree {m : Nat} {gh2 : List Value} {sto sto2 : Sto} {d : D} {v : Value} (g1 : ∀ id, id < m → gh2[id]? = gh[id]?) (s1 : ∀ id, id < m → sto2[id]? = sto[id]?) (l1 : ∀ id, id < m → id < sto2.length) (h : RepC S gh sto w v d) (hd : d.inside m = true) : RepC S gh2 sto2 w v d := by
  cases d with
  | v x => exact h
  | agg ds => exact h
  | nilS => exact h
  | arr id n =>
    have hid : id < m := by simpa [D.inside] using hd
    obtain ⟨h1, h2, h3⟩ := h
    exact ⟨l1 id hid, h2, fun es wr k cs hs => by rw [s1 id hid] at hs; rw [g1 id hid]; exact h3 es wr k cs hs⟩
  | aptr id n o =>
    have hid : id < m := by simpa [D.inside] using hd
    obtain ⟨h1, h2, h3⟩ := h
    refine ⟨l1 id hid, h2, fun es wr k cs hs => ?_⟩
    rw [s1 id hid] at hs
    unfold blkAt
    rw [g1 id hid]
    exact h3 es wr k cs hs
  | ptr id off =>
    have hid : id < m := by simpa [D.inside] using hd
    obtain ⟨h1, g, h2, h3⟩ := h
    exact ⟨l1 id hid, g, by rw [g1 id hid]; exact h2, h3⟩
  | vp cs o => exact h
  | nilp => exact h
  | clo f caps =>
    obtain ⟨vs, h1, h2, h3⟩ := h
    refine ⟨vs, h1, h2, fun j id hj => ?_⟩
    obtain ⟨a1, g, a2, a3⟩ := h3 j id hj
    have hid : id < m := by
      simp only [D.inside, List.all_eq_true, decide_eq_true_eq] at hd
      exact hd id (List.mem_of_getElem? hj)
    exact ⟨l1 id hid, g, by rw [g1 id hid]; exact a2, a3⟩
  | nilf => exact h
  | undef => exact h
  | dead => exact h
  | win id n o k =>
    have hid : id < m := by simpa [D.inside] using hd
    obtain ⟨h1, h2, h3⟩ := h
    refine ⟨l1 id hid, h2, fun es wr k cs hs => ?_⟩
    rw [s1 id hid] at hs
    unfold blkAt
    rw [g1 id hid]
    exact h3 es wr k cs hs
  | map id =>
    have hid : id < m := by simpa [D.inside] using hd
    obtain ⟨h1, g, h2, h3⟩ := h
    exact ⟨l1 id hid, g, by rw [g1 id hid]; exact h2, h3⟩
  | nilM => exact h
theorem inside_take {m : Nat} {sto : Sto} {d : D} {v : Value} (hm : m ≤ sto.length) (h : RepC S gh sto w v d) (hd : d.inside m = true) : RepC S (gh.take m) (sto.take m) w v d :=
  inside_agree (fun id h => List.getElem?_take_of_lt h) (fun id h => List.getElem?_take_of_lt h) (fun id h => by simp; omega) h hd
theorem SR.take {m : Nat} {sto : Sto} (hs : SR S gh w sto) (hm : m ≤ sto.length) (hsc : ∀ i ds, i < m → sto[i]? = some (.cells ds) → scopedL m ds = true) : SR S (gh.take m) w (sto.take m) where
  len := by simp [hs.len]
  ent := fun i e hi => by
    have him : i < m := by have := (List.getElem?_eq_some_iff.1 hi).1; simp at this; omega
    rw [List.getElem?_take_of_lt him] at hi
    obtain ⟨gv, h1, h2⟩ := hs.ent i e hi
    refine ⟨gv, by rw [List.getElem?_take_of_lt him]; exact h1, ?_⟩
    cases e with
    | cells ds =>
      obtain ⟨g, cur, ty, rfl, hh, k1, k2, k3⟩ := h2
      refine ⟨g, cur, ty, rfl, hh, k1, k2, fun k u d hu hd => ⟨(k3 k u d hu hd).1, inside_take hm (k3 k u d hu hd).2 ?_⟩⟩
      exact scopedL_iff.1 (hsc i ds him hi) d (List.mem_of_getElem? hd)
    | arr es wr n cs => cases es <;> exact h2
    | map k kvs => exact h2
  inj := fun i j g hi hj => by
    have look : ∀ i, blkAt (gh.take m) i = some g → blkAt gh i = some g := by
      intro i h
      unfold blkAt at h ⊢
      rcases Nat.lt_or_ge i m with h1 | h1
      · rw [List.getElem?_take_of_lt h1] at h; exact h
      · rw [List.getElem?_eq_none (by simp; omega)] at h; cases h
    exact hs.inj i j g (look i hi) (look j hj)
  stay := hs.stay
/-- One slice of the call's own outlives it. -/
theorem SR.moved {m id n : Nat} {es : Option (TypeId × Nat)} {wr : Bool} {cs : List V} {gv : Value} {sto : Sto} (hs : SR S gh w sto) (hm : m ≤ sto.length) (hsc : ∀ i ds, i < m → sto[i]? = some (.cells ds) → scopedL m ds = true) (hid : m ≤ id) (hes : sto[id]? = some (.arr es wr n cs)) (hg : gh[id]? = some gv) : SR S (gh.take m ++ [gv]) w (sto.take m ++ [.arr es wr n cs]) where
  len := by simp [hs.len]
  ent := fun i e hi => by
    have hl : (sto.take m).length = m := by simp; omega
    have hl2 : (gh.take m).length = m := by simp [hs.len]; omega
    rcases Nat.lt_or_ge i m with him | him
    · rw [List.getElem?_append_left (by omega), List.getElem?_take_of_lt him] at hi
      obtain ⟨gv, h1, h2⟩ := hs.ent i e hi
      refine ⟨gv, by rw [List.getElem?_append_left (by omega), List.getElem?_take_of_lt him]; exact h1, ?_⟩
      cases e with
      | cells ds =>
        obtain ⟨g, cur, ty, rfl, hh, k1, k2, k3⟩ := h2
        refine ⟨g, cur, ty, rfl, hh, k1, k2, fun k u d hu hd => ⟨(k3 k u d hu hd).1, inside_agree (m := m) (fun id h => ?_) (fun id h => ?_) (fun id h => by simp; omega) (k3 k u d hu hd).2 ?_⟩⟩
        · rw [List.getElem?_append_left (by omega), List.getElem?_take_of_lt h]
        · rw [List.getElem?_append_left (by omega), List.getElem?_take_of_lt h]
        · exact scopedL_iff.1 (hsc i ds him hi) d (List.mem_of_getElem? hd)
      | arr es wr n cs => cases es <;> exact h2
      | map k kvs => exact h2
    · rw [List.getElem?_append_right (by omega), hl] at hi
      have h0 : i - m = 0 := by
        rcases Nat.eq_zero_or_pos (i - m) with h0 | h0
        · exact h0
        · rw [List.getElem?_eq_none (by simp; omega)] at hi; cases hi
      rw [h0] at hi
      simp only [List.getElem?_cons_zero, Option.some.injEq] at hi
      subst hi
      obtain ⟨gv', h1, h2⟩ := hs.ent id _ hes
      rw [hg] at h1
      cases h1
      refine ⟨gv, by rw [List.getElem?_append_right (by omega), hl2, h0]; rfl, ?_⟩
      cases es <;> exact h2
  inj := fun i j g hi hj => by
    have hl2 : (gh.take m).length = m := by simp [hs.len]; omega
    have look : ∀ i, blkAt (gh.take m ++ [gv]) i = some g → (i < m ∧ blkAt gh i = some g) ∨ (i = m ∧ blkAt gh id = some g) := by
      intro i h
      unfold blkAt at h ⊢
      rcases Nat.lt_or_ge i m with h1 | h1
      · rw [List.getElem?_append_left (by omega), List.getElem?_take_of_lt h1] at h; exact .inl ⟨h1, h⟩
      · rw [List.getElem?_append_right (by omega), hl2] at h
        rcases Nat.eq_zero_or_pos (i - m) with h0 | h0
        · rw [h0] at h
          rw [hg]
          exact .inr ⟨by omega, h⟩
        · rw [List.getElem?_eq_none (by simp; omega)] at h; cases h
    rcases look i hi with ⟨a, b⟩ | ⟨a, b⟩ <;> rcases look j hj with ⟨c, d⟩ | ⟨c, d⟩
    · exact hs.inj i j g b d
    · have := hs.inj i id g b d; omega
    · have := hs.inj j id g d b; omega
    · omega
  stay := hs.stay
theorem moved_fr {m id : Nat} {gv : Value} {e : Ent} {sto : Sto} (hs : SR S gh w sto) (hm : n0 ≤ m) (hml : m ≤ sto.length) (hlo : lo ≤ n0) (hid : m ≤ id) (hg : gh[id]? = some gv) : Fr n0 lo S gh w sto S (gh.take m ++ [gv]) w (sto.take m ++ [e]) where
  os := rfl
  tape := rfl
  output := rfl
  size := Nat.le_refl _
  stable := fun b o h => ⟨h, rfl⟩
  block := fun _ _ _ => rfl
  low := fun i hi => by
    have hl : (sto.take m).length = m := by simp; omega
    have hl2 : (gh.take m).length = m := by simp [hs.len]; omega
    exact ⟨by rw [List.getElem?_append_left (by omega), List.getElem?_take_of_lt (by omega)], by rw [List.getElem?_append_left (by omega), List.getElem?_take_of_lt (by omega)]⟩
  new := fun i g hi hgi => by
    have hl2 : (gh.take m).length = m := by simp [hs.len]; omega
    unfold blkAt at hgi
    rcases Nat.lt_or_ge i m with h1 | h1
    · rw [List.getElem?_append_left (by omega), List.getElem?_take_of_lt h1] at hgi; exact .inl ⟨i, hi, hgi⟩
    · rw [List.getElem?_append_right (by omega), hl2] at hgi
      rcases Nat.eq_zero_or_pos (i - m) with h0 | h0
      · rw [h0] at hgi
        exact .inl ⟨id, by omega, by unfold blkAt; rw [hg]; exact hgi⟩
      · rw [List.getElem?_eq_none (by simp; omega)] at hgi; cases hgi
  keep := fun i e gv hi h1 h2 => by
    have hl : (sto.take m).length = m := by simp; omega
    have hl2 : (gh.take m).length = m := by simp [hs.len]; omega
    exact ⟨e, gv, by rw [List.getElem?_append_left (by omega), List.getElem?_take_of_lt (by omega)]; exact h1, by rw [List.getElem?_append_left (by omega), List.getElem?_take_of_lt (by omega)]; exact h2, KeepE.refl gv e⟩
theorem take_fr {m : Nat} {sto : Sto} (hm : n0 ≤ m) (hlo : lo ≤ n0) : Fr n0 lo S gh w sto S (gh.take m) w (sto.take m) where
  os := rfl
  tape := rfl
  output := rfl
  size := Nat.le_refl _
  stable := fun b o h => ⟨h, rfl⟩
  block := fun _ _ _ => rfl
  low := fun i hi => ⟨List.getElem?_take_of_lt (by omega), List.getElem?_take_of_lt (by omega)⟩
  new := fun i g hi hg => by
    unfold blkAt at hg
    rcases Nat.lt_or_ge i m with h1 | h1
    · rw [List.getElem?_take_of_lt h1] at hg; exact .inl ⟨i, hi, hg⟩
    · rw [List.getElem?_eq_none (by simp; omega)] at hg; cases hg
  keep := fun i e gv hi h1 h2 => ⟨e, gv, by rw [List.getElem?_take_of_lt (by omega)]; exact h1, by rw [List.getElem?_take_of_lt (by omega)]; exact h2, KeepE.refl gv e⟩
theorem ghost_ok {s s' : St} (hg : Ghost n0 lo s s') (hlo : lo ≤ n0) : ∀ (S : Stay) (gh : List Value), RS S gh w a s → n0 ≤ s.sto.length → OutSc n0 s.sto → GhostOK n0 lo S gh w a s.sto s' := by
  induction hg with
  | refl s => intro S gh hrs hn hos; exact ⟨S, gh, hrs, Fr.refl _ _ _ _ _ _, hn, hos⟩
  | trans _ _ ih1 ih2 =>
    intro S gh hrs hn hos
    obtain ⟨S1, g1, h1, h2, h3, h4⟩ := ih1 S gh hrs hn hos
    obtain ⟨S2, g2, k1, k2, k3, k4⟩ := ih2 S1 g1 h1 h3 h4
    exact ⟨S2, g2, k1, h2.trans k2, k3, k4⟩
  | kill s t => intro S gh hrs hn hos; exact ⟨S, gh, hrs.setEnv t .dead fun v _ => True.intro, Fr.refl _ _ _ _ _ _, hn, hos⟩
  | view s t d x h hv =>
    intro S gh hrs hn hos
    exact ⟨S, gh, hrs.setEnv t (.v x) fun v hv' => view_rep hrs.sto (hrs.env t v d hv' h) hv, Fr.refl _ _ _ _ _ _, hn, hos⟩
  | adopt s t wr h hl =>
    intro S gh hrs hn hos
    obtain ⟨gh', h1, h2, h3, h4⟩ := push_nil (wr := wr) hrs hn hos hl
    refine ⟨S, gh', h1.setEnv t (.arr s.sto.length 0) fun v hv => ?_, h2.weaken hn, by simp; omega, h3⟩
    exact arr_nil_rep (S := S) (w := w) h4 (hrs.env t v .nilS hv h)
  | adoptC s i k wr ds h hk hi hl =>
    intro S gh hrs hn hos
    have hil : i < s.sto.length := (List.getElem?_eq_some_iff.1 h).1
    obtain ⟨gh', h1, h2, h3, h4⟩ := push_nil (lo := lo) (wr := wr) hrs hn hos (by omega)
    have hi' : (s.sto ++ [.arr none wr 0 []])[i]? = some (.cells ds) := by rw [List.getElem?_append_left hil]; exact h
    obtain ⟨S2, gh2, k1, k2, k3, k4⟩ := cell_over (k := k) (d := .arr s.sto.length 0) h1 (by simp; omega) h3 hi' hl (fun h => by omega) (fun v ⟨e, he, hr⟩ => by
      rw [hk] at he
      cases he
      exact arr_nil_rep h4 hr)
    rw [List.set_append_left _ _ hil] at k1 k2 k3 k4
    exact ⟨S2, gh2, k1, (h2.weaken hn).trans k2, k3, k4⟩
  | killC s i k ds h hi hl =>
    intro S gh hrs hn hos
    exact cell_over (k := k) (d := .dead) hrs hn hos h hl (fun _ => rfl) (fun v _ => True.intro)
  | viewC s i k ds d x h hk hv hl =>
    intro S gh hrs hn hos
    exact cell_over (k := k) (d := .v x) hrs hn hos h hl (fun _ => rfl) (fun v ⟨e, he, hr⟩ => by
      rw [hk] at he
      cases he
      exact viewC_rep hrs.sto hr hv)
  | share s l => intro S gh hrs hn hos; exact shareAll_ok l s S gh hrs hn hos
  | trunc s m hm he hs =>
    intro S gh hrs hn hos
    rcases Nat.lt_or_ge s.sto.length m with hml | hml
    · have e1 : s.sto.take m = s.sto := List.take_of_length_le (by omega)
      exact ⟨S, gh, by rw [e1]; exact hrs, by simp only [e1]; exact Fr.refl _ _ _ _ _ _, by simpa [e1] using hn, by simpa [e1] using hos⟩
    · have hsc : ∀ i ds, i < m → s.sto[i]? = some (.cells ds) → scopedL m ds = true := by
        intro i ds him hi
        rcases Nat.lt_or_ge i n0 with h | h
        · have := hos i ds h hi
          rw [scopedL_iff] at this ⊢
          intro d hd
          have h2 := this d hd
          cases d <;> simp only [D.inside, decide_eq_true_eq, List.all_eq_true] at h2 ⊢ <;> first | omega | (intro x hx; have := h2 x hx; omega) | exact h2
        · exact hs i ds him hi h
      refine ⟨S, gh.take m, ⟨hrs.size, fun t v d hv hd => ?_, hrs.sto.take hml hsc, hrs.defers, hrs.glob⟩, take_fr hm hlo, by simp; omega, fun i ds hi hd => ?_⟩
      · have hsd := scopedL_iff.1 he d (List.mem_of_getElem? hd)
        have hr := hrs.env t v d hv hd
        cases d with
        | agg ds => simp [D.inside] at hsd
        | _ => simp only [RepD] at hr ⊢; exact inside_take hml hr hsd
      · simp only at hd
        rw [List.getElem?_take_of_lt (by omega)] at hd
        exact hos i ds hi hd
end
end Go.Proofs.YtgkhcjdpdgfdbaaDoor
namespace Go.Proofs.YtgkhcjdpdgfdbaaDoor
open Go Go.RowKit

section
variable {P : Program} {T : Tab} {n0 lo : Nat} {wt : List Tmp}
theorem postOK_ok {S : Stay} {gh : List Value} {w : World} {sto : Sto} {R : Exit → St → Prop} : ∀ e a w', PostOK n0 lo S gh w sto R e a w' → okExit e = true := fun _ _ _ h => h.1
theorem evC_sound (hT : T.OK P) (hm : P.follows .mixedOrders = true) (hlo : lo ≤ n0) : ∀ (c : Code) (R : Exit → St → Prop) (st : St) (S : Stay) (gh : List Value) (a : Act) (w : World), EvC T (CallOK P) n0 lo wt c R st → RS S gh w a st → n0 ≤ st.sto.length → OutSc n0 st.sto → c.wp P (PostOK n0 lo S gh w st.sto R) a w := by
  intro c
  induction c with
  | skip => intro R st S gh a w h hrs hn hos; exact wp_skip ⟨rfl, st, S, gh, h, hrs, Fr.refl _ _ _ _ _ _, hn, hos⟩
  | region id ops draw =>
    intro R st S gh a w h hrs hn hos
    simp only [EvC] at h
    obtain ⟨hd, st2, hgs, h⟩ := h
    obtain ⟨S', gh', h1, h2, h3, h4⟩ := ghost_ok hgs hlo S gh hrs hn hos
    cases draw with
    | false =>
      refine Code.wp_mono (fun e a w h => PostOK.trans h2 h) ?_
      exact wp_region_list (evOps_list hT hlo ops.toList _ S' gh' a w h3 h4 h h1 (Fr.refl _ _ _ _ _ _))
    | true => exact Code.wp_mono (fun e a w h => PostOK.trans h2 h) (evOps_draw hT hm (hd rfl) hlo h3 h4 h h1 id)
  | seq x y ihx ihy =>
    intro R st S gh a w h hrs hn hos
    simp only [EvC] at h
    refine wp_seq (Code.wp_mono ?_ (ihx _ st S gh a w h hrs hn hos))
    rintro e a' w' ⟨h0, st', S', gh', h1, h2, h3, h4, h5⟩
    cases e with
    | normal => exact Code.wp_mono (fun e a w h => PostOK.trans h3 h) (ihy R st' S' gh' a' w' h1 h2 h4 h5)
    | exit id => exact ⟨h0, st', S', gh', h1, h2, h3, h4, h5⟩
    | ret => exact ⟨h0, st', S', gh', h1, h2, h3, h4, h5⟩
    | goto l => cases h0
    | panic l => cases h0
    | outgrown => cases h0
  | cond c x y ihx ihy =>
    intro R st S gh a w h hrs hn hos
    simp only [EvC] at h
    split at h
    · rename_i b hb
      have hv := hrs.opd c
      rw [hb] at hv
      have hv' := RepV.bool_inv hv
      refine wp_cond (t := b) hv' ?_
      cases b with
      | true => exact ihx R st S gh a w (h.1 rfl) hrs hn hos
      | false => exact ihy R st S gh a w (h.2 rfl) hrs hn hos
    · exact h.elim
  | block id b ih =>
    intro R st S gh a w h hrs hn hos
    simp only [EvC] at h
    refine wp_block (Code.wp_mono ?_ (ih _ st S gh a w h hrs hn hos))
    rintro e a' w' ⟨h0, st', S', gh', h1, h2⟩
    cases e with
    | normal => exact ⟨rfl, st', S', gh', h1, h2⟩
    | exit id' =>
      simp only [blockP] at h1
      simp only [Exit.inBlock]
      split
      · rename_i he
        rw [if_pos he] at h1
        exact ⟨rfl, st', S', gh', h1, h2⟩
      · rename_i he
        rw [if_neg he] at h1
        exact ⟨rfl, st', S', gh', h1, h2⟩
    | ret => exact ⟨rfl, st', S', gh', h1, h2⟩
    | goto l => cases h0
    | panic l => cases h0
    | outgrown => cases h0
  | loop b ih =>
    intro R st S gh a w h hrs hn hos
    simp only [EvC] at h
    refine h (fun s => ∀ S gh a w, RS S gh w a s → n0 ≤ s.sto.length → OutSc n0 s.sto → (Code.loop b).wp P (PostOK n0 lo S gh w s.sto R) a w) ?_ S gh a w hrs hn hos
    intro s s' hg hb S gh a w hrs hn hos
    obtain ⟨S', gh', h1, h2, h3, h4⟩ := ghost_ok hg hlo S gh hrs hn hos
    refine wp_loop_unroll postOK_ok (Code.wp_mono ?_ (ih _ s' S' gh' a w hb h1 h3 h4))
    rintro e a' w' ⟨k0, st', S2, gh2, k1, k2, k3, k4, k5⟩
    cases e with
    | normal => exact Code.wp_mono (fun e a w h => PostOK.trans (h2.trans k3) h) (k1 S2 gh2 a' w' k2 k4 k5)
    | exit id => exact ⟨k0, st', S2, gh2, k1, k2, h2.trans k3, k4, k5⟩
    | ret => exact ⟨k0, st', S2, gh2, k1, k2, h2.trans k3, k4, k5⟩
    | goto l => cases k0
    | panic l => cases k0
    | outgrown => cases k0
  | exit id => intro R st S gh a w h hrs hn hos; exact wp_exit ⟨rfl, st, S, gh, h, hrs, Fr.refl _ _ _ _ _ _, hn, hos⟩
  | ret => intro R st S gh a w h hrs hn hos; exact wp_ret ⟨rfl, st, S, gh, h, hrs, Fr.refl _ _ _ _ _ _, hn, hos⟩
  | _ => intro R st S gh a w h; simp only [EvC] at h
def resRun (tmps : Array Value) : ResultVar → Sem Value
  | .tmp t => pure (tmps.getD t undef)
  | .cell c t => do loadVar t (← asAddr (tmps.getD c undef))
theorem results_eq (fn : Func) (tmps : Array Value) : results fn tmps = (do let vs ← fn.results.mapM (resRun tmps); pure (if h : vs.size = 1 then vs[0] else .tuple vs)) := by
  unfold results
  congr 2
theorem resOf_sound (hT : T.OK P) {S : Stay} {gh : List Value} {w : World} {a : Act} {st : St} (hrs : RS S gh w a st) {r : ResultVar} {x : V} (h : resOf T st r = some x) : ∃ v, (resRun a.tmps r).run P w = .ok v w ∧ RepV S w v x := by
  cases r with
  | tmp t =>
    have hr := hrs.opd (.tmp t)
    exact ⟨_, rfl, view_rep hrs.sto hr h⟩
  | cell c t =>
    simp only [resOf] at h
    split at h
    · rename_i d hd
      have hr := hrs.opd (.tmp c)
      have hc : RepC S gh st.sto w (a.eval (.tmp c)) (opd st.env (.tmp c)) := hr.toC fun ds h0 => by
        simp only [opd] at h0
        rw [h0] at hd
        unfold evLoad at hd
        split at hd <;> cases hd
      obtain ⟨u, h1, h2⟩ := evLoad_sound (P := P) hT hrs.sto hc hd
      refine ⟨u, ?_, view_rep hrs.sto h2 h⟩
      have e1 : a.eval (.tmp c) = a.tmps.getD c undef := rfl
      rw [e1] at h1
      show (Sem.bind (asAddr (a.tmps.getD c undef)) fun ad => loadVar t ad).run P w = .ok u w
      rw [Sem.run_bind']
      revert h1
      generalize a.tmps.getD c undef = v
      intro h1
      cases v with
      | pointer p =>
        cases p with
        | none => simp [Instr.loadAt, Instr.sureAddr] at h1
        | some ad => simpa [Instr.loadAt, Instr.sureAddr, asAddr] using h1
      | _ => simp [Instr.loadAt, Instr.sureAddr] at h1
    · cases h
theorem resL_sound (hT : T.OK P) {S : Stay} {gh : List Value} {w : World} {a : Act} {st : St} (hrs : RS S gh w a st) : ∀ (rs : List ResultVar) (xs : List V), resL T st rs = some xs → ∃ vs : List Value, (rs.mapM (resRun a.tmps)).run P w = .ok vs w ∧ Pw (RepV S w) vs xs
  | [], xs, h => by simp only [resL, Option.some.injEq] at h; subst h; exact ⟨[], rfl, Pw.nil⟩
  | r :: rs, xs, h => by
    simp only [resL] at h
    split at h
    · rename_i x xs' h1 h2
      simp only [Option.some.injEq] at h
      subst h
      obtain ⟨v, k1, k2⟩ := resOf_sound (P := P) hT hrs h1
      obtain ⟨vs, k3, k4⟩ := resL_sound hT hrs rs xs' h2
      refine ⟨v :: vs, ?_, Pw.cons k2 k4⟩
      rw [List.mapM_cons, Sem.run_bind, k1, Result.andThen_ok, Sem.run_bind, k3, Result.andThen_ok]
      rfl
    · cases h
theorem resV_sound (hT : T.OK P) {S : Stay} {gh : List Value} {w : World} {a : Act} {st : St} (hrs : RS S gh w a st) {fn : Func} {r : V} (h : resV T st fn.results.toList = some r) : ∃ v, (results fn a.tmps).run P w = .ok v w ∧ RepV S w v r := by
  unfold resV at h
  have run : ∀ vs : List Value, (fn.results.toList.mapM (resRun a.tmps)).run P w = .ok vs w → (results fn a.tmps).run P w = .ok (if h : vs.toArray.size = 1 then vs.toArray[0] else .tuple vs.toArray) w := by
    intro vs hvs
    rw [results_eq, Array.mapM_eq_mapM_toList, bind_map_left, Sem.run_bind, hvs]
    rfl
  split at h
  · rename_i x hx
    simp only [Option.some.injEq] at h
    subst h
    obtain ⟨vs, k1, k2⟩ := resL_sound (P := P) hT hrs _ _ hx
    match vs, k2.1 with
    | [v], _ => exact ⟨v, by rw [run _ k1]; rfl, k2.2 0 v x rfl rfl⟩
  · rename_i xs hne hx
    simp only [Option.some.injEq] at h
    subst h
    obtain ⟨vs, k1, k2⟩ := resL_sound (P := P) hT hrs _ _ hx
    refine ⟨.tuple vs.toArray, ?_, .tup vs xs k2.1 fun j u c hu hc => k2.2 j u c hu hc⟩
    rw [run _ k1, dif_neg]
    intro h1
    have : xs.length = 1 := by rw [← k2.1]; simpa using h1
    match xs, this with
    | [x], _ => exact hne x rfl
  · cases h
/-- THE EVALUATOR IS RIGHT. -/
theorem call_sound (hT : T.OK P) (hm : P.follows .mixedOrders = true) {B : CallP} (hB : ∀ f args sto lo r sto', B f args sto lo r sto' → CallOK P f args sto lo r sto') {f : FuncId} {args : List D} {sto : Sto} {lo : Nat} {r : D} {sto' : Sto} (h : CallEv P T B f args sto lo r sto') : CallOK P f args sto lo r sto' := by
  refine h (CallOK P) ?_ hB
  rintro f args sto lo r sto' ⟨fn, c, wt, hf, hb, hname, he⟩
  refine ⟨by simp [callable, hf, hb, hname], fun S gh w vals hlo hs hgl hv => ?_⟩
  refine calls_of_wp hf hb ?_
  have hos : OutSc sto.length sto := by
    intro i ds hi hd
    obtain ⟨gv, _, hE⟩ := hs.ent i _ hd
    obtain ⟨g, cur, ty, rfl, hh, k1, k2, k3⟩ := hE
    rw [scopedL_iff]
    intro d hd
    obtain ⟨k, hk⟩ := List.mem_iff_getElem?.1 hd
    have hlt : k < cur.toList.length := by rw [k1]; exact (List.getElem?_eq_some_iff.1 hk).1
    have hr := (k3 k _ d (List.getElem?_eq_getElem hlt) hk).2
    cases d with
    | arr id n => simpa [D.inside] using hr.1
    | aptr id n o => simpa [D.inside] using hr.1
    | ptr id o => simpa [D.inside] using hr.1
    | win id n o k => simpa [D.inside] using hr.1
    | map id => simpa [D.inside] using hr.1
    | clo f caps =>
      obtain ⟨vs, _, _, h3⟩ := hr
      simp only [D.inside, List.all_eq_true, decide_eq_true_eq]
      intro id hid
      obtain ⟨j, hj⟩ := List.mem_iff_getElem?.1 hid
      exact (h3 j id hj).1
    | agg ds => exact hr.elim
    | _ => rfl
  have hrs : RS S gh w { tmps := vals.toArray ++ Array.replicate (fn.ntmps - vals.toArray.size) undef, defers := [] } ⟨args ++ List.replicate (fn.ntmps - args.length) .undef, sto⟩ := by
    refine ⟨by simp [hv.1], fun t v d h1 h2 => ?_, hs, rfl, hgl⟩
    have h1' : (vals ++ List.replicate (fn.ntmps - vals.length) undef)[t]? = some v := by simpa using h1
    rcases Nat.lt_or_ge t vals.length with hlt | hge
    · rw [List.getElem?_append_left hlt] at h1'
      rw [List.getElem?_append_left (by rw [← hv.1]; exact hlt)] at h2
      exact hv.2 t v d h1' h2
    · rw [List.getElem?_append_right hge] at h1'
      rw [List.getElem?_append_right (by rw [← hv.1]; exact hge)] at h2
      have e1 := List.eq_of_mem_replicate (List.mem_of_getElem? h1')
      have e2 := List.eq_of_mem_replicate (List.mem_of_getElem? h2)
      rw [e1, e2]
      exact rfl
  refine Code.wp_mono ?_ (evC_sound hT hm hlo c _ _ S gh _ w he hrs (Nat.le_refl _) hos)
  rintro e a' w' ⟨h0, st', S', gh', ⟨h1, h2⟩, h3, h4, h5, h6⟩
  rcases h2 with ⟨sh, x, h2, rfl, rfl⟩ | ⟨t, h2, rfl, rfl⟩ | ⟨t, id, n, es, wr, cs, h2, hd, hid, hes, rfl, rfl⟩
  case inr.inr =>
    have hr : RepD S' gh' st'.sto w' (a'.tmps.getD t undef) ((st'.env[t]?).getD .undef) := h3.opd (.tmp t)
    rw [hd] at hr
    obtain ⟨r1, r2, r3⟩ := hr
    have hg := (r3 _ _ _ _ hes).2 rfl
    have hsc : ∀ i ds, i < sto.length → st'.sto[i]? = some (.cells ds) → scopedL sto.length ds = true := fun i ds hi hd => h6 i ds hi hd
    have hl : (st'.sto.take sto.length).length = sto.length := by simp; omega
    have hl2 : (gh'.take sto.length).length = sto.length := by simp [h3.sto.len]; omega
    have hres : fn.results = #[.tmp t] := Array.ext' (by simpa using h2)
    have hrun := results_tmp (fn := fn) hres a'.tmps P w'
    have fin : ∃ v' S2 gh2, Ending.returned (a'.tmps.getD t undef) = .returned v' ∧ RepD S2 gh2 (st'.sto.take sto.length ++ [.arr es wr n cs]) w' v' (.arr sto.length n) ∧ SR S2 gh2 w' (st'.sto.take sto.length ++ [.arr es wr n cs]) ∧ Fr sto.length lo S gh w sto S2 gh2 w' (st'.sto.take sto.length ++ [.arr es wr n cs]) ∧ sto.length ≤ (st'.sto.take sto.length ++ [Ent.arr es wr n cs]).length := by
      refine ⟨_, S', gh'.take sto.length ++ [a'.tmps.getD t undef], rfl, ⟨by simp; omega, r2, fun es' wr' m cs' hs' => ?_⟩, h3.sto.moved h5 hsc hid hes hg, h4.trans (moved_fr h3.sto (Nat.le_refl _) h5 hlo hid hg), by simp; omega⟩
      rw [List.getElem?_append_right (by omega), hl, Nat.sub_self] at hs'
      simp only [List.getElem?_cons_zero, Option.some.injEq, Ent.arr.injEq] at hs'
      obtain ⟨_, _, rfl, _⟩ := hs'
      exact ⟨Nat.le_refl _, fun _ => by rw [List.getElem?_append_right (by omega), hl2, Nat.sub_self]; rfl⟩
    rcases h1 with rfl | rfl
    · exact ⟨h3.defers, _, hrun, fin⟩
    · exact ⟨h3.defers, _, hrun, fin⟩
  case inr.inl =>
    have hr := h3.opd (.tmp t)
    have fin : ∃ v' S2 gh2, Ending.returned (a'.tmps.getD t undef) = .returned v' ∧ RepD S2 gh2 st'.sto w' v' ((st'.env[t]?).getD .undef) ∧ SR S2 gh2 w' st'.sto ∧ Fr sto.length lo S gh w sto S2 gh2 w' st'.sto ∧ sto.length ≤ st'.sto.length := ⟨_, S', gh', rfl, hr, h3.sto, h4, h5⟩
    have hres : fn.results = #[.tmp t] := Array.ext' (by simpa using h2)
    have hrun := results_tmp (fn := fn) hres a'.tmps P w'
    rcases h1 with rfl | rfl
    · exact ⟨h3.defers, _, hrun, fin⟩
    · exact ⟨h3.defers, _, hrun, fin⟩
  obtain ⟨S2, gh2, k1, k2, k3, k4⟩ := shareAll_ok (lo := sto.length) sh st' S' gh' h3 h5 h6
  obtain ⟨v, r1, r2⟩ := resV_sound (P := P) hT k1 h2
  have hsc : ∀ i ds, i < sto.length → st'.sto[i]? = some (.cells ds) → scopedL sto.length ds = true := fun i ds hi hd => h6 i ds hi hd
  have hst : SR S' (gh'.take sto.length) w' (st'.sto.take sto.length) := h3.sto.take h5 hsc
  -- the shared reading has the same older entries
  have hlow : (shareAll sto.length sh st'.sto).take sto.length = st'.sto.take sto.length := by
    apply List.ext_getElem?
    intro k
    rcases Nat.lt_or_ge k sto.length with hk | hk
    · rw [List.getElem?_take_of_lt hk, List.getElem?_take_of_lt hk]
      exact (k2.low k hk).2
    · rw [List.getElem?_eq_none (by simp; omega), List.getElem?_eq_none (by simp; omega)]
  have hst2 : SR S2 (gh2.take sto.length) w' (st'.sto.take sto.length) := by
    rw [← hlow]
    exact k1.sto.take k3 fun i ds hi hd => by
      have : st'.sto[i]? = some (.cells ds) := by rw [← (k2.low i hi).2]; exact hd
      exact hsc i ds hi this
  have hfr : Fr sto.length lo S gh w sto S2 (gh2.take sto.length) w' (st'.sto.take sto.length) := by
    have f2 : Fr sto.length lo S' gh' w' st'.sto S2 gh2 w' (shareAll sto.length sh st'.sto) := { k2 with
      block := fun b hb hn => k2.block b hb fun i hi => hn i (by omega)
      low := fun i hi => k2.low i (by omega)
      new := fun i g hi hg => by
        rcases Nat.lt_or_ge i sto.length with h | h
        · left
          refine ⟨i, hi, ?_⟩
          unfold blkAt at hg ⊢
          rw [(k2.low i h).1] at hg; exact hg
        · rcases k2.new i g h hg with ⟨j, hj, hg'⟩ | h'
          · exact .inl ⟨j, by omega, hg'⟩
          · exact .inr h' }
    have f3 : Fr sto.length lo S2 gh2 w' (shareAll sto.length sh st'.sto) S2 (gh2.take sto.length) w' ((shareAll sto.length sh st'.sto).take sto.length) := take_fr (Nat.le_refl _) hlo
    rw [hlow] at f3
    exact h4.trans (f2.trans f3)
  have fin : ∃ v' S' gh', Ending.returned v = .returned v' ∧ RepD S' gh' (st'.sto.take sto.length) w' v' (.v x) ∧ SR S' gh' w' (st'.sto.take sto.length) ∧ Fr sto.length lo S gh w sto S' gh' w' (st'.sto.take sto.length) ∧ sto.length ≤ (st'.sto.take sto.length).length := ⟨v, S2, gh2.take sto.length, rfl, r2.toD, hst2, hfr, by simp; omega⟩
  rcases h1 with rfl | rfl
  · exact ⟨h3.defers, v, r1, fin⟩
  · exact ⟨h3.defers, v, r1, fin⟩
/-- A call whose arguments are plain data: its result, and that of what was there nothing has changed. -/
theorem call_plain (hT : T.OK P) (hm : P.follows .mixedOrders = true) {B : CallP} (hB : ∀ f args sto lo r sto', B f args sto lo r sto' → CallOK P f args sto lo r sto') {f : FuncId} {xs : List V} {r : V} (h : CallEv P T B f (xs.map .v) [] 0 (.v r) []) {w : World} {vals : List Value} (hgl : GlobOK (fun b _ => b < w.heap.size) w) (hv : Pw (RepV (fun b _ => b < w.heap.size) w) vals xs) : Calls P f vals.toArray w fun e w' => ∃ v S', e = .returned v ∧ RepV S' w' v r ∧ Below w.heap.size w w' := by
  obtain ⟨_, hc⟩ := call_sound hT hm hB h
  have hs : SR (fun b _ => b < w.heap.size) [] w [] := ⟨rfl, fun i e h => by simp at h, fun i j g h => by simp [blkAt] at h, fun b o h => h⟩
  refine (hc (fun b _ => b < w.heap.size) [] w vals (Nat.le_refl _) hs hgl ⟨by simp [hv.1], fun j u d hu hd => ?_⟩).mono ?_
  · rw [List.getElem?_map] at hd
    cases hx : xs[j]? with
    | none => rw [hx] at hd; cases hd
    | some x =>
      rw [hx] at hd
      simp only [Option.map_some, Option.some.injEq] at hd
      subst hd
      exact (hv.2 j u x hu hx).toD
  · rintro e w' ⟨v, S', gh', rfl, h1, _, h3, _⟩
    exact ⟨v, S', rfl, h1, h3.os, h3.tape, h3.output, h3.size, fun k hk => h3.block k hk fun i _ hg => by simp [blkAt] at hg⟩
end
end Go.Proofs.YtgkhcjdpdgfdbaaDoor
namespace Go.Proofs.YtgkhcjdpdgfdbaaDoor
open Go Go.RowKit

def tab : Tab := fun t => match t with
  | 1 => some ⟨.other, .nilFunc, 1, 8⟩
  | 2 => some ⟨.int .i64, .int .i64 0, 1, 8⟩
  | 3 => some ⟨.int .i64, .int .i64 0, 1, 8⟩
  | 4 => some ⟨.bool, .bool false, 1, 1⟩
  | 5 => some ⟨.int .u8, .int .u8 0, 1, 1⟩
  | 6 => some ⟨.int .u8, .int .u8 0, 1, 1⟩
  | 7 => some ⟨.struct [(0, 2), (1, 3), (2, 4), (3, 6)], .agg #[.int .i64 0, .int .i64 0, .bool false, .int .u8 0], 4, 24⟩
  | 8 => some ⟨.struct [(0, 2), (1, 3), (2, 4), (3, 6)], .agg #[.int .i64 0, .int .i64 0, .bool false, .int .u8 0], 4, 24⟩
  | 9 => some ⟨.str, .string ByteArray.empty, 1, 16⟩
  | 10 => some ⟨.str, .string ByteArray.empty, 1, 16⟩
  | 11 => some ⟨.str, .string ByteArray.empty, 1, 16⟩
  | 12 => some ⟨.int .u64, .int .u64 0, 1, 8⟩
  | 13 => some ⟨.struct [(0, 9), (1, 12)], .agg #[.string ByteArray.empty, .int .u64 0], 2, 24⟩
  | 14 => some ⟨.struct [(0, 9), (1, 12)], .agg #[.string ByteArray.empty, .int .u64 0], 2, 24⟩
  | 15 => some ⟨.other, .pointer none, 1, 8⟩
  | 16 => some ⟨.other, .pointer none, 1, 8⟩
  | 17 => some ⟨.other, .pointer none, 1, 8⟩
  | 18 => some ⟨.struct [(0, 17)], .agg #[.pointer none], 1, 8⟩
  | 19 => some ⟨.struct [(0, 17)], .agg #[.pointer none], 1, 8⟩
  | 21 => some ⟨.int .i32, .int .i32 0, 1, 4⟩
  | 22 => some ⟨.slice 3, .slice none 0 0, 1, 24⟩
  | 23 => some ⟨.other, .nilFunc, 1, 8⟩
  | 24 => some ⟨.slice 22, .slice none 0 0, 1, 24⟩
  | 25 => some ⟨.other, .nilFunc, 1, 8⟩
  | 27 => some ⟨.other, .nilFunc, 1, 8⟩
  | 28 => some ⟨.slice 30, .slice none 0 0, 1, 24⟩
  | 29 => some ⟨.struct [(0, 3), (1, 22), (2, 28)], .agg #[.int .i64 0, .slice none 0 0, .slice none 0 0], 3, 56⟩
  | 30 => some ⟨.struct [(0, 3), (1, 22), (2, 28)], .agg #[.int .i64 0, .slice none 0 0, .slice none 0 0], 3, 56⟩
  | 31 => some ⟨.int .i64, .int .i64 0, 1, 8⟩
  | 33 => some ⟨.other, .nilFunc, 1, 8⟩
  | 34 => some ⟨.slice 88, .slice none 0 0, 1, 24⟩
  | 35 => some ⟨.struct [(0, 34)], .agg #[.slice none 0 0], 1, 24⟩
  | 36 => some ⟨.struct [(0, 34)], .agg #[.slice none 0 0], 1, 24⟩
  | 37 => some ⟨.other, .nilFunc, 1, 8⟩
  | 38 => some ⟨.other, .nilFunc, 1, 8⟩
  | 39 => some ⟨.other, .nilFunc, 1, 8⟩
  | 40 => some ⟨.other, .nilFunc, 1, 8⟩
  | 41 => some ⟨.other, .nilFunc, 1, 8⟩
  | 42 => some ⟨.other, .nilFunc, 1, 8⟩
  | 43 => some ⟨.slice 45, .slice none 0 0, 1, 24⟩
  | 44 => some ⟨.struct [(0, 3), (1, 22), (2, 43)], .agg #[.int .i64 0, .slice none 0 0, .slice none 0 0], 3, 56⟩
  | 45 => some ⟨.struct [(0, 3), (1, 22), (2, 43)], .agg #[.int .i64 0, .slice none 0 0, .slice none 0 0], 3, 56⟩
  | 46 => some ⟨.other, .nilFunc, 1, 8⟩
  | 47 => some ⟨.other, .nilFunc, 1, 8⟩
  | 48 => some ⟨.other, .nilFunc, 1, 8⟩
  | 49 => some ⟨.other, .nilFunc, 1, 8⟩
  | 50 => some ⟨.other, .nilFunc, 1, 8⟩
  | 51 => some ⟨.other, .nilFunc, 1, 8⟩
  | 52 => some ⟨.other, .nilFunc, 1, 8⟩
  | 53 => some ⟨.other, .nilFunc, 1, 8⟩
  | 54 => some ⟨.other, .nilFunc, 1, 8⟩
  | 56 => some ⟨.other, .nilFunc, 1, 8⟩
  | 57 => some ⟨.other, .nilFunc, 1, 8⟩
  | 58 => some ⟨.other, .nilFunc, 1, 8⟩
  | 59 => some ⟨.slice 24, .slice none 0 0, 1, 24⟩
  | 60 => some ⟨.other, .nilFunc, 1, 8⟩
  | 61 => some ⟨.other, .nilFunc, 1, 8⟩
  | 62 => some ⟨.slice 67, .slice none 0 0, 1, 24⟩
  | 63 => some ⟨.struct [(0, 62), (1, 22)], .agg #[.slice none 0 0, .slice none 0 0], 2, 48⟩
  | 64 => some ⟨.struct [(0, 62), (1, 22)], .agg #[.slice none 0 0, .slice none 0 0], 2, 48⟩
  | 66 => some ⟨.other, .nilFunc, 1, 8⟩
  | 67 => some ⟨.int .u64, .int .u64 0, 1, 8⟩
  | 68 => some ⟨.other, .nilFunc, 1, 8⟩
  | 69 => some ⟨.other, .nilFunc, 1, 8⟩
  | 70 => some ⟨.other, .nilFunc, 1, 8⟩
  | 71 => some ⟨.other, .nilFunc, 1, 8⟩
  | 72 => some ⟨.other, .nilFunc, 1, 8⟩
  | 73 => some ⟨.slice 151, .slice none 0 0, 1, 24⟩
  | 74 => some ⟨.struct [(0, 73)], .agg #[.slice none 0 0], 1, 24⟩
  | 75 => some ⟨.struct [(0, 73)], .agg #[.slice none 0 0], 1, 24⟩
  | 76 => some ⟨.slice 153, .slice none 0 0, 1, 24⟩
  | 77 => some ⟨.struct [(0, 76), (1, 3)], .agg #[.slice none 0 0, .int .i64 0], 2, 32⟩
  | 78 => some ⟨.struct [(0, 76), (1, 3)], .agg #[.slice none 0 0, .int .i64 0], 2, 32⟩
  | 79 => some ⟨.struct [(0, 22), (1, 22), (2, 78), (4, 3)], .agg #[.slice none 0 0, .slice none 0 0, .slice none 0 0, .int .i64 0, .int .i64 0], 5, 88⟩
  | 80 => some ⟨.struct [(0, 22), (1, 22), (2, 78), (4, 3)], .agg #[.slice none 0 0, .slice none 0 0, .slice none 0 0, .int .i64 0, .int .i64 0], 5, 88⟩
  | 81 => some ⟨.struct [(0, 3), (1, 80), (6, 80), (11, 3)], .agg #[.int .i64 0, .slice none 0 0, .slice none 0 0, .slice none 0 0, .int .i64 0, .int .i64 0, .slice none 0 0, .slice none 0 0, .slice none 0 0, .int .i64 0, .int .i64 0, .int .i64 0], 12, 192⟩
  | 82 => some ⟨.struct [(0, 3), (1, 80), (6, 80), (11, 3)], .agg #[.int .i64 0, .slice none 0 0, .slice none 0 0, .slice none 0 0, .int .i64 0, .int .i64 0, .slice none 0 0, .slice none 0 0, .slice none 0 0, .int .i64 0, .int .i64 0, .int .i64 0], 12, 192⟩
  | 83 => some ⟨.slice 80, .slice none 0 0, 1, 24⟩
  | 84 => some ⟨.slice 156, .slice none 0 0, 1, 24⟩
  | 85 => some ⟨.struct [(0, 3), (1, 83), (2, 84)], .agg #[.int .i64 0, .slice none 0 0, .slice none 0 0], 3, 56⟩
  | 86 => some ⟨.struct [(0, 3), (1, 83), (2, 84)], .agg #[.int .i64 0, .slice none 0 0, .slice none 0 0], 3, 56⟩
  | 87 => some ⟨.struct [(0, 75), (1, 22), (2, 3), (3, 3), (4, 3), (5, 82), (17, 86)], .agg #[.slice none 0 0, .slice none 0 0, .int .i64 0, .int .i64 0, .int .i64 0, .int .i64 0, .slice none 0 0, .slice none 0 0, .slice none 0 0, .int .i64 0, .int .i64 0, .slice none 0 0, .slice none 0 0, .slice none 0 0, .int .i64 0, .int .i64 0, .int .i64 0, .int .i64 0, .slice none 0 0, .slice none 0 0], 20, 320⟩
  | 88 => some ⟨.struct [(0, 75), (1, 22), (2, 3), (3, 3), (4, 3), (5, 82), (17, 86)], .agg #[.slice none 0 0, .slice none 0 0, .int .i64 0, .int .i64 0, .int .i64 0, .int .i64 0, .slice none 0 0, .slice none 0 0, .slice none 0 0, .int .i64 0, .int .i64 0, .slice none 0 0, .slice none 0 0, .slice none 0 0, .int .i64 0, .int .i64 0, .int .i64 0, .int .i64 0, .slice none 0 0, .slice none 0 0], 20, 320⟩
  | 89 => some ⟨.other, .nilFunc, 1, 8⟩
  | 90 => some ⟨.other, .nilFunc, 1, 8⟩
  | 91 => some ⟨.other, .nilFunc, 1, 8⟩
  | 92 => some ⟨.other, .nilFunc, 1, 8⟩
  | 93 => some ⟨.other, .nilFunc, 1, 8⟩
  | 94 => some ⟨.other, .nilFunc, 1, 8⟩
  | 95 => some ⟨.other, .nilFunc, 1, 8⟩
  | 96 => some ⟨.other, .nilFunc, 1, 8⟩
  | 97 => some ⟨.other, .nilFunc, 1, 8⟩
  | 98 => some ⟨.other, .nilFunc, 1, 8⟩
  | 99 => some ⟨.other, .nilFunc, 1, 8⟩
  | 100 => some ⟨.other, .nilFunc, 1, 8⟩
  | 101 => some ⟨.other, .nilFunc, 1, 8⟩
  | 102 => some ⟨.other, .nilFunc, 1, 8⟩
  | 103 => some ⟨.other, .nilFunc, 1, 8⟩
  | 104 => some ⟨.other, .nilFunc, 1, 8⟩
  | 105 => some ⟨.int .u32, .int .u32 0, 1, 4⟩
  | 106 => some ⟨.other, .nilFunc, 1, 8⟩
  | 107 => some ⟨.int .u64, .int .u64 0, 1, 8⟩
  | 108 => some ⟨.other, .nilFunc, 1, 8⟩
  | 109 => some ⟨.other, .nilFunc, 1, 8⟩
  | 110 => some ⟨.other, .nilFunc, 1, 8⟩
  | 111 => some ⟨.other, .nilFunc, 1, 8⟩
  | 112 => some ⟨.other, .nilFunc, 1, 8⟩
  | 113 => some ⟨.other, .nilFunc, 1, 8⟩
  | 114 => some ⟨.other, .nilFunc, 1, 8⟩
  | 115 => some ⟨.array 32 5, .agg #[.int .u8 0, .int .u8 0, .int .u8 0, .int .u8 0, .int .u8 0, .int .u8 0, .int .u8 0, .int .u8 0, .int .u8 0, .int .u8 0, .int .u8 0, .int .u8 0, .int .u8 0, .int .u8 0, .int .u8 0, .int .u8 0, .int .u8 0, .int .u8 0, .int .u8 0, .int .u8 0, .int .u8 0, .int .u8 0, .int .u8 0, .int .u8 0, .int .u8 0, .int .u8 0, .int .u8 0, .int .u8 0, .int .u8 0, .int .u8 0, .int .u8 0, .int .u8 0], 32, 32⟩
  | 116 => some ⟨.array 64 5, .agg #[.int .u8 0, .int .u8 0, .int .u8 0, .int .u8 0, .int .u8 0, .int .u8 0, .int .u8 0, .int .u8 0, .int .u8 0, .int .u8 0, .int .u8 0, .int .u8 0, .int .u8 0, .int .u8 0, .int .u8 0, .int .u8 0, .int .u8 0, .int .u8 0, .int .u8 0, .int .u8 0, .int .u8 0, .int .u8 0, .int .u8 0, .int .u8 0, .int .u8 0, .int .u8 0, .int .u8 0, .int .u8 0, .int .u8 0, .int .u8 0, .int .u8 0, .int .u8 0, .int .u8 0, .int .u8 0, .int .u8 0, .int .u8 0, .int .u8 0, .int .u8 0, .int .u8 0, .int .u8 0, .int .u8 0, .int .u8 0, .int .u8 0, .int .u8 0, .int .u8 0, .int .u8 0, .int .u8 0, .int .u8 0, .int .u8 0, .int .u8 0, .int .u8 0, .int .u8 0, .int .u8 0, .int .u8 0, .int .u8 0, .int .u8 0, .int .u8 0, .int .u8 0, .int .u8 0, .int .u8 0, .int .u8 0, .int .u8 0, .int .u8 0, .int .u8 0], 64, 64⟩
  | 117 => some ⟨.other, .nilFunc, 1, 8⟩
  | 118 => some ⟨.int .i64, .int .i64 0, 1, 8⟩
  | 120 => some ⟨.other, .nilFunc, 1, 8⟩
  | 121 => some ⟨.other, .nilFunc, 1, 8⟩
  | 122 => some ⟨.other, .nilFunc, 1, 8⟩
  | 123 => some ⟨.other, .nilFunc, 1, 8⟩
  | 125 => some ⟨.other, .nilFunc, 1, 8⟩
  | 126 => some ⟨.int .u64, .int .u64 0, 1, 8⟩
  | 127 => some ⟨.other, .nilFunc, 1, 8⟩
  | 128 => some ⟨.other, .nilFunc, 1, 8⟩
  | 129 => some ⟨.other, .nilFunc, 1, 8⟩
  | 130 => some ⟨.other, .pointer none, 1, 8⟩
  | 131 => some ⟨.other, .nilFunc, 1, 8⟩
  | 132 => some ⟨.other, .pointer none, 1, 8⟩
  | 134 => some ⟨.other, .nilFunc, 1, 8⟩
  | 135 => some ⟨.other, .nilFunc, 1, 8⟩
  | 136 => some ⟨.struct [(0, 17), (1, 17), (2, 17), (3, 9)], .agg #[.pointer none, .pointer none, .pointer none, .string ByteArray.empty], 4, 40⟩
  | 137 => some ⟨.struct [(0, 17), (1, 17), (2, 17), (3, 9)], .agg #[.pointer none, .pointer none, .pointer none, .string ByteArray.empty], 4, 40⟩
  | 138 => some ⟨.array 0 16, .agg #[], 0, 0⟩
  | 139 => some ⟨.struct [(0, 138)], .agg #[], 0, 0⟩
  | 140 => some ⟨.struct [(0, 138)], .agg #[], 0, 0⟩
  | 141 => some ⟨.other, .nilFunc, 1, 8⟩
  | 142 => some ⟨.int .u8, .int .u8 0, 1, 1⟩
  | 143 => some ⟨.int .u8, .int .u8 0, 1, 1⟩
  | 144 => some ⟨.other, .nilFunc, 1, 8⟩
  | 145 => some ⟨.other, .pointer none, 1, 8⟩
  | 146 => some ⟨.int .i32, .int .i32 0, 1, 4⟩
  | 147 => some ⟨.int .i32, .int .i32 0, 1, 4⟩
  | 148 => some ⟨.struct [(0, 12), (1, 12), (2, 105), (3, 142), (4, 5), (5, 5), (6, 143), (7, 144), (8, 145), (9, 146), (10, 147)], .agg #[.int .u64 0, .int .u64 0, .int .u32 0, .int .u8 0, .int .u8 0, .int .u8 0, .int .u8 0, .nilFunc, .pointer none, .int .i32 0, .int .i32 0], 11, 48⟩
  | 149 => some ⟨.struct [(0, 12), (1, 12), (2, 105), (3, 142), (4, 5), (5, 5), (6, 143), (7, 144), (8, 145), (9, 146), (10, 147)], .agg #[.int .u64 0, .int .u64 0, .int .u32 0, .int .u8 0, .int .u8 0, .int .u8 0, .int .u8 0, .nilFunc, .pointer none, .int .i32 0, .int .i32 0], 11, 48⟩
  | 150 => some ⟨.struct [(0, 22), (1, 3)], .agg #[.slice none 0 0, .int .i64 0], 2, 32⟩
  | 151 => some ⟨.struct [(0, 22), (1, 3)], .agg #[.slice none 0 0, .int .i64 0], 2, 32⟩
  | 152 => some ⟨.struct [(0, 3), (1, 3), (2, 3)], .agg #[.int .i64 0, .int .i64 0, .int .i64 0], 3, 24⟩
  | 153 => some ⟨.struct [(0, 3), (1, 3), (2, 3)], .agg #[.int .i64 0, .int .i64 0, .int .i64 0], 3, 24⟩
  | 154 => some ⟨.slice 160, .slice none 0 0, 1, 24⟩
  | 155 => some ⟨.struct [(0, 154), (1, 59)], .agg #[.slice none 0 0, .slice none 0 0], 2, 48⟩
  | 156 => some ⟨.struct [(0, 154), (1, 59)], .agg #[.slice none 0 0, .slice none 0 0], 2, 48⟩
  | 158 => some ⟨.slice 161, .slice none 0 0, 1, 24⟩
  | 159 => some ⟨.struct [(0, 3), (1, 3), (2, 158)], .agg #[.int .i64 0, .int .i64 0, .slice none 0 0], 3, 40⟩
  | 160 => some ⟨.struct [(0, 3), (1, 3), (2, 158)], .agg #[.int .i64 0, .int .i64 0, .slice none 0 0], 3, 40⟩
  | 161 => some ⟨.array 2 3, .agg #[.int .i64 0, .int .i64 0], 2, 16⟩
  | _ => none
@[go_sem] theorem tab_1 : tab 1 = some ⟨.other, .nilFunc, 1, 8⟩ := rfl
@[go_sem] theorem tab_2 : tab 2 = some ⟨.int .i64, .int .i64 0, 1, 8⟩ := rfl
@[go_sem] theorem tab_3 : tab 3 = some ⟨.int .i64, .int .i64 0, 1, 8⟩ := rfl
@[go_sem] theorem tab_4 : tab 4 = some ⟨.bool, .bool false, 1, 1⟩ := rfl
@[go_sem] theorem tab_5 : tab 5 = some ⟨.int .u8, .int .u8 0, 1, 1⟩ := rfl
@[go_sem] theorem tab_6 : tab 6 = some ⟨.int .u8, .int .u8 0, 1, 1⟩ := rfl
@[go_sem] theorem tab_7 : tab 7 = some ⟨.struct [(0, 2), (1, 3), (2, 4), (3, 6)], .agg #[.int .i64 0, .int .i64 0, .bool false, .int .u8 0], 4, 24⟩ := rfl
@[go_sem] theorem tab_8 : tab 8 = some ⟨.struct [(0, 2), (1, 3), (2, 4), (3, 6)], .agg #[.int .i64 0, .int .i64 0, .bool false, .int .u8 0], 4, 24⟩ := rfl
@[go_sem] theorem tab_9 : tab 9 = some ⟨.str, .string ByteArray.empty, 1, 16⟩ := rfl
@[go_sem] theorem tab_10 : tab 10 = some ⟨.str, .string ByteArray.empty, 1, 16⟩ := rfl
@[go_sem] theorem tab_11 : tab 11 = some ⟨.str, .string ByteArray.empty, 1, 16⟩ := rfl
@[go_sem] theorem tab_12 : tab 12 = some ⟨.int .u64, .int .u64 0, 1, 8⟩ := rfl
@[go_sem] theorem tab_13 : tab 13 = some ⟨.struct [(0, 9), (1, 12)], .agg #[.string ByteArray.empty, .int .u64 0], 2, 24⟩ := rfl
@[go_sem] theorem tab_14 : tab 14 = some ⟨.struct [(0, 9), (1, 12)], .agg #[.string ByteArray.empty, .int .u64 0], 2, 24⟩ := rfl
@[go_sem] theorem tab_15 : tab 15 = some ⟨.other, .pointer none, 1, 8⟩ := rfl
@[go_sem] theorem tab_16 : tab 16 = some ⟨.other, .pointer none, 1, 8⟩ := rfl
@[go_sem] theorem tab_17 : tab 17 = some ⟨.other, .pointer none, 1, 8⟩ := rfl
@[go_sem] theorem tab_18 : tab 18 = some ⟨.struct [(0, 17)], .agg #[.pointer none], 1, 8⟩ := rfl
@[go_sem] theorem tab_19 : tab 19 = some ⟨.struct [(0, 17)], .agg #[.pointer none], 1, 8⟩ := rfl
@[go_sem] theorem tab_21 : tab 21 = some ⟨.int .i32, .int .i32 0, 1, 4⟩ := rfl
@[go_sem] theorem tab_22 : tab 22 = some ⟨.slice 3, .slice none 0 0, 1, 24⟩ := rfl
@[go_sem] theorem tab_23 : tab 23 = some ⟨.other, .nilFunc, 1, 8⟩ := rfl
@[go_sem] theorem tab_24 : tab 24 = some ⟨.slice 22, .slice none 0 0, 1, 24⟩ := rfl
@[go_sem] theorem tab_25 : tab 25 = some ⟨.other, .nilFunc, 1, 8⟩ := rfl
@[go_sem] theorem tab_27 : tab 27 = some ⟨.other, .nilFunc, 1, 8⟩ := rfl
@[go_sem] theorem tab_28 : tab 28 = some ⟨.slice 30, .slice none 0 0, 1, 24⟩ := rfl
@[go_sem] theorem tab_29 : tab 29 = some ⟨.struct [(0, 3), (1, 22), (2, 28)], .agg #[.int .i64 0, .slice none 0 0, .slice none 0 0], 3, 56⟩ := rfl
@[go_sem] theorem tab_30 : tab 30 = some ⟨.struct [(0, 3), (1, 22), (2, 28)], .agg #[.int .i64 0, .slice none 0 0, .slice none 0 0], 3, 56⟩ := rfl
@[go_sem] theorem tab_31 : tab 31 = some ⟨.int .i64, .int .i64 0, 1, 8⟩ := rfl
@[go_sem] theorem tab_33 : tab 33 = some ⟨.other, .nilFunc, 1, 8⟩ := rfl
@[go_sem] theorem tab_34 : tab 34 = some ⟨.slice 88, .slice none 0 0, 1, 24⟩ := rfl
@[go_sem] theorem tab_35 : tab 35 = some ⟨.struct [(0, 34)], .agg #[.slice none 0 0], 1, 24⟩ := rfl
@[go_sem] theorem tab_36 : tab 36 = some ⟨.struct [(0, 34)], .agg #[.slice none 0 0], 1, 24⟩ := rfl
@[go_sem] theorem tab_37 : tab 37 = some ⟨.other, .nilFunc, 1, 8⟩ := rfl
@[go_sem] theorem tab_38 : tab 38 = some ⟨.other, .nilFunc, 1, 8⟩ := rfl
@[go_sem] theorem tab_39 : tab 39 = some ⟨.other, .nilFunc, 1, 8⟩ := rfl
@[go_sem] theorem tab_40 : tab 40 = some ⟨.other, .nilFunc, 1, 8⟩ := rfl
@[go_sem] theorem tab_41 : tab 41 = some ⟨.other, .nilFunc, 1, 8⟩ := rfl
@[go_sem] theorem tab_42 : tab 42 = some ⟨.other, .nilFunc, 1, 8⟩ := rfl
@[go_sem] theorem tab_43 : tab 43 = some ⟨.slice 45, .slice none 0 0, 1, 24⟩ := rfl
@[go_sem] theorem tab_44 : tab 44 = some ⟨.struct [(0, 3), (1, 22), (2, 43)], .agg #[.int .i64 0, .slice none 0 0, .slice none 0 0], 3, 56⟩ := rfl
@[go_sem] theorem tab_45 : tab 45 = some ⟨.struct [(0, 3), (1, 22), (2, 43)], .agg #[.int .i64 0, .slice none 0 0, .slice none 0 0], 3, 56⟩ := rfl
@[go_sem] theorem tab_46 : tab 46 = some ⟨.other, .nilFunc, 1, 8⟩ := rfl
@[go_sem] theorem tab_47 : tab 47 = some ⟨.other, .nilFunc, 1, 8⟩ := rfl
@[go_sem] theorem tab_48 : tab 48 = some ⟨.other, .nilFunc, 1, 8⟩ := rfl
@[go_sem] theorem tab_49 : tab 49 = some ⟨.other, .nilFunc, 1, 8⟩ := rfl
@[go_sem] theorem tab_50 : tab 50 = some ⟨.other, .nilFunc, 1, 8⟩ := rfl
@[go_sem] theorem tab_51 : tab 51 = some ⟨.other, .nilFunc, 1, 8⟩ := rfl
@[go_sem] theorem tab_52 : tab 52 = some ⟨.other, .nilFunc, 1, 8⟩ := rfl
@[go_sem] theorem tab_53 : tab 53 = some ⟨.other, .nilFunc, 1, 8⟩ := rfl
@[go_sem] theorem tab_54 : tab 54 = some ⟨.other, .nilFunc, 1, 8⟩ := rfl
@[go_sem] theorem tab_56 : tab 56 = some ⟨.other, .nilFunc, 1, 8⟩ := rfl
@[go_sem] theorem tab_57 : tab 57 = some ⟨.other, .nilFunc, 1, 8⟩ := rfl
@[go_sem] theorem tab_58 : tab 58 = some ⟨.other, .nilFunc, 1, 8⟩ := rfl
@[go_sem] theorem tab_59 : tab 59 = some ⟨.slice 24, .slice none 0 0, 1, 24⟩ := rfl
@[go_sem] theorem tab_60 : tab 60 = some ⟨.other, .nilFunc, 1, 8⟩ := rfl
@[go_sem] theorem tab_61 : tab 61 = some ⟨.other, .nilFunc, 1, 8⟩ := rfl
@[go_sem] theorem tab_62 : tab 62 = some ⟨.slice 67, .slice none 0 0, 1, 24⟩ := rfl
@[go_sem] theorem tab_63 : tab 63 = some ⟨.struct [(0, 62), (1, 22)], .agg #[.slice none 0 0, .slice none 0 0], 2, 48⟩ := rfl
@[go_sem] theorem tab_64 : tab 64 = some ⟨.struct [(0, 62), (1, 22)], .agg #[.slice none 0 0, .slice none 0 0], 2, 48⟩ := rfl
@[go_sem] theorem tab_66 : tab 66 = some ⟨.other, .nilFunc, 1, 8⟩ := rfl
@[go_sem] theorem tab_67 : tab 67 = some ⟨.int .u64, .int .u64 0, 1, 8⟩ := rfl
@[go_sem] theorem tab_68 : tab 68 = some ⟨.other, .nilFunc, 1, 8⟩ := rfl
@[go_sem] theorem tab_69 : tab 69 = some ⟨.other, .nilFunc, 1, 8⟩ := rfl
@[go_sem] theorem tab_70 : tab 70 = some ⟨.other, .nilFunc, 1, 8⟩ := rfl
@[go_sem] theorem tab_71 : tab 71 = some ⟨.other, .nilFunc, 1, 8⟩ := rfl
@[go_sem] theorem tab_72 : tab 72 = some ⟨.other, .nilFunc, 1, 8⟩ := rfl
@[go_sem] theorem tab_73 : tab 73 = some ⟨.slice 151, .slice none 0 0, 1, 24⟩ := rfl
@[go_sem] theorem tab_74 : tab 74 = some ⟨.struct [(0, 73)], .agg #[.slice none 0 0], 1, 24⟩ := rfl
@[go_sem] theorem tab_75 : tab 75 = some ⟨.struct [(0, 73)], .agg #[.slice none 0 0], 1, 24⟩ := rfl
@[go_sem] theorem tab_76 : tab 76 = some ⟨.slice 153, .slice none 0 0, 1, 24⟩ := rfl
@[go_sem] theorem tab_77 : tab 77 = some ⟨.struct [(0, 76), (1, 3)], .agg #[.slice none 0 0, .int .i64 0], 2, 32⟩ := rfl
@[go_sem] theorem tab_78 : tab 78 = some ⟨.struct [(0, 76), (1, 3)], .agg #[.slice none 0 0, .int .i64 0], 2, 32⟩ := rfl
@[go_sem] theorem tab_79 : tab 79 = some ⟨.struct [(0, 22), (1, 22), (2, 78), (4, 3)], .agg #[.slice none 0 0, .slice none 0 0, .slice none 0 0, .int .i64 0, .int .i64 0], 5, 88⟩ := rfl
@[go_sem] theorem tab_80 : tab 80 = some ⟨.struct [(0, 22), (1, 22), (2, 78), (4, 3)], .agg #[.slice none 0 0, .slice none 0 0, .slice none 0 0, .int .i64 0, .int .i64 0], 5, 88⟩ := rfl
@[go_sem] theorem tab_81 : tab 81 = some ⟨.struct [(0, 3), (1, 80), (6, 80), (11, 3)], .agg #[.int .i64 0, .slice none 0 0, .slice none 0 0, .slice none 0 0, .int .i64 0, .int .i64 0, .slice none 0 0, .slice none 0 0, .slice none 0 0, .int .i64 0, .int .i64 0, .int .i64 0], 12, 192⟩ := rfl
@[go_sem] theorem tab_82 : tab 82 = some ⟨.struct [(0, 3), (1, 80), (6, 80), (11, 3)], .agg #[.int .i64 0, .slice none 0 0, .slice none 0 0, .slice none 0 0, .int .i64 0, .int .i64 0, .slice none 0 0, .slice none 0 0, .slice none 0 0, .int .i64 0, .int .i64 0, .int .i64 0], 12, 192⟩ := rfl
@[go_sem] theorem tab_83 : tab 83 = some ⟨.slice 80, .slice none 0 0, 1, 24⟩ := rfl
@[go_sem] theorem tab_84 : tab 84 = some ⟨.slice 156, .slice none 0 0, 1, 24⟩ := rfl
@[go_sem] theorem tab_85 : tab 85 = some ⟨.struct [(0, 3), (1, 83), (2, 84)], .agg #[.int .i64 0, .slice none 0 0, .slice none 0 0], 3, 56⟩ := rfl
@[go_sem] theorem tab_86 : tab 86 = some ⟨.struct [(0, 3), (1, 83), (2, 84)], .agg #[.int .i64 0, .slice none 0 0, .slice none 0 0], 3, 56⟩ := rfl
@[go_sem] theorem tab_87 : tab 87 = some ⟨.struct [(0, 75), (1, 22), (2, 3), (3, 3), (4, 3), (5, 82), (17, 86)], .agg #[.slice none 0 0, .slice none 0 0, .int .i64 0, .int .i64 0, .int .i64 0, .int .i64 0, .slice none 0 0, .slice none 0 0, .slice none 0 0, .int .i64 0, .int .i64 0, .slice none 0 0, .slice none 0 0, .slice none 0 0, .int .i64 0, .int .i64 0, .int .i64 0, .int .i64 0, .slice none 0 0, .slice none 0 0], 20, 320⟩ := rfl
@[go_sem] theorem tab_88 : tab 88 = some ⟨.struct [(0, 75), (1, 22), (2, 3), (3, 3), (4, 3), (5, 82), (17, 86)], .agg #[.slice none 0 0, .slice none 0 0, .int .i64 0, .int .i64 0, .int .i64 0, .int .i64 0, .slice none 0 0, .slice none 0 0, .slice none 0 0, .int .i64 0, .int .i64 0, .slice none 0 0, .slice none 0 0, .slice none 0 0, .int .i64 0, .int .i64 0, .int .i64 0, .int .i64 0, .slice none 0 0, .slice none 0 0], 20, 320⟩ := rfl
@[go_sem] theorem tab_89 : tab 89 = some ⟨.other, .nilFunc, 1, 8⟩ := rfl
@[go_sem] theorem tab_90 : tab 90 = some ⟨.other, .nilFunc, 1, 8⟩ := rfl
@[go_sem] theorem tab_91 : tab 91 = some ⟨.other, .nilFunc, 1, 8⟩ := rfl
@[go_sem] theorem tab_92 : tab 92 = some ⟨.other, .nilFunc, 1, 8⟩ := rfl
@[go_sem] theorem tab_93 : tab 93 = some ⟨.other, .nilFunc, 1, 8⟩ := rfl
@[go_sem] theorem tab_94 : tab 94 = some ⟨.other, .nilFunc, 1, 8⟩ := rfl
@[go_sem] theorem tab_95 : tab 95 = some ⟨.other, .nilFunc, 1, 8⟩ := rfl
@[go_sem] theorem tab_96 : tab 96 = some ⟨.other, .nilFunc, 1, 8⟩ := rfl
@[go_sem] theorem tab_97 : tab 97 = some ⟨.other, .nilFunc, 1, 8⟩ := rfl
@[go_sem] theorem tab_98 : tab 98 = some ⟨.other, .nilFunc, 1, 8⟩ := rfl
@[go_sem] theorem tab_99 : tab 99 = some ⟨.other, .nilFunc, 1, 8⟩ := rfl
@[go_sem] theorem tab_100 : tab 100 = some ⟨.other, .nilFunc, 1, 8⟩ := rfl
@[go_sem] theorem tab_101 : tab 101 = some ⟨.other, .nilFunc, 1, 8⟩ := rfl
@[go_sem] theorem tab_102 : tab 102 = some ⟨.other, .nilFunc, 1, 8⟩ := rfl
@[go_sem] theorem tab_103 : tab 103 = some ⟨.other, .nilFunc, 1, 8⟩ := rfl
@[go_sem] theorem tab_104 : tab 104 = some ⟨.other, .nilFunc, 1, 8⟩ := rfl
@[go_sem] theorem tab_105 : tab 105 = some ⟨.int .u32, .int .u32 0, 1, 4⟩ := rfl
@[go_sem] theorem tab_106 : tab 106 = some ⟨.other, .nilFunc, 1, 8⟩ := rfl
@[go_sem] theorem tab_107 : tab 107 = some ⟨.int .u64, .int .u64 0, 1, 8⟩ := rfl
@[go_sem] theorem tab_108 : tab 108 = some ⟨.other, .nilFunc, 1, 8⟩ := rfl
@[go_sem] theorem tab_109 : tab 109 = some ⟨.other, .nilFunc, 1, 8⟩ := rfl
@[go_sem] theorem tab_110 : tab 110 = some ⟨.other, .nilFunc, 1, 8⟩ := rfl
@[go_sem] theorem tab_111 : tab 111 = some ⟨.other, .nilFunc, 1, 8⟩ := rfl
@[go_sem] theorem tab_112 : tab 112 = some ⟨.other, .nilFunc, 1, 8⟩ := rfl
@[go_sem] theorem tab_113 : tab 113 = some ⟨.other, .nilFunc, 1, 8⟩ := rfl
@[go_sem] theorem tab_114 : tab 114 = some ⟨.other, .nilFunc, 1, 8⟩ := rfl
@[go_sem] theorem tab_115 : tab 115 = some ⟨.array 32 5, .agg #[.int .u8 0, .int .u8 0, .int .u8 0, .int .u8 0, .int .u8 0, .int .u8 0, .int .u8 0, .int .u8 0, .int .u8 0, .int .u8 0, .int .u8 0, .int .u8 0, .int .u8 0, .int .u8 0, .int .u8 0, .int .u8 0, .int .u8 0, .int .u8 0, .int .u8 0, .int .u8 0, .int .u8 0, .int .u8 0, .int .u8 0, .int .u8 0, .int .u8 0, .int .u8 0, .int .u8 0, .int .u8 0, .int .u8 0, .int .u8 0, .int .u8 0, .int .u8 0], 32, 32⟩ := rfl
@[go_sem] theorem tab_116 : tab 116 = some ⟨.array 64 5, .agg #[.int .u8 0, .int .u8 0, .int .u8 0, .int .u8 0, .int .u8 0, .int .u8 0, .int .u8 0, .int .u8 0, .int .u8 0, .int .u8 0, .int .u8 0, .int .u8 0, .int .u8 0, .int .u8 0, .int .u8 0, .int .u8 0, .int .u8 0, .int .u8 0, .int .u8 0, .int .u8 0, .int .u8 0, .int .u8 0, .int .u8 0, .int .u8 0, .int .u8 0, .int .u8 0, .int .u8 0, .int .u8 0, .int .u8 0, .int .u8 0, .int .u8 0, .int .u8 0, .int .u8 0, .int .u8 0, .int .u8 0, .int .u8 0, .int .u8 0, .int .u8 0, .int .u8 0, .int .u8 0, .int .u8 0, .int .u8 0, .int .u8 0, .int .u8 0, .int .u8 0, .int .u8 0, .int .u8 0, .int .u8 0, .int .u8 0, .int .u8 0, .int .u8 0, .int .u8 0, .int .u8 0, .int .u8 0, .int .u8 0, .int .u8 0, .int .u8 0, .int .u8 0, .int .u8 0, .int .u8 0, .int .u8 0, .int .u8 0, .int .u8 0, .int .u8 0], 64, 64⟩ := rfl
@[go_sem] theorem tab_117 : tab 117 = some ⟨.other, .nilFunc, 1, 8⟩ := rfl
@[go_sem] theorem tab_118 : tab 118 = some ⟨.int .i64, .int .i64 0, 1, 8⟩ := rfl
@[go_sem] theorem tab_120 : tab 120 = some ⟨.other, .nilFunc, 1, 8⟩ := rfl
@[go_sem] theorem tab_121 : tab 121 = some ⟨.other, .nilFunc, 1, 8⟩ := rfl
@[go_sem] theorem tab_122 : tab 122 = some ⟨.other, .nilFunc, 1, 8⟩ := rfl
@[go_sem] theorem tab_123 : tab 123 = some ⟨.other, .nilFunc, 1, 8⟩ := rfl
@[go_sem] theorem tab_125 : tab 125 = some ⟨.other, .nilFunc, 1, 8⟩ := rfl
@[go_sem] theorem tab_126 : tab 126 = some ⟨.int .u64, .int .u64 0, 1, 8⟩ := rfl
@[go_sem] theorem tab_127 : tab 127 = some ⟨.other, .nilFunc, 1, 8⟩ := rfl
@[go_sem] theorem tab_128 : tab 128 = some ⟨.other, .nilFunc, 1, 8⟩ := rfl
@[go_sem] theorem tab_129 : tab 129 = some ⟨.other, .nilFunc, 1, 8⟩ := rfl
@[go_sem] theorem tab_130 : tab 130 = some ⟨.other, .pointer none, 1, 8⟩ := rfl
@[go_sem] theorem tab_131 : tab 131 = some ⟨.other, .nilFunc, 1, 8⟩ := rfl
@[go_sem] theorem tab_132 : tab 132 = some ⟨.other, .pointer none, 1, 8⟩ := rfl
@[go_sem] theorem tab_134 : tab 134 = some ⟨.other, .nilFunc, 1, 8⟩ := rfl
@[go_sem] theorem tab_135 : tab 135 = some ⟨.other, .nilFunc, 1, 8⟩ := rfl
@[go_sem] theorem tab_136 : tab 136 = some ⟨.struct [(0, 17), (1, 17), (2, 17), (3, 9)], .agg #[.pointer none, .pointer none, .pointer none, .string ByteArray.empty], 4, 40⟩ := rfl
@[go_sem] theorem tab_137 : tab 137 = some ⟨.struct [(0, 17), (1, 17), (2, 17), (3, 9)], .agg #[.pointer none, .pointer none, .pointer none, .string ByteArray.empty], 4, 40⟩ := rfl
@[go_sem] theorem tab_138 : tab 138 = some ⟨.array 0 16, .agg #[], 0, 0⟩ := rfl
@[go_sem] theorem tab_139 : tab 139 = some ⟨.struct [(0, 138)], .agg #[], 0, 0⟩ := rfl
@[go_sem] theorem tab_140 : tab 140 = some ⟨.struct [(0, 138)], .agg #[], 0, 0⟩ := rfl
@[go_sem] theorem tab_141 : tab 141 = some ⟨.other, .nilFunc, 1, 8⟩ := rfl
@[go_sem] theorem tab_142 : tab 142 = some ⟨.int .u8, .int .u8 0, 1, 1⟩ := rfl
@[go_sem] theorem tab_143 : tab 143 = some ⟨.int .u8, .int .u8 0, 1, 1⟩ := rfl
@[go_sem] theorem tab_144 : tab 144 = some ⟨.other, .nilFunc, 1, 8⟩ := rfl
@[go_sem] theorem tab_145 : tab 145 = some ⟨.other, .pointer none, 1, 8⟩ := rfl
@[go_sem] theorem tab_146 : tab 146 = some ⟨.int .i32, .int .i32 0, 1, 4⟩ := rfl
@[go_sem] theorem tab_147 : tab 147 = some ⟨.int .i32, .int .i32 0, 1, 4⟩ := rfl
@[go_sem] theorem tab_148 : tab 148 = some ⟨.struct [(0, 12), (1, 12), (2, 105), (3, 142), (4, 5), (5, 5), (6, 143), (7, 144), (8, 145), (9, 146), (10, 147)], .agg #[.int .u64 0, .int .u64 0, .int .u32 0, .int .u8 0, .int .u8 0, .int .u8 0, .int .u8 0, .nilFunc, .pointer none, .int .i32 0, .int .i32 0], 11, 48⟩ := rfl
@[go_sem] theorem tab_149 : tab 149 = some ⟨.struct [(0, 12), (1, 12), (2, 105), (3, 142), (4, 5), (5, 5), (6, 143), (7, 144), (8, 145), (9, 146), (10, 147)], .agg #[.int .u64 0, .int .u64 0, .int .u32 0, .int .u8 0, .int .u8 0, .int .u8 0, .int .u8 0, .nilFunc, .pointer none, .int .i32 0, .int .i32 0], 11, 48⟩ := rfl
@[go_sem] theorem tab_150 : tab 150 = some ⟨.struct [(0, 22), (1, 3)], .agg #[.slice none 0 0, .int .i64 0], 2, 32⟩ := rfl
@[go_sem] theorem tab_151 : tab 151 = some ⟨.struct [(0, 22), (1, 3)], .agg #[.slice none 0 0, .int .i64 0], 2, 32⟩ := rfl
@[go_sem] theorem tab_152 : tab 152 = some ⟨.struct [(0, 3), (1, 3), (2, 3)], .agg #[.int .i64 0, .int .i64 0, .int .i64 0], 3, 24⟩ := rfl
@[go_sem] theorem tab_153 : tab 153 = some ⟨.struct [(0, 3), (1, 3), (2, 3)], .agg #[.int .i64 0, .int .i64 0, .int .i64 0], 3, 24⟩ := rfl
@[go_sem] theorem tab_154 : tab 154 = some ⟨.slice 160, .slice none 0 0, 1, 24⟩ := rfl
@[go_sem] theorem tab_155 : tab 155 = some ⟨.struct [(0, 154), (1, 59)], .agg #[.slice none 0 0, .slice none 0 0], 2, 48⟩ := rfl
@[go_sem] theorem tab_156 : tab 156 = some ⟨.struct [(0, 154), (1, 59)], .agg #[.slice none 0 0, .slice none 0 0], 2, 48⟩ := rfl
@[go_sem] theorem tab_158 : tab 158 = some ⟨.slice 161, .slice none 0 0, 1, 24⟩ := rfl
@[go_sem] theorem tab_159 : tab 159 = some ⟨.struct [(0, 3), (1, 3), (2, 158)], .agg #[.int .i64 0, .int .i64 0, .slice none 0 0], 3, 40⟩ := rfl
@[go_sem] theorem tab_160 : tab 160 = some ⟨.struct [(0, 3), (1, 3), (2, 158)], .agg #[.int .i64 0, .int .i64 0, .slice none 0 0], 3, 40⟩ := rfl
@[go_sem] theorem tab_161 : tab 161 = some ⟨.array 2 3, .agg #[.int .i64 0, .int .i64 0], 2, 16⟩ := rfl
set_option maxRecDepth 100000 in
theorem tab_ok : Tab.OK tab Tryd.prog := by
  intro t i h
  unfold tab at h
  split at h
  all_goals first | cases h; done | (cases h; exact ⟨by kernel_rfl, by kernel_rfl, rfl⟩)
end Go.Proofs.YtgkhcjdpdgfdbaaDoor
namespace Go.Proofs.YtgkhcjdpdgfdbaaDoor
open Go Go.RowKit

@[congr] theorem EvOps_congr {T : Tab} {X : CallP} {n0 lo : Nat} {wt : List Tmp} {draw : Bool} {ops : Array Oper} {Q : St → Prop} {l : List Oper} {st st' : St} (h : st = st') : EvOps T X n0 lo wt draw ops Q l st = EvOps T X n0 lo wt draw ops Q l st' := by rw [h]
@[congr] theorem EvC_congr {T : Tab} {X : CallP} {n0 lo : Nat} {wt : List Tmp} {c : Code} {Q : Exit → St → Prop} {st st' : St} (h : st = st') : EvC T X n0 lo wt c Q st = EvC T X n0 lo wt c Q st' := by rw [h]
section
variable {T : Tab} {X : CallP} {n0 lo : Nat} {wt : List Tmp} {draw : Bool} {ops : Array Oper} {Q : St → Prop} {R : Exit → St → Prop} {rest : List Oper} {o : Oper} {env : List D} {sto : Sto} {st : St}
theorem ops_nil (h : Q st) : EvOps T X n0 lo wt draw ops Q [] st := h
theorem ops_pure {d : D} (hg : guardD ops o env = some true) (h : evPure T (opd env) sto o = some d) (k : EvOps T X n0 lo wt false ops Q rest (St.put ⟨env, sto⟩ o.dst d)) : EvOps T X n0 lo wt false ops Q (o :: rest) ⟨env, sto⟩ := by
  unfold EvOps; simp only [hg]; exact .inl ⟨d, h, (fun h => by cases h), k⟩
theorem ops_pureD {d : D} (hn : needsFree ops o = false) (hg : guardD ops o env = some true) (h : evPure T (opd env) sto o = some d) (k : EvOps T X n0 lo wt true ops Q rest (St.put ⟨env, sto⟩ o.dst d)) : EvOps T X n0 lo wt true ops Q (o :: rest) ⟨env, sto⟩ := by
  unfold EvOps; simp only [hg]; exact .inl ⟨d, h, (fun _ h => by rw [hn] at h; cases h), k⟩
theorem ops_pureF {d : D} (hg : guardD ops o env = some true) (h : ∀ s, evPure T (opd env) s o = some d) (k : EvOps T X n0 lo wt true ops Q rest (St.put ⟨env, sto⟩ o.dst d)) : EvOps T X n0 lo wt true ops Q (o :: rest) ⟨env, sto⟩ := by
  unfold EvOps; simp only [hg]; exact .inl ⟨d, h sto, (fun _ _ => h), k⟩
theorem ops_eff {d : D} {sto' : Sto} (hk : effKind o ≠ 0) (hg : guardD ops o env = some true) (h : evEff T n0 lo (wrOf wt o) (opd env) sto o = some (d, sto')) (k : EvOps T X n0 lo wt draw ops Q rest (St.put ⟨env, sto'⟩ o.dst d)) : EvOps T X n0 lo wt draw ops Q (o :: rest) ⟨env, sto⟩ := by
  unfold EvOps; simp only [hg]; exact .inr (.inl ⟨d, sto', h, (fun _ => hk), k⟩)
theorem ops_lit {d : D} {sto' : Sto} (hg : guardD ops o env = some true) (h : evEff T n0 lo (wrOf wt o) (opd env) sto o = some (d, sto')) (k : EvOps T X n0 lo wt false ops Q rest (St.put ⟨env, sto'⟩ o.dst d)) : EvOps T X n0 lo wt false ops Q (o :: rest) ⟨env, sto⟩ := by
  unfold EvOps; simp only [hg]; exact .inr (.inl ⟨d, sto', h, (fun h => by cases h), k⟩)
theorem ops_call {f : FuncId} {args : List D} {r : D} (hg : guardD ops o env = some true) (h : evCallee (opd env) sto o = some (f, args)) (hx : X f args sto (if draw then sto.length else lo) r sto) (k : EvOps T X n0 lo wt draw ops Q rest (St.put ⟨env, sto⟩ o.dst r)) : EvOps T X n0 lo wt draw ops Q (o :: rest) ⟨env, sto⟩ := by
  unfold EvOps; simp only [hg]; exact .inr (.inr ⟨f, args, r, sto, h, hx, (fun _ => rfl), .inl rfl, k⟩)
theorem ops_callW {f : FuncId} {args : List D} {r : D} {sto' : Sto} (hg : guardD ops o env = some true) (h : evCallee (opd env) sto o = some (f, args)) (hx : X f args sto lo r sto') (ho : ∀ i ds, lo ≤ i → i < n0 → sto'[i]? = some (.cells ds) → sto[i]? = some (.cells ds) ∨ scopedL n0 ds = true) (k : EvOps T X n0 lo wt false ops Q rest (St.put ⟨env, sto'⟩ o.dst r)) : EvOps T X n0 lo wt false ops Q (o :: rest) ⟨env, sto⟩ := by
  unfold EvOps; simp only [hg]; exact .inr (.inr ⟨f, args, r, sto', h, by simpa using hx, (fun h => by cases h), .inr ho, k⟩)
theorem ops_skip (hg : guardD ops o env = some false) (k : EvOps T X n0 lo wt draw ops Q rest (St.put ⟨env, sto⟩ o.dst .undef)) : EvOps T X n0 lo wt draw ops Q (o :: rest) ⟨env, sto⟩ := by
  unfold EvOps; simp only [hg]; exact k
theorem c_skip (h : R .normal st) : EvC T X n0 lo wt .skip R st := by unfold EvC; exact h
theorem c_seq {x y : Code} (h : EvC T X n0 lo wt x (thenP (EvC T X n0 lo wt y R) R) st) : EvC T X n0 lo wt (.seq x y) R st := by rw [EvC]; exact h
theorem c_block {id : Nat} {b : Code} (h : EvC T X n0 lo wt b (blockP id R) st) : EvC T X n0 lo wt (.block id b) R st := by rw [EvC]; exact h
theorem c_exit {id : Nat} (h : R (.exit id) st) : EvC T X n0 lo wt (.exit id) R st := by rw [EvC]; exact h
theorem c_ret (h : R .ret st) : EvC T X n0 lo wt .ret R st := by rw [EvC]; exact h
theorem c_region {id : Nat} {l : List Oper} (h : EvOps T X n0 lo wt false l.toArray (R .normal) l st) : EvC T X n0 lo wt (.region id l.toArray false) R st := by
  rw [EvC]; exact ⟨(fun h => by cases h), _, .refl _, by simpa using h⟩
theorem c_regionD {id : Nat} {l : List Oper} (hd : drawOk l.toArray = true) (h : EvOps T X n0 lo wt true l.toArray (R .normal) l st) : EvC T X n0 lo wt (.region id l.toArray true) R st := by
  rw [EvC]; exact ⟨fun _ => hd, _, .refl _, by simpa using h⟩
theorem c_region_share (sh : List Nat) {id : Nat} {l : List Oper} (hd : draw = true → drawOk l.toArray = true) (h : EvOps T X n0 lo wt draw l.toArray (R .normal) l { st with sto := shareAll lo sh st.sto }) : EvC T X n0 lo wt (.region id l.toArray draw) R st := by
  rw [EvC]; exact ⟨hd, _, .share _ sh, by simpa using h⟩
theorem c_region_g {st' : St} (hg : Ghost n0 lo st st') {id : Nat} {l : List Oper} (hd : draw = true → drawOk l.toArray = true) (h : EvOps T X n0 lo wt draw l.toArray (R .normal) l st') : EvC T X n0 lo wt (.region id l.toArray draw) R st := by
  rw [EvC]; exact ⟨hd, _, hg, by simpa using h⟩
theorem c_cond {c : Operand} {x y : Code} {b : Bool} (hc : opd st.env c = .v (.bool b)) (hx : b = true → EvC T X n0 lo wt x R st) (hy : b = false → EvC T X n0 lo wt y R st) : EvC T X n0 lo wt (.cond c x y) R st := by
  rw [EvC]; simp only [hc]; exact ⟨hx, hy⟩
theorem c_cond_t {c : Operand} {x y : Code} (hc : opd st.env c = .v (.bool true)) (hx : EvC T X n0 lo wt x R st) : EvC T X n0 lo wt (.cond c x y) R st := c_cond hc (fun _ => hx) (fun h => by cases h)
theorem c_cond_f {c : Operand} {x y : Code} (hc : opd st.env c = .v (.bool false)) (hy : EvC T X n0 lo wt y R st) : EvC T X n0 lo wt (.cond c x y) R st := c_cond hc (fun h => by cases h) (fun _ => hy)
theorem then_normal {K : St → Prop} (h : K st) : thenP K R .normal st := h
theorem then_exit {K : St → Prop} {id : Nat} (h : R (.exit id) st) : thenP K R (.exit id) st := h
theorem then_ret {K : St → Prop} (h : R .ret st) : thenP K R .ret st := h
theorem block_normal {id : Nat} (h : R .normal st) : blockP id R .normal st := h
theorem block_ret {id : Nat} (h : R .ret st) : blockP id R .ret st := h
theorem block_here {id : Nat} (h : R .normal st) : blockP id R (.exit id) st := by simp only [blockP, if_true]; exact h
theorem block_far {id id' : Nat} (hne : id' ≠ id) (h : R (.exit id') st) : blockP id R (.exit id') st := by simp only [blockP, hne, if_false]; exact h
theorem EvOps_mono {X X' : CallP} {Q Q' : St → Prop} (hX : ∀ f a s l (r : D) s', X f a s l r s' → X' f a s l r s') (hQ : ∀ st, Q st → Q' st) : ∀ l st, EvOps T X n0 lo wt draw ops Q l st → EvOps T X' n0 lo wt draw ops Q' l st
  | [], st, h => hQ st h
  | o :: rest, st, h => by
    unfold EvOps at h ⊢
    split at h
    · rcases h with ⟨d, h1, h0, h2⟩ | ⟨d, s', h1, h0, h2⟩ | ⟨f, a, r, s', h1, h2, h0, h4, h3⟩
      · exact .inl ⟨d, h1, h0, EvOps_mono hX hQ rest _ h2⟩
      · exact .inr (.inl ⟨d, s', h1, h0, EvOps_mono hX hQ rest _ h2⟩)
      · exact .inr (.inr ⟨f, a, r, s', h1, hX _ _ _ _ _ _ h2, h0, h4, EvOps_mono hX hQ rest _ h3⟩)
    · exact EvOps_mono hX hQ rest _ h
    · exact h.elim
theorem thenP_mono {K K' : St → Prop} {R R' : Exit → St → Prop} (hK : ∀ s, K s → K' s) (hR : ∀ e s, R e s → R' e s) : ∀ e s, thenP K R e s → thenP K' R' e s := by
  intro e s h
  cases e <;> first | exact hK s h | exact hR _ s h
theorem blockP_mono {id : Nat} {R R' : Exit → St → Prop} (hR : ∀ e s, R e s → R' e s) : ∀ e s, blockP id R e s → blockP id R' e s := by
  intro e s h
  cases e <;> simp only [blockP] at h ⊢
  case exit j => split at h <;> simp_all
  all_goals exact hR _ _ h
theorem EvC_mono {X X' : CallP} (hX : ∀ f a s l (r : D) s', X f a s l r s' → X' f a s l r s') : ∀ (c : Code) (R R' : Exit → St → Prop), (∀ e s, R e s → R' e s) → ∀ st, EvC T X n0 lo wt c R st → EvC T X' n0 lo wt c R' st := by
  intro c
  induction c with
  | skip => intro R R' hR st h; simp only [EvC] at h ⊢; exact hR _ _ h
  | region id l d => intro R R' hR st h; simp only [EvC] at h ⊢; obtain ⟨hd, s2, hg, h⟩ := h; exact ⟨hd, s2, hg, EvOps_mono hX (fun s => hR _ s) _ _ h⟩
  | seq x y ihx ihy => intro R R' hR st h; simp only [EvC] at h ⊢; exact ihx _ _ (thenP_mono (fun s => ihy _ _ hR s) hR) _ h
  | cond c x y ihx ihy =>
    intro R R' hR st h
    simp only [EvC] at h ⊢
    split at h
    · exact ⟨fun hb => ihx _ _ hR _ (h.1 hb), fun hb => ihy _ _ hR _ (h.2 hb)⟩
    · exact h.elim
  | block id b ih => intro R R' hR st h; simp only [EvC] at h ⊢; exact ih _ _ (blockP_mono hR) _ h
  | loop b ih =>
    intro R R' hR st h
    simp only [EvC] at h ⊢
    intro Y hY
    exact h Y fun s s' hg hb => hY s s' hg (ih _ _ (thenP_mono (fun _ h => h) hR) _ hb)
  | exit id => intro R R' hR st h; simp only [EvC] at h ⊢; exact hR _ _ h
  | ret => intro R R' hR st h; simp only [EvC] at h ⊢; exact hR _ _ h
  | _ => intro R R' hR st h; simp only [EvC] at h

/-- A loop: a relation with a measure that each round lowers; between rounds what a ghost step allows. -/
theorem c_loop {b : Code} (I : Nat → St → Prop) {n : Nat} {st' : St} (hg : Ghost n0 lo st st') (h0 : I n st')
    (hr : ∀ n s, I n s → EvC T X n0 lo wt b (thenP (fun s' => ∃ m s'', m < n ∧ Ghost n0 lo s' s'' ∧ I m s'') R) s) : EvC T X n0 lo wt (.loop b) R st := by
  rw [EvC]
  intro Y hY
  have key : ∀ n s, I n s → EvC T X n0 lo wt b (thenP Y R) s ∧ ∀ s0, Ghost n0 lo s0 s → Y s0 := by
    intro n
    induction n using Nat.strongRecOn with
    | _ n ih =>
      intro s hI
      have hb : EvC T X n0 lo wt b (thenP Y R) s :=
        EvC_mono (fun _ _ _ _ _ _ h => h) b _ _ (thenP_mono (fun s' ⟨m, s'', hm, hg, hI'⟩ => (ih m hm s'' hI').2 s' hg) (fun _ _ h => h)) s (hr n s hI)
      exact ⟨hb, fun s0 hg => hY s0 s hg hb⟩
  exact (key n st' h0).2 st hg
theorem CallEv.intro {P : Program} {T : Tab} {B : CallP} {f : FuncId} {args : List D} {sto : Sto} {lo : Nat} {r : D} {sto' : Sto} (h : EvBody P T (CallEv P T B) f args sto lo r sto') : CallEv P T B f args sto lo r sto' := by
  intro X hX hB
  obtain ⟨fn, c, wt, h1, h2, h3, h4⟩ := h
  exact hX _ _ _ _ _ _ ⟨fn, c, wt, h1, h2, h3, EvC_mono (fun _ _ _ _ _ _ h => h X hX hB) c _ _ (fun _ _ h => h) _ h4⟩
theorem CallEv.base {P : Program} {T : Tab} {B : CallP} {f : FuncId} {args : List D} {sto : Sto} {lo : Nat} {r : D} {sto' : Sto} (h : B f args sto lo r sto') : CallEv P T B f args sto lo r sto' := fun _ _ hB => hB _ _ _ _ _ _ h
end
/-! What a walk unfolds. -/
attribute [go_sem] evPure evEff opd globAt globs ofVal ofVal1 evLoad kd pick pickV Kd.agg evFieldAddr evBin evBinI evShift evUn view viewC viewL D.cells lenD mget mput mdel okV evLookup ownWin evSliceW evSliceV evClear evDelete evUpdate evMakeMap evBuiltin evIndexAddr evSlice evIndex evField evBuild fillD placesT zeroD bound wrOf St.put evAppend cellsV fillV zeroV repl evSliceLit mm2 evMM List.foldlM_cons List.foldlM_nil capId D.inside scopedL evAppendZ argD argsD evCallee guardD shareE shareAll resOf resL resV
attribute [go_sem] List.set_cons_zero List.set_cons_succ List.getElem?_cons_zero List.getElem?_cons_succ List.map_cons List.map_nil Option.map_some Option.map_none Option.getD_some Option.getD_none Option.bind_some Option.bind_none List.length_append List.length_cons List.length_nil Nat.le_refl Nat.sub_self if_true if_false reduceIte Bool.false_eq_true decide_true decide_false and_self and_true true_and Nat.zero_add Nat.add_zero Nat.reduceAdd Nat.reduceSub Nat.reduceMul List.replicate_succ List.replicate_zero List.cons_append List.nil_append
theorem get_app0 {α : Type} (l : List α) (x : α) (m : List α) : (l ++ x :: m)[l.length]? = some x := by simp
theorem get_app {α : Type} (l m : List α) (k : Nat) : (l ++ m)[l.length + k]? = m[k]? := by rw [List.getElem?_append_right (by omega)]; congr 1; omega
theorem set_app0 {α : Type} (l : List α) (x y : α) (m : List α) : (l ++ x :: m).set l.length y = l ++ y :: m := by simp
theorem set_app {α : Type} (l m : List α) (k : Nat) (y : α) : (l ++ m).set (l.length + k) y = l ++ m.set k y := by rw [List.set_append_right _ _ (by omega)]; congr 2; omega
theorem take_app0 {α : Type} (l m : List α) : (l ++ m).take l.length = l := List.take_left
attribute [go_sem] get_app0 get_app set_app0 set_app take_app0 List.append_assoc List.take_succ_cons List.take_zero List.drop_succ_cons List.drop_zero List.take_nil List.drop_nil
end Go.Proofs.YtgkhcjdpdgfdbaaDoor
namespace Go.Proofs.YtgkhcjdpdgfdbaaDoor
open Go Go.RowKit
abbrev VI (n : Int) : V := .int .i64 n
abbrev VU (n : Nat) : V := .int .u64 (n : Int)
abbrev VB (b : Bool) : V := .bool b
/-- A slice of one-cell elements. -/
abbrev SL {α : Type} (f : α → V) (xs : List α) : V := .sl xs.length (xs.map f)
abbrev LI (xs : List Int) : V := SL VI xs
abbrev LLI (xs : List (List Int)) : V := SL LI xs
abbrev B0 : CallP := fun _ _ _ _ _ _ => False
theorem wrapI {x : Int} (h : -9223372036854775808 ≤ x ∧ x < 9223372036854775808) : IntKind.wrap .i64 x = x := by
  rw [IntKind.wrap_i64]; omega
theorem wrapU {x : Int} (h : 0 ≤ x ∧ x < 18446744073709551616) : IntKind.wrap .u64 x = x := by
  rw [IntKind.wrap_u64]; omega
theorem take_succ {α : Type} {l : List α} {i : Nat} (h : i < l.length) : l.take (i + 1) = l.take i ++ [l[i]] := List.take_succ_eq_append_getElem h
theorem beqT {a b : Int} (h : a = b) : (a == b) = true := by simp [h]
theorem beqF {a b : Int} (h : ¬ a = b) : (a == b) = false := by simp [h]
theorem bneT {a b : Int} (h : ¬ a = b) : (a != b) = true := by simp [h]
theorem bneF {a b : Int} (h : a = b) : (a != b) = false := by simp [h]
theorem listJ {n : Nat} {l : List D} (h : l.length = n) : ∃ J : Nat → D, l = (List.range n).map J :=
  ⟨fun k => l.getD k .dead, by
    apply List.ext_getElem
    · simp [h]
    · intro i h1 h2
      simp [List.getD, h1]⟩
theorem tmod2 (a : Nat) : (a : Int).tmod 2 = ((a % 2 : Nat) : Int) := by rw [Int.tmod_eq_emod_of_nonneg (by omega)]; omega
theorem tdiv2 (a : Nat) : (a : Int).tdiv 2 = ((a / 2 : Nat) : Int) := by rw [Int.tdiv_eq_ediv_of_nonneg (by omega)]; omega
attribute [go_sem] tmod2 tdiv2
attribute [go_sem] List.getElem_map List.length_map List.getElem?_map Int.toNat_natCast Nat.mul_one Nat.one_mul  Nat.mul_zero
-- last: it asks for a bound
attribute [go_sem low] List.getElem?_eq_getElem
end Go.Proofs.YtgkhcjdpdgfdbaaDoor
namespace Go.Proofs.YtgkhcjdpdgfdbaaDoor
open Go Go.RowKit
section
variable {T : Tab} {X : CallP} {n0 lo : Nat} {wt : List Tmp} {draw : Bool} {ops : Array Oper} {Q : St → Prop} {rest : List Oper} {o : Oper} {env : List D} {sto : Sto}
theorem set_same {l : List D} {d : Nat} {x : D} (h : l[d]? = some x) : l.set d x = l := by
  apply List.ext_getElem?
  intro k
  rcases Nat.decEq d k with hk | hk
  · rw [List.getElem?_set_ne hk]
  · subst hk
    rw [List.getElem?_set_self (List.getElem?_eq_some_iff.1 h).1, h]
set_option linter.unusedVariables false in
/-- A guard that is not known yet. -/
theorem ops_bsplit {j d : Nat} {want b : Bool} (h1 : o.guard = some (j, want)) (h2 : (ops[j]?).bind (·.dst) = some d) (h3 : env[d]? = some (.v (.bool b))) (ht : b = true → EvOps T X n0 lo wt draw ops Q (o :: rest) ⟨env.set d (.v (.bool true)), sto⟩) (hf : b = false → EvOps T X n0 lo wt draw ops Q (o :: rest) ⟨env.set d (.v (.bool false)), sto⟩) : EvOps T X n0 lo wt draw ops Q (o :: rest) ⟨env, sto⟩ := by
  cases b with
  | true => have := ht rfl; rwa [set_same h3] at this
  | false => have := hf rfl; rwa [set_same h3] at this
theorem ho_arr {id n : Nat} {es : Option (TypeId × Nat)} {wr : Bool} {cs : List V} : ∀ i ds, lo ≤ i → i < n0 → (sto.set id (.arr es wr n cs))[i]? = some (.cells ds) → sto[i]? = some (.cells ds) ∨ scopedL n0 ds = true := by
  intro i ds _ _ h
  left
  rw [List.getElem?_set] at h
  split at h
  · split at h <;> cases h
  · exact h
theorem ho_arr2 {id n n' : Nat} {es es' : Option (TypeId × Nat)} {wr wr' : Bool} {cs cs' : List V} : ∀ i ds, lo ≤ i → i < n0 → (sto.set id (.arr es wr n cs))[i]? = some (.cells ds) → (sto.set id (.arr es' wr' n' cs'))[i]? = some (.cells ds) ∨ scopedL n0 ds = true := by
  intro i ds _ _ h
  left
  rw [List.getElem?_set] at h ⊢
  split at h
  · split at h <;> cases h
  · rename_i hne
    rw [if_neg hne]
    exact h
theorem ho_map {id : Nat} {k : IntKind} {kvs : List (Int × V)} : ∀ i ds, lo ≤ i → i < n0 → (sto.set id (.map k kvs))[i]? = some (.cells ds) → sto[i]? = some (.cells ds) ∨ scopedL n0 ds = true := by
  intro i ds _ _ h
  left
  rw [List.getElem?_set] at h
  split at h
  · split at h <;> cases h
  · exact h
theorem ho_app {l : Sto} (hn : n0 ≤ sto.length) : ∀ i ds, lo ≤ i → i < n0 → (sto ++ l)[i]? = some (.cells ds) → sto[i]? = some (.cells ds) ∨ scopedL n0 ds = true := by
  intro i ds _ hi h
  left
  rwa [List.getElem?_append_left (by omega)] at h
theorem ho_app2 {l l' : Sto} (hn : n0 ≤ sto.length) : ∀ i ds, lo ≤ i → i < n0 → (sto ++ l)[i]? = some (.cells ds) → (sto ++ l')[i]? = some (.cells ds) ∨ scopedL n0 ds = true := by
  intro i ds _ hi h
  left
  rwa [List.getElem?_append_left (by omega)] at h ⊢
theorem set_sameE {id : Nat} {e : Ent} (h : sto[id]? = some e) : sto.set id e = sto := by
  apply List.ext_getElem?
  intro k
  rcases Nat.decEq id k with hk | hk
  · rw [List.getElem?_set_ne hk]
  · subst hk
    rw [List.getElem?_set_self (List.getElem?_eq_some_iff.1 h).1, h]
theorem getS {id : Nat} {e : Ent} (h : id < sto.length) : (sto.set id e)[id]? = some e := List.getElem?_set_self h
theorem mapSet {α : Type} {f : α → V} {zs : List α} {x : α} {i : Nat} (h : i < zs.length) : List.take i (zs.map f) ++ f x :: List.drop (i + 1) (zs.map f) = (zs.set i x).map f := by
  rw [List.map_set, List.set_eq_take_append_cons_drop, if_pos (by simpa using h)]
theorem CallEv.up {P : Program} {B B' : CallP} {f : FuncId} {args : List D} {r : D} {sto' : Sto} (hB : ∀ f args sto lo r sto', B f args sto lo r sto' → B' f args sto lo r sto') (h : CallEv P T B f args sto lo r sto') : CallEv P T B' f args sto lo r sto' :=
  fun X hX hb => h X hX fun _ _ _ _ _ _ q => hb _ _ _ _ _ _ (hB _ _ _ _ _ _ q)
theorem CallEv.up0 {P : Program} {B : CallP} {f : FuncId} {args : List D} {r : D} {sto' : Sto} (h : CallEv P T B0 f args sto lo r sto') : CallEv P T B f args sto lo r sto' := h.up fun _ _ _ _ _ _ q => q.elim
end
theorem bT {b : Bool} (h : b = true) : b = true := h
end Go.Proofs.YtgkhcjdpdgfdbaaDoor
namespace Go.Proofs.YtgkhcjdpdgfdbaaDoor
open Go
variable {T : Tab} {X : CallP} {n0 lo : Nat} {wt : List Tmp} {draw : Bool}
theorem cut_c {P : St → Prop} {c : Code} {R : Exit → St → Prop} {st : St} (h : P st) (k : ∀ s, P s → EvC T X n0 lo wt c R s) : EvC T X n0 lo wt c R st := k _ h
theorem cut_o {P : St → Prop} {ops : Array Oper} {Q : St → Prop} {l : List Oper} {st : St} (h : P st) (k : ∀ s, P s → EvOps T X n0 lo wt draw ops Q l s) : EvOps T X n0 lo wt draw ops Q l st := k _ h
/-- All ways out of a piece of code meet again. -/
theorem c_cut (e0 : Exit) (P : St → Prop) {c : Code} {R : Exit → St → Prop} {st : St} (h : EvC T X n0 lo wt c (fun e s => e = e0 ∧ P s) st) (k : ∀ s, P s → R e0 s) : EvC T X n0 lo wt c R st :=
  EvC_mono (fun _ _ _ _ _ _ h => h) _ _ _ (fun _ s h => h.1 ▸ k s h.2) _ h
theorem ite_same {α : Type} {m : Nat} {a b : α} (h : m = 0 → a = b) : (if m = 0 then a else b) = b := by by_cases hm : m = 0 <;> simp [hm, h]
/-- What a slot's slice reads as. -/
@[irreducible] def Rds (s : St) (d : D) (x : V) : Prop := view s.sto d = some x
theorem Rds.mk {s : St} {d : D} {x : V} (h : view s.sto d = some x) : Rds s d x := by unfold Rds; exact h
theorem Rds.get {s : St} {d : D} {x : V} (h : Rds s d x) : view s.sto d = some x := by unfold Rds at h; exact h
end Go.Proofs.YtgkhcjdpdgfdbaaDoor
namespace Go.Proofs.YtgkhcjdpdgfdbaaDoor
open Go Go.RowKit

/-- What is shown after the steps. -/
structure Later (q : Prop) : Prop where
  get : q
attribute [local irreducible] EvOps EvC
theorem go {p q : Prop} (k : Later q) (h : Later q → p := by (intro k; (first | with_reducible (first | refine c_seq ?_ | refine c_block ?_ | refine c_region ?_ | refine c_skip ?_ | refine c_exit ?_ | refine c_ret ?_ | refine then_normal ?_ | refine then_exit ?_ | refine then_ret ?_ | refine block_normal ?_ | refine block_here ?_ | refine block_ret ?_ | refine block_far (by decide) ?_ | refine ops_nil ?_ | refine c_cond_t rfl ?_ | refine c_cond_f rfl ?_) | ((with_reducible apply ops_pure); rfl; (simp (disch := (first | omega | assumption | ((repeat' with_reducible apply And.intro) <;> first | omega | assumption | rfl | (apply Or.inl; rfl) | (apply Or.inr; first | rfl | trivial | fail) | fail) | fail)) only [go_sem, if_pos, if_neg, wrapI, wrapU, decide_eq_true, decide_eq_false, beqT, beqF, bneT, bneF] <;> rfl); simp only [go_sem]) | ((with_reducible apply ops_pureF); rfl; (intro _; simp (disch := (first | omega | assumption | ((repeat' with_reducible apply And.intro) <;> first | omega | assumption | rfl | (apply Or.inl; rfl) | (apply Or.inr; first | rfl | trivial | fail) | fail) | fail)) only [go_sem, if_pos, if_neg, wrapI, wrapU, decide_eq_true, decide_eq_false, beqT, beqF, bneT, bneF] <;> rfl); simp only [go_sem]) | ((with_reducible apply ops_pureD); kernel_rfl; rfl; (simp (disch := (first | omega | assumption | ((repeat' with_reducible apply And.intro) <;> first | omega | assumption | rfl | (apply Or.inl; rfl) | (apply Or.inr; first | rfl | trivial | fail) | fail) | fail)) only [go_sem, if_pos, if_neg, wrapI, wrapU, decide_eq_true, decide_eq_false, beqT, beqF, bneT, bneF] <;> rfl); simp only [go_sem]) | ((with_reducible apply ops_skip); rfl; simp only [go_sem]) | ((with_reducible apply c_regionD); kernel_rfl) | ((with_reducible apply ops_eff); decide; rfl; (simp (disch := (first | omega | assumption | ((repeat' with_reducible apply And.intro) <;> first | omega | assumption | rfl | (apply Or.inl; rfl) | (apply Or.inr; first | rfl | trivial | fail) | fail) | fail)) only [go_sem, if_pos, if_neg, wrapI, wrapU, decide_eq_true, decide_eq_false, beqT, beqF, bneT, bneF] <;> rfl); simp only [go_sem])); (repeat (first | with_reducible (first | refine c_seq ?_ | refine c_block ?_ | refine c_region ?_ | refine c_skip ?_ | refine c_exit ?_ | refine c_ret ?_ | refine then_normal ?_ | refine then_exit ?_ | refine then_ret ?_ | refine block_normal ?_ | refine block_here ?_ | refine block_ret ?_ | refine block_far (by decide) ?_ | refine ops_nil ?_ | refine c_cond_t rfl ?_ | refine c_cond_f rfl ?_) | ((with_reducible apply ops_pure); rfl; (simp (disch := (first | omega | assumption | ((repeat' with_reducible apply And.intro) <;> first | omega | assumption | rfl | (apply Or.inl; rfl) | (apply Or.inr; first | rfl | trivial | fail) | fail) | fail)) only [go_sem, if_pos, if_neg, wrapI, wrapU, decide_eq_true, decide_eq_false, beqT, beqF, bneT, bneF] <;> rfl); simp only [go_sem]) | ((with_reducible apply ops_pureF); rfl; (intro _; simp (disch := (first | omega | assumption | ((repeat' with_reducible apply And.intro) <;> first | omega | assumption | rfl | (apply Or.inl; rfl) | (apply Or.inr; first | rfl | trivial | fail) | fail) | fail)) only [go_sem, if_pos, if_neg, wrapI, wrapU, decide_eq_true, decide_eq_false, beqT, beqF, bneT, bneF] <;> rfl); simp only [go_sem]) | ((with_reducible apply ops_pureD); kernel_rfl; rfl; (simp (disch := (first | omega | assumption | ((repeat' with_reducible apply And.intro) <;> first | omega | assumption | rfl | (apply Or.inl; rfl) | (apply Or.inr; first | rfl | trivial | fail) | fail) | fail)) only [go_sem, if_pos, if_neg, wrapI, wrapU, decide_eq_true, decide_eq_false, beqT, beqF, bneT, bneF] <;> rfl); simp only [go_sem]) | ((with_reducible apply ops_skip); rfl; simp only [go_sem]) | ((with_reducible apply c_regionD); kernel_rfl) | ((with_reducible apply ops_eff); decide; rfl; (simp (disch := (first | omega | assumption | ((repeat' with_reducible apply And.intro) <;> first | omega | assumption | rfl | (apply Or.inl; rfl) | (apply Or.inr; first | rfl | trivial | fail) | fail) | fail)) only [go_sem, if_pos, if_neg, wrapI, wrapU, decide_eq_true, decide_eq_false, beqT, beqF, bneT, bneF] <;> rfl); simp only [go_sem]))); exact k.get)) : p := h k
theorem goL {p q : Prop} (k : Later q) (h : Later q → p := by (intro k; (first | with_reducible (first | refine c_seq ?_ | refine c_block ?_ | refine c_region ?_ | refine c_skip ?_ | refine c_exit ?_ | refine c_ret ?_ | refine then_normal ?_ | refine then_exit ?_ | refine then_ret ?_ | refine block_normal ?_ | refine block_here ?_ | refine block_ret ?_ | refine block_far (by decide) ?_ | refine ops_nil ?_ | refine c_cond_t rfl ?_ | refine c_cond_f rfl ?_) | ((with_reducible apply ops_lit); rfl; (simp (disch := (first | omega | assumption | ((repeat' with_reducible apply And.intro) <;> first | omega | assumption | rfl | (apply Or.inl; rfl) | (apply Or.inr; first | rfl | trivial | fail) | fail) | fail)) only [go_sem, if_pos, if_neg, wrapI, wrapU, decide_eq_true, decide_eq_false, beqT, beqF, bneT, bneF] <;> rfl); simp only [go_sem]) | ((with_reducible apply ops_pure); rfl; (simp (disch := (first | omega | assumption | ((repeat' with_reducible apply And.intro) <;> first | omega | assumption | rfl | (apply Or.inl; rfl) | (apply Or.inr; first | rfl | trivial | fail) | fail) | fail)) only [go_sem, if_pos, if_neg, wrapI, wrapU, decide_eq_true, decide_eq_false, beqT, beqF, bneT, bneF] <;> rfl); simp only [go_sem]) | ((with_reducible apply ops_pureF); rfl; (intro _; simp (disch := (first | omega | assumption | ((repeat' with_reducible apply And.intro) <;> first | omega | assumption | rfl | (apply Or.inl; rfl) | (apply Or.inr; first | rfl | trivial | fail) | fail) | fail)) only [go_sem, if_pos, if_neg, wrapI, wrapU, decide_eq_true, decide_eq_false, beqT, beqF, bneT, bneF] <;> rfl); simp only [go_sem]) | ((with_reducible apply ops_pureD); kernel_rfl; rfl; (simp (disch := (first | omega | assumption | ((repeat' with_reducible apply And.intro) <;> first | omega | assumption | rfl | (apply Or.inl; rfl) | (apply Or.inr; first | rfl | trivial | fail) | fail) | fail)) only [go_sem, if_pos, if_neg, wrapI, wrapU, decide_eq_true, decide_eq_false, beqT, beqF, bneT, bneF] <;> rfl); simp only [go_sem]) | ((with_reducible apply ops_skip); rfl; simp only [go_sem]) | ((with_reducible apply c_regionD); kernel_rfl) | ((with_reducible apply ops_eff); decide; rfl; (simp (disch := (first | omega | assumption | ((repeat' with_reducible apply And.intro) <;> first | omega | assumption | rfl | (apply Or.inl; rfl) | (apply Or.inr; first | rfl | trivial | fail) | fail) | fail)) only [go_sem, if_pos, if_neg, wrapI, wrapU, decide_eq_true, decide_eq_false, beqT, beqF, bneT, bneF] <;> rfl); simp only [go_sem])); (repeat (first | with_reducible (first | refine c_seq ?_ | refine c_block ?_ | refine c_region ?_ | refine c_skip ?_ | refine c_exit ?_ | refine c_ret ?_ | refine then_normal ?_ | refine then_exit ?_ | refine then_ret ?_ | refine block_normal ?_ | refine block_here ?_ | refine block_ret ?_ | refine block_far (by decide) ?_ | refine ops_nil ?_ | refine c_cond_t rfl ?_ | refine c_cond_f rfl ?_) | ((with_reducible apply ops_lit); rfl; (simp (disch := (first | omega | assumption | ((repeat' with_reducible apply And.intro) <;> first | omega | assumption | rfl | (apply Or.inl; rfl) | (apply Or.inr; first | rfl | trivial | fail) | fail) | fail)) only [go_sem, if_pos, if_neg, wrapI, wrapU, decide_eq_true, decide_eq_false, beqT, beqF, bneT, bneF] <;> rfl); simp only [go_sem]) | ((with_reducible apply ops_pure); rfl; (simp (disch := (first | omega | assumption | ((repeat' with_reducible apply And.intro) <;> first | omega | assumption | rfl | (apply Or.inl; rfl) | (apply Or.inr; first | rfl | trivial | fail) | fail) | fail)) only [go_sem, if_pos, if_neg, wrapI, wrapU, decide_eq_true, decide_eq_false, beqT, beqF, bneT, bneF] <;> rfl); simp only [go_sem]) | ((with_reducible apply ops_pureF); rfl; (intro _; simp (disch := (first | omega | assumption | ((repeat' with_reducible apply And.intro) <;> first | omega | assumption | rfl | (apply Or.inl; rfl) | (apply Or.inr; first | rfl | trivial | fail) | fail) | fail)) only [go_sem, if_pos, if_neg, wrapI, wrapU, decide_eq_true, decide_eq_false, beqT, beqF, bneT, bneF] <;> rfl); simp only [go_sem]) | ((with_reducible apply ops_pureD); kernel_rfl; rfl; (simp (disch := (first | omega | assumption | ((repeat' with_reducible apply And.intro) <;> first | omega | assumption | rfl | (apply Or.inl; rfl) | (apply Or.inr; first | rfl | trivial | fail) | fail) | fail)) only [go_sem, if_pos, if_neg, wrapI, wrapU, decide_eq_true, decide_eq_false, beqT, beqF, bneT, bneF] <;> rfl); simp only [go_sem]) | ((with_reducible apply ops_skip); rfl; simp only [go_sem]) | ((with_reducible apply c_regionD); kernel_rfl) | ((with_reducible apply ops_eff); decide; rfl; (simp (disch := (first | omega | assumption | ((repeat' with_reducible apply And.intro) <;> first | omega | assumption | rfl | (apply Or.inl; rfl) | (apply Or.inr; first | rfl | trivial | fail) | fail) | fail)) only [go_sem, if_pos, if_neg, wrapI, wrapU, decide_eq_true, decide_eq_false, beqT, beqF, bneT, bneF] <;> rfl); simp only [go_sem]))); exact k.get)) : p := h k
theorem goX {p q : Prop} (k : Later q) (h : Later q → p := by (intro k; (first | with_reducible (first | refine c_seq ?_ | refine c_block ?_ | refine c_skip ?_ | refine c_exit ?_ | refine c_ret ?_ | refine then_normal ?_ | refine then_exit ?_ | refine then_ret ?_ | refine block_normal ?_ | refine block_here ?_ | refine block_ret ?_ | refine block_far (by decide) ?_ | refine ops_nil ?_ | refine c_cond_t rfl ?_ | refine c_cond_f rfl ?_) | ((with_reducible apply ops_pure); rfl; (simp (disch := (first | omega | assumption | ((repeat' with_reducible apply And.intro) <;> first | omega | assumption | rfl | (apply Or.inl; rfl) | (apply Or.inr; first | rfl | trivial | fail) | fail) | fail)) only [go_sem, if_pos, if_neg, wrapI, wrapU, decide_eq_true, decide_eq_false, beqT, beqF, bneT, bneF] <;> rfl); simp only [go_sem]) | ((with_reducible apply ops_pureF); rfl; (intro _; simp (disch := (first | omega | assumption | ((repeat' with_reducible apply And.intro) <;> first | omega | assumption | rfl | (apply Or.inl; rfl) | (apply Or.inr; first | rfl | trivial | fail) | fail) | fail)) only [go_sem, if_pos, if_neg, wrapI, wrapU, decide_eq_true, decide_eq_false, beqT, beqF, bneT, bneF] <;> rfl); simp only [go_sem]) | ((with_reducible apply ops_pureD); kernel_rfl; rfl; (simp (disch := (first | omega | assumption | ((repeat' with_reducible apply And.intro) <;> first | omega | assumption | rfl | (apply Or.inl; rfl) | (apply Or.inr; first | rfl | trivial | fail) | fail) | fail)) only [go_sem, if_pos, if_neg, wrapI, wrapU, decide_eq_true, decide_eq_false, beqT, beqF, bneT, bneF] <;> rfl); simp only [go_sem]) | ((with_reducible apply ops_skip); rfl; simp only [go_sem]) | ((with_reducible apply c_regionD); kernel_rfl) | ((with_reducible apply ops_eff); decide; rfl; (simp (disch := (first | omega | assumption | ((repeat' with_reducible apply And.intro) <;> first | omega | assumption | rfl | (apply Or.inl; rfl) | (apply Or.inr; first | rfl | trivial | fail) | fail) | fail)) only [go_sem, if_pos, if_neg, wrapI, wrapU, decide_eq_true, decide_eq_false, beqT, beqF, bneT, bneF] <;> rfl); simp only [go_sem])); (repeat (first | with_reducible (first | refine c_seq ?_ | refine c_block ?_ | refine c_skip ?_ | refine c_exit ?_ | refine c_ret ?_ | refine then_normal ?_ | refine then_exit ?_ | refine then_ret ?_ | refine block_normal ?_ | refine block_here ?_ | refine block_ret ?_ | refine block_far (by decide) ?_ | refine ops_nil ?_ | refine c_cond_t rfl ?_ | refine c_cond_f rfl ?_) | ((with_reducible apply ops_pure); rfl; (simp (disch := (first | omega | assumption | ((repeat' with_reducible apply And.intro) <;> first | omega | assumption | rfl | (apply Or.inl; rfl) | (apply Or.inr; first | rfl | trivial | fail) | fail) | fail)) only [go_sem, if_pos, if_neg, wrapI, wrapU, decide_eq_true, decide_eq_false, beqT, beqF, bneT, bneF] <;> rfl); simp only [go_sem]) | ((with_reducible apply ops_pureF); rfl; (intro _; simp (disch := (first | omega | assumption | ((repeat' with_reducible apply And.intro) <;> first | omega | assumption | rfl | (apply Or.inl; rfl) | (apply Or.inr; first | rfl | trivial | fail) | fail) | fail)) only [go_sem, if_pos, if_neg, wrapI, wrapU, decide_eq_true, decide_eq_false, beqT, beqF, bneT, bneF] <;> rfl); simp only [go_sem]) | ((with_reducible apply ops_pureD); kernel_rfl; rfl; (simp (disch := (first | omega | assumption | ((repeat' with_reducible apply And.intro) <;> first | omega | assumption | rfl | (apply Or.inl; rfl) | (apply Or.inr; first | rfl | trivial | fail) | fail) | fail)) only [go_sem, if_pos, if_neg, wrapI, wrapU, decide_eq_true, decide_eq_false, beqT, beqF, bneT, bneF] <;> rfl); simp only [go_sem]) | ((with_reducible apply ops_skip); rfl; simp only [go_sem]) | ((with_reducible apply c_regionD); kernel_rfl) | ((with_reducible apply ops_eff); decide; rfl; (simp (disch := (first | omega | assumption | ((repeat' with_reducible apply And.intro) <;> first | omega | assumption | rfl | (apply Or.inl; rfl) | (apply Or.inr; first | rfl | trivial | fail) | fail) | fail)) only [go_sem, if_pos, if_neg, wrapI, wrapU, decide_eq_true, decide_eq_false, beqT, beqF, bneT, bneF] <;> rfl); simp only [go_sem]))); exact k.get)) : p := h k
theorem sv {p : Prop} (h : p := by simp (disch := (first | omega | assumption | ((repeat' with_reducible apply And.intro) <;> first | omega | assumption | rfl | (apply Or.inl; rfl) | (apply Or.inr; first | rfl | trivial | fail) | fail) | fail)) only [go_sem, if_pos, if_neg, wrapI, wrapU, decide_eq_true, decide_eq_false, beqT, beqF, bneT, bneF] <;> rfl) : p := h
theorem call {T : Tab} {X : CallP} {n0 lo : Nat} {wt : List Tmp} {draw : Bool} {ops : Array Oper} {Q : St → Prop} {rest : List Oper} {o : Oper} {env : List D} {sto : Sto} {f : FuncId} {args : List D} (k : ∃ r, X f args sto (if draw then sto.length else lo) r sto ∧ EvOps T X n0 lo wt draw ops Q rest (St.put ⟨env, sto⟩ o.dst r)) (hg : guardD ops o env = some true := by rfl) (h : evCallee (opd env) sto o = some (f, args) := by simp (disch := (first | omega | assumption | ((repeat' with_reducible apply And.intro) <;> first | omega | assumption | rfl | (apply Or.inl; rfl) | (apply Or.inr; first | rfl | trivial | fail) | fail) | fail)) only [go_sem, if_pos, if_neg, wrapI, wrapU, decide_eq_true, decide_eq_false, beqT, beqF, bneT, bneF] <;> rfl) : EvOps T X n0 lo wt draw ops Q (o :: rest) ⟨env, sto⟩ := k.elim fun _ k => ops_call hg h k.1 k.2
section
variable {T : Tab} {X : CallP} {n0 lo : Nat} {wt : List Tmp} {draw : Bool} {ops : Array Oper} {Q : St → Prop} {R : Exit → St → Prop} {rest : List Oper} {o : Oper} {env : List D} {sto : Sto} {st : St}
theorem bsp {j d : Nat} {want b : Bool} (ht : b = true → EvOps T X n0 lo wt draw ops Q (o :: rest) ⟨env.set d (.v (.bool true)), sto⟩) (hf : b = false → EvOps T X n0 lo wt draw ops Q (o :: rest) ⟨env.set d (.v (.bool false)), sto⟩) (h1 : o.guard = some (j, want) := by rfl) (h2 : (ops[j]?).bind (·.dst) = some d := by rfl) (h3 : env[d]? = some (.v (.bool b)) := by rfl) : EvOps T X n0 lo wt draw ops Q (o :: rest) ⟨env, sto⟩ := ops_bsplit h1 h2 h3 ht hf
theorem csp {c : Operand} {x y : Code} {b : Bool} (hx : b = true → EvC T X n0 lo wt x R st) (hy : b = false → EvC T X n0 lo wt y R st) (hc : opd st.env c = .v (.bool b) := by rfl) : EvC T X n0 lo wt (.cond c x y) R st := c_cond hc hx hy
end
end Go.Proofs.YtgkhcjdpdgfdbaaDoor
namespace Go.Proofs.YtgkhcjdpdgfdbaaDoor
open Go Go.RowKit

attribute [local irreducible] EvOps EvC
set_option linter.unusedSimpArgs false
set_option linter.unusedVariables false
set_option maxRecDepth 100000
set_option maxHeartbeats 2000000
theorem indexI_ev (xs : List Int) (x : Int) (hx : xs.length < 4611686018427387904) (sto : Sto) (lo : Nat) (hlo : lo ≤ sto.length) : CallEv Tryd.prog tab B0 72 [.v (LI xs), .v (VI x)] sto lo (.v (VI (match xs.findIdx? (· == x) with | some i => (i : Int) | none => -1))) sto := by
  refine CallEv.intro ⟨_, _, [], Tryd.func72, rfl, by decide, ?_⟩; simp only [go_sem, Tryd.ntmps72]
  (try refine go ⟨?_⟩)
  refine c_loop (fun m s => ∃ i : Nat, (i ≤ xs.length ∧ m = xs.length - i ∧ xs.findIdx? (· == x) = ((xs.drop i).findIdx? (· == x)).map (· + i)) ∧ (s.env.length = 19 ∧ s.sto = sto ∧ s.env[0]? = some (.v (LI xs)) ∧ s.env[1]? = some (.v (VI x)) ∧ s.env[7]? = some (.v (VI xs.length)) ∧ s.env[8]? = some (.v (VI i)))) (.refl _) ⟨0, ⟨by omega, rfl, by simp⟩, rfl, rfl, ?_, ?_, ?_, ?_⟩ ?_
  all_goals first | rfl | skip
  rintro m s ⟨i, ⟨h1, rfl, h3⟩, hL, hT, k0, k1, k7, k8⟩
  obtain ⟨env, st0⟩ := s; obtain ⟨J, hJ⟩ := listJ hL; rw [show (List.range 19).map J = J 0 :: J 1 :: J 2 :: J 3 :: J 4 :: J 5 :: J 6 :: J 7 :: J 8 :: J 9 :: J 10 :: J 11 :: J 12 :: J 13 :: J 14 :: J 15 :: J 16 :: J 17 :: J 18 :: [] from by kernel_rfl] at hJ; replace k0 := Option.some.inj ((congrArg (·[0]?) hJ).symm.trans k0); replace k1 := Option.some.inj ((congrArg (·[1]?) hJ).symm.trans k1); replace k7 := Option.some.inj ((congrArg (·[7]?) hJ).symm.trans k7); replace k8 := Option.some.inj ((congrArg (·[8]?) hJ).symm.trans k8); rw [k0, k1, k7, k8] at hJ; dsimp only at hJ hT; subst hJ; replace hT := hT.symm; subst hT; clear hL k0 k1 k7 k8
  by_cases hi : i < xs.length
  · rw [List.drop_eq_getElem_cons hi] at h3
    repeat' (first | (refine go ⟨?_⟩) | (fail) | ((first | (refine bsp ?_ ?_) | (refine csp ?_ ?_)); all_goals (intro hb; (fail_if_success (cases hb; done)); (try simp only [decide_eq_true_eq, decide_eq_false_iff_not, beq_iff_eq, bne_iff_ne, ne_eq, beq_eq_false_iff_ne, bne_eq_false_iff_eq, Bool.not_eq_true', Bool.not_eq_false', Bool.and_eq_true, Bool.or_eq_true, Decidable.not_not] at hb); (try simp only [go_sem]))))
    · refine ⟨by first | exact .inr rfl | exact .inl rfl, .inl ⟨[], _, (by dsimp only [Tryd.f72]; exact sv), ?_, by simp⟩⟩
      rw [h3, List.findIdx?_cons, if_pos (by simp [hb])]
      simp
    · refine ⟨_, _, ?_, .refl _, i + 1, ⟨by omega, rfl, ?_⟩, rfl, rfl, ?_, ?_, ?_, ?_⟩
      · omega
      · rw [h3, List.findIdx?_cons, if_neg (by simp; exact fun e => hb e.symm)]
        cases (xs.drop (i + 1)).findIdx? (· == x) <;> simp; omega
      all_goals rfl
  · repeat' (first | (refine go ⟨?_⟩) | (fail) | ((first | (refine bsp ?_ ?_) | (refine csp ?_ ?_)); all_goals (intro hb; (fail_if_success (cases hb; done)); (try simp only [decide_eq_true_eq, decide_eq_false_iff_not, beq_iff_eq, bne_iff_ne, ne_eq, beq_eq_false_iff_ne, bne_eq_false_iff_eq, Bool.not_eq_true', Bool.not_eq_false', Bool.and_eq_true, Bool.or_eq_true, Decidable.not_not] at hb); (try simp only [go_sem]))))
    refine ⟨by first | exact .inr rfl | exact .inl rfl, .inl ⟨[], _, (by dsimp only [Tryd.f72]; exact sv), ?_, by simp⟩⟩
    rw [h3, List.drop_of_length_le (by omega)]
    rfl
theorem containsI_ev (xs : List Int) (x : Int) (hx : xs.length < 4611686018427387904) (sto : Sto) (lo : Nat) (hlo : lo ≤ sto.length) : CallEv Tryd.prog tab B0 62 [.v (LI xs), .v (VI x)] sto lo (.v (.bool (decide (x ∈ xs)))) sto := by
  refine CallEv.intro ⟨_, _, [], Tryd.func62, rfl, by decide, ?_⟩; simp only [go_sem, Tryd.ntmps62]
  repeat' (first | (refine go ⟨?_⟩) | (((refine call ?_); (refine ⟨_, indexI_ev xs x hx _ _ hlo, ?_⟩); (try simp only [go_sem]))) | ((first | (refine bsp ?_ ?_) | (refine csp ?_ ?_)); all_goals (intro hb; (fail_if_success (cases hb; done)); (try simp only [decide_eq_true_eq, decide_eq_false_iff_not, beq_iff_eq, bne_iff_ne, ne_eq, beq_eq_false_iff_ne, bne_eq_false_iff_eq, Bool.not_eq_true', Bool.not_eq_false', Bool.and_eq_true, Bool.or_eq_true, Decidable.not_not] at hb); (try simp only [go_sem]))))
  refine ⟨by first | exact .inr rfl | exact .inl rfl, .inl ⟨[], _, (by dsimp only [Tryd.f62]; exact sv), ?_, by simp⟩⟩
  have : decide (x ∈ xs) = (xs.findIdx? (· == x)).isSome := by
    rw [List.findIdx?_isSome]
    by_cases h : x ∈ xs
    · rw [decide_eq_true h, eq_comm, List.any_eq_true]
      exact ⟨x, h, by simp⟩
    · rw [decide_eq_false h, eq_comm, List.any_eq_false]
      intro y hy e
      simp at e
      subst e
      exact h hy
  rw [this]
  cases xs.findIdx? (· == x) <;> simp
theorem isNaNI_ev (x : Int) (sto : Sto) (lo : Nat) (hlo : lo ≤ sto.length) : CallEv Tryd.prog tab B0 88 [.v (VI x)] sto lo (.v (.bool false)) sto := by
  refine CallEv.intro ⟨_, _, [], Tryd.func88, rfl, by decide, ?_⟩; simp only [go_sem, Tryd.ntmps88]
  repeat' (first | (refine go ⟨?_⟩) | (fail) | ((first | (refine bsp ?_ ?_) | (refine csp ?_ ?_)); all_goals (intro hb; (fail_if_success (cases hb; done)); (try simp only [decide_eq_true_eq, decide_eq_false_iff_not, beq_iff_eq, bne_iff_ne, ne_eq, beq_eq_false_iff_ne, bne_eq_false_iff_eq, Bool.not_eq_true', Bool.not_eq_false', Bool.and_eq_true, Bool.or_eq_true, Decidable.not_not] at hb); (try simp only [go_sem]))))
  refine ⟨by first | exact .inr rfl | exact .inl rfl, .inl ⟨[], _, (by dsimp only [Tryd.f88]; exact sv), ?_, by simp⟩⟩
  simp
def cmpI (x y : Int) : Int := if x < y then -1 else if y < x then 1 else 0
theorem compareI_ev (x y : Int) (sto : Sto) (lo : Nat) (hlo : lo ≤ sto.length) : CallEv Tryd.prog tab B0 76 [.v (VI x), .v (VI y)] sto lo (.v (VI (cmpI x y))) sto := by
  refine CallEv.intro ⟨_, _, [], Tryd.func76, rfl, by decide, ?_⟩; simp only [go_sem, Tryd.ntmps76]
  repeat' (first | (refine go ⟨?_⟩) | (((refine call ?_); (refine ⟨_, isNaNI_ev _ _ _ (by first | omega | (simp; done) | (simp; omega)), ?_⟩); (try simp only [go_sem]))) | ((first | (refine bsp ?_ ?_) | (refine csp ?_ ?_)); all_goals (intro hb; (fail_if_success (cases hb; done)); (try simp only [decide_eq_true_eq, decide_eq_false_iff_not, beq_iff_eq, bne_iff_ne, ne_eq, beq_eq_false_iff_ne, bne_eq_false_iff_eq, Bool.not_eq_true', Bool.not_eq_false', Bool.and_eq_true, Bool.or_eq_true, Decidable.not_not] at hb); (try simp only [go_sem]))))
  all_goals (refine ⟨by first | exact .inr rfl | exact .inl rfl, .inl ⟨[], _, (by dsimp only [Tryd.f76]; exact sv), ?_, by simp⟩⟩)
  all_goals (simp only [cmpI])
  · rw [if_pos (by assumption)]
  · rw [if_neg (by assumption), if_pos (by omega)]
  · rw [if_neg (by assumption), if_neg (by omega)]
/-- The order of lists of numbers, as slices.Compare gives it. -/
def cmpL : List Int → List Int → Int
  | [], [] => 0
  | [], _ :: _ => -1
  | _ :: _, [] => 1
  | a :: xs, b :: ys => if cmpI a b = 0 then cmpL xs ys else cmpI a b
theorem compareL_ev (xs ys : List Int) (hx : xs.length < 4611686018427387904) (hy : ys.length < 4611686018427387904) (sto : Sto) (lo : Nat) (hlo : lo ≤ sto.length) : CallEv Tryd.prog tab B0 69 [.v (LI xs), .v (LI ys)] sto lo (.v (VI (cmpL xs ys))) sto := by
  refine CallEv.intro ⟨_, _, [], Tryd.func69, rfl, by decide, ?_⟩; simp only [go_sem, Tryd.ntmps69]
  (try refine go ⟨?_⟩)
  refine c_loop (fun m s => ∃ i : Nat, (i ≤ xs.length ∧ i ≤ ys.length ∧ m = xs.length - i ∧ cmpL xs ys = cmpL (xs.drop i) (ys.drop i)) ∧ (s.env.length = 36 ∧ s.sto = sto ∧ s.env[0]? = some (.v (LI xs)) ∧ s.env[1]? = some (.v (LI ys)) ∧ s.env[9]? = some (.v (LI xs)) ∧ s.env[10]? = some (.v (VI xs.length)) ∧ s.env[11]? = some (.v (VI i)))) (.refl _) ⟨0, ⟨by omega, by omega, rfl, by simp⟩, rfl, rfl, ?_, ?_, ?_, ?_, ?_⟩ ?_
  all_goals first | rfl | skip
  rintro m s ⟨i, ⟨h1, h2, rfl, h3⟩, hL, hT, k0, k1, k9, k10, k11⟩
  obtain ⟨env, st0⟩ := s; obtain ⟨J, hJ⟩ := listJ hL; rw [show (List.range 36).map J = J 0 :: J 1 :: J 2 :: J 3 :: J 4 :: J 5 :: J 6 :: J 7 :: J 8 :: J 9 :: J 10 :: J 11 :: J 12 :: J 13 :: J 14 :: J 15 :: J 16 :: J 17 :: J 18 :: J 19 :: J 20 :: J 21 :: J 22 :: J 23 :: J 24 :: J 25 :: J 26 :: J 27 :: J 28 :: J 29 :: J 30 :: J 31 :: J 32 :: J 33 :: J 34 :: J 35 :: [] from by kernel_rfl] at hJ; replace k0 := Option.some.inj ((congrArg (·[0]?) hJ).symm.trans k0); replace k1 := Option.some.inj ((congrArg (·[1]?) hJ).symm.trans k1); replace k9 := Option.some.inj ((congrArg (·[9]?) hJ).symm.trans k9); replace k10 := Option.some.inj ((congrArg (·[10]?) hJ).symm.trans k10); replace k11 := Option.some.inj ((congrArg (·[11]?) hJ).symm.trans k11); rw [k0, k1, k9, k10, k11] at hJ; dsimp only at hJ hT; subst hJ; replace hT := hT.symm; subst hT; clear hL k0 k1 k9 k10 k11
  by_cases hi : i < xs.length
  · rw [List.drop_eq_getElem_cons hi] at h3
    by_cases hj : i < ys.length
    · rw [List.drop_eq_getElem_cons hj, cmpL] at h3
      repeat' (first | (refine go ⟨?_⟩) | (((refine call ?_); (refine ⟨_, compareI_ev _ _ _ _ (by first | omega | (simp; done) | (simp; omega)), ?_⟩); (try simp only [go_sem]))) | ((first | (refine bsp ?_ ?_) | (refine csp ?_ ?_)); all_goals (intro hb; (fail_if_success (cases hb; done)); (try simp only [decide_eq_true_eq, decide_eq_false_iff_not, beq_iff_eq, bne_iff_ne, ne_eq, beq_eq_false_iff_ne, bne_eq_false_iff_eq, Bool.not_eq_true', Bool.not_eq_false', Bool.and_eq_true, Bool.or_eq_true, Decidable.not_not] at hb); (try simp only [go_sem]))))
      · refine ⟨by first | exact .inr rfl | exact .inl rfl, .inl ⟨[], _, (by dsimp only [Tryd.f69]; exact sv), ?_, by simp⟩⟩
        rw [h3, if_neg hb]
      · refine ⟨_, _, ?_, .refl _, i + 1, ⟨by omega, by omega, rfl, ?_⟩, rfl, rfl, ?_, ?_, ?_, ?_, ?_⟩
        · omega
        · rw [h3, if_pos hb]
        all_goals rfl
    · rw [List.drop_of_length_le (by omega : ys.length ≤ i), cmpL] at h3
      repeat' (first | (refine go ⟨?_⟩) | (fail) | ((first | (refine bsp ?_ ?_) | (refine csp ?_ ?_)); all_goals (intro hb; (fail_if_success (cases hb; done)); (try simp only [decide_eq_true_eq, decide_eq_false_iff_not, beq_iff_eq, bne_iff_ne, ne_eq, beq_eq_false_iff_ne, bne_eq_false_iff_eq, Bool.not_eq_true', Bool.not_eq_false', Bool.and_eq_true, Bool.or_eq_true, Decidable.not_not] at hb); (try simp only [go_sem]))))
      refine ⟨by first | exact .inr rfl | exact .inl rfl, .inl ⟨[], _, (by dsimp only [Tryd.f69]; exact sv), ?_, by simp⟩⟩
      rw [h3]
  · rw [List.drop_of_length_le (by omega : xs.length ≤ i)] at h3
    by_cases hj : i < ys.length
    · rw [List.drop_eq_getElem_cons hj, cmpL] at h3
      repeat' (first | (refine go ⟨?_⟩) | (fail) | ((first | (refine bsp ?_ ?_) | (refine csp ?_ ?_)); all_goals (intro hb; (fail_if_success (cases hb; done)); (try simp only [decide_eq_true_eq, decide_eq_false_iff_not, beq_iff_eq, bne_iff_ne, ne_eq, beq_eq_false_iff_ne, bne_eq_false_iff_eq, Bool.not_eq_true', Bool.not_eq_false', Bool.and_eq_true, Bool.or_eq_true, Decidable.not_not] at hb); (try simp only [go_sem]))))
      refine ⟨by first | exact .inr rfl | exact .inl rfl, .inl ⟨[], _, (by dsimp only [Tryd.f69]; exact sv), ?_, by simp⟩⟩
      rw [h3]
    · rw [List.drop_of_length_le (by omega : ys.length ≤ i), cmpL] at h3
      repeat' (first | (refine go ⟨?_⟩) | (fail) | ((first | (refine bsp ?_ ?_) | (refine csp ?_ ?_)); all_goals (intro hb; (fail_if_success (cases hb; done)); (try simp only [decide_eq_true_eq, decide_eq_false_iff_not, beq_iff_eq, bne_iff_ne, ne_eq, beq_eq_false_iff_ne, bne_eq_false_iff_eq, Bool.not_eq_true', Bool.not_eq_false', Bool.and_eq_true, Bool.or_eq_true, Decidable.not_not] at hb); (try simp only [go_sem]))))
      refine ⟨by first | exact .inr rfl | exact .inl rfl, .inl ⟨[], _, (by dsimp only [Tryd.f69]; exact sv), ?_, by simp⟩⟩
      rw [h3]
/-- The first element that no later one is before. -/
def minByI (c : Int → Int → Int) (m : Int) (l : List Int) : Int := l.foldl (fun m x => if c x m < 0 then x else m) m
theorem minFuncI_ev {B : CallP} (ys : List Int) (x0 : Int) (xs : List Int) (hys : ys = x0 :: xs) (c : Int → Int → Int) (g : FuncId) (caps : List Nat) (hx : ys.length < 4611686018427387904) (sto : Sto) (lo : Nat) (hlo : lo ≤ sto.length) (hc : ∀ x y, x ∈ ys → y ∈ ys → CallEv Tryd.prog tab B g ([.v (VI x), .v (VI y)] ++ caps.map (.ptr · 0)) sto lo (.v (VI (c x y))) sto) : CallEv Tryd.prog tab B 38 [.v (LI ys), .clo g caps] sto lo (.v (VI (minByI c x0 xs))) sto := by
  refine CallEv.intro ⟨_, _, [], Tryd.func38, rfl, by decide, ?_⟩; simp only [go_sem, Tryd.ntmps38]
  have hpos : 0 < ys.length := by rw [hys]; simp
  have h0 : ys[0] = x0 := by simp [hys]
  have hm0 : x0 ∈ ys := by rw [hys]; simp
  have hl : ys.length = xs.length + 1 := by rw [hys]; simp
  have hget : ∀ i (hi : i < ys.length), 1 ≤ i → minByI c x0 (xs.take i) = if c ys[i] (minByI c x0 (xs.take (i - 1))) < 0 then ys[i] else minByI c x0 (xs.take (i - 1)) := by
    intro i hi h1
    obtain ⟨k, rfl⟩ : ∃ k, i = k + 1 := ⟨i - 1, by omega⟩
    have e1 : ys[k + 1] = xs[k]'(by omega) := by simp [hys]
    rw [e1, List.take_succ_eq_append_getElem (by omega), minByI, List.foldl_append]
    rfl
  clear hys
  have hgeth := Lib.hid hget
  clear hget
  (try refine go ⟨?_⟩)
  refine c_loop (fun m s => ∃ (i : Nat) (m0 : Int), (i ≤ ys.length ∧ 1 ≤ i ∧ m = ys.length - i ∧ m0 ∈ ys ∧ m0 = minByI c x0 (xs.take (i - 1))) ∧ (s.env.length = 33 ∧ s.sto = sto ∧ s.env[0]? = some (.v (LI ys)) ∧ s.env[1]? = some (.clo g caps) ∧ s.env[5]? = some (.v (VI m0)) ∧ s.env[6]? = some (.v (VI i)))) (.refl _) ⟨1, x0, ⟨by omega, by omega, rfl, hm0, by simp [minByI]⟩, rfl, rfl, ?_, ?_, ?_, ?_⟩ ?_
  all_goals first | rfl | (rw [h0]; done) | (rw [← h0]; rfl) | skip
  rintro m s ⟨i, m0, ⟨h1, h1', rfl, h2, h3⟩, hL, hT, k0, k1, k5, k6⟩
  obtain ⟨env, st0⟩ := s; obtain ⟨J, hJ⟩ := listJ hL; rw [show (List.range 33).map J = J 0 :: J 1 :: J 2 :: J 3 :: J 4 :: J 5 :: J 6 :: J 7 :: J 8 :: J 9 :: J 10 :: J 11 :: J 12 :: J 13 :: J 14 :: J 15 :: J 16 :: J 17 :: J 18 :: J 19 :: J 20 :: J 21 :: J 22 :: J 23 :: J 24 :: J 25 :: J 26 :: J 27 :: J 28 :: J 29 :: J 30 :: J 31 :: J 32 :: [] from by kernel_rfl] at hJ; replace k0 := Option.some.inj ((congrArg (·[0]?) hJ).symm.trans k0); replace k1 := Option.some.inj ((congrArg (·[1]?) hJ).symm.trans k1); replace k5 := Option.some.inj ((congrArg (·[5]?) hJ).symm.trans k5); replace k6 := Option.some.inj ((congrArg (·[6]?) hJ).symm.trans k6); rw [k0, k1, k5, k6] at hJ; dsimp only at hJ hT; subst hJ; replace hT := hT.symm; subst hT; clear hL k0 k1 k5 k6
  by_cases hi : i < ys.length
  · have hci := hc ys[i] m0 (List.getElem_mem hi) h2
    have hmem := List.getElem_mem hi
    have hstep := hgeth i hi h1'
    rw [← h3] at hstep
    have hsh := Lib.hid hstep
    clear hstep
    repeat' (first | (refine go ⟨?_⟩) | (((refine call ?_); (refine ⟨_, hci, ?_⟩); (try simp only [go_sem]))) | ((first | (refine bsp ?_ ?_) | (refine csp ?_ ?_)); all_goals (intro hb; (fail_if_success (cases hb; done)); (try simp only [decide_eq_true_eq, decide_eq_false_iff_not, beq_iff_eq, bne_iff_ne, ne_eq, beq_eq_false_iff_ne, bne_eq_false_iff_eq, Bool.not_eq_true', Bool.not_eq_false', Bool.and_eq_true, Bool.or_eq_true, Decidable.not_not] at hb); (try simp only [go_sem]))))
    · refine ⟨_, _, ?_, .refl _, i + 1, _, ⟨by omega, by omega, rfl, hmem, ?_⟩, rfl, rfl, ?_, ?_, ?_, ?_⟩
      · omega
      · have hstep : _ = _ := hsh
        rw [Nat.add_sub_cancel, hstep, if_pos hb]
      all_goals rfl
    · refine ⟨_, _, ?_, .refl _, i + 1, _, ⟨by omega, by omega, rfl, h2, ?_⟩, rfl, rfl, ?_, ?_, ?_, ?_⟩
      · omega
      · have hstep : _ = _ := hsh
        rw [Nat.add_sub_cancel, hstep, if_neg hb]
      all_goals rfl
  · repeat' (first | (refine go ⟨?_⟩) | (fail) | ((first | (refine bsp ?_ ?_) | (refine csp ?_ ?_)); all_goals (intro hb; (fail_if_success (cases hb; done)); (try simp only [decide_eq_true_eq, decide_eq_false_iff_not, beq_iff_eq, bne_iff_ne, ne_eq, beq_eq_false_iff_ne, bne_eq_false_iff_eq, Bool.not_eq_true', Bool.not_eq_false', Bool.and_eq_true, Bool.or_eq_true, Decidable.not_not] at hb); (try simp only [go_sem]))))
    refine ⟨by first | exact .inr rfl | exact .inl rfl, .inl ⟨[], _, (by dsimp only [Tryd.f38]; exact sv), ?_, by simp⟩⟩
    rw [h3, List.take_of_length_le (by omega)]
end Go.Proofs.YtgkhcjdpdgfdbaaDoor
namespace Go.Proofs.YtgkhcjdpdgfdbaaDoor
open Go Go.RowKit

attribute [local irreducible] EvOps EvC
set_option linter.unusedSimpArgs false
set_option linter.unusedVariables false
set_option maxRecDepth 100000
/-- Whether a cost is not possible. -/
theorem of1_ev (n : Int) (sto : Sto) (lo : Nat) (hlo : lo ≤ sto.length) : CallEv Tryd.prog tab B0 51 [.v (VI n)] sto lo (.v (.bool (decide (n < 0) || decide (n > 1048576)))) sto := by
  refine CallEv.intro ⟨_, _, [], Tryd.func51, rfl, by decide, ?_⟩; simp only [go_sem, Tryd.ntmps51]
  repeat' (first | (refine go ⟨?_⟩) | (fail) | ((first | (refine bsp ?_ ?_) | (refine csp ?_ ?_)); all_goals (intro hb; (fail_if_success (cases hb; done)); (try simp only [decide_eq_true_eq, decide_eq_false_iff_not, beq_iff_eq, bne_iff_ne, ne_eq, beq_eq_false_iff_ne, bne_eq_false_iff_eq, Bool.not_eq_true', Bool.not_eq_false', Bool.and_eq_true, Bool.or_eq_true, Decidable.not_not] at hb); (try simp only [go_sem]))))
  all_goals (refine ⟨by first | exact .inr rfl | exact .inl rfl, .inl ⟨[], _, (by dsimp only [Tryd.f51]; exact sv), ?_, by simp⟩⟩)
  all_goals (simp [hb])
end Go.Proofs.YtgkhcjdpdgfdbaaDoor
namespace Go.Proofs.YtgkhcjdpdgfdbaaDoor
open Go Go.RowKit

attribute [local irreducible] EvOps EvC
set_option linter.unusedSimpArgs false
set_option linter.unusedVariables false
set_option maxRecDepth 100000
theorem indexFuncI_ev {B : CallP} (xs : List Int) (p : Int → Bool) (g : FuncId) (caps : List Nat) (hx : xs.length < 4611686018427387904) (sto : Sto) (lo : Nat) (hlo : lo ≤ sto.length) (hp : ∀ x ∈ xs, CallEv Tryd.prog tab B g ([.v (VI x)] ++ caps.map (.ptr · 0)) sto lo (.v (.bool (p x))) sto) : CallEv Tryd.prog tab B 64 [.v (SL VI xs), .clo g caps] sto lo (.v (VI (match xs.findIdx? p with | some i => (i : Int) | none => -1))) sto := by
  refine CallEv.intro ⟨_, _, [], Tryd.func64, rfl, by decide, ?_⟩; simp only [go_sem, Tryd.ntmps64]
  (try refine go ⟨?_⟩)
  refine c_loop (fun m s => ∃ i : Nat, (i ≤ xs.length ∧ m = xs.length - i ∧ xs.findIdx? p = ((xs.drop i).findIdx? p).map (· + i)) ∧ (s.env.length = 19 ∧ s.sto = sto ∧ s.env[0]? = some (.v (SL VI xs)) ∧ s.env[1]? = some (.clo g caps) ∧ s.env[7]? = some (.v (VI xs.length)) ∧ s.env[8]? = some (.v (VI i)))) (.refl _) ⟨0, ⟨by omega, rfl, by simp⟩, rfl, rfl, ?_, ?_, ?_, ?_⟩ ?_
  all_goals first | rfl | skip
  rintro m s ⟨i, ⟨h1, rfl, h3⟩, hL, hT, k0, k1, k7, k8⟩
  obtain ⟨env, st0⟩ := s; obtain ⟨J, hJ⟩ := listJ hL; rw [show (List.range 19).map J = J 0 :: J 1 :: J 2 :: J 3 :: J 4 :: J 5 :: J 6 :: J 7 :: J 8 :: J 9 :: J 10 :: J 11 :: J 12 :: J 13 :: J 14 :: J 15 :: J 16 :: J 17 :: J 18 :: [] from by kernel_rfl] at hJ; replace k0 := Option.some.inj ((congrArg (·[0]?) hJ).symm.trans k0); replace k1 := Option.some.inj ((congrArg (·[1]?) hJ).symm.trans k1); replace k7 := Option.some.inj ((congrArg (·[7]?) hJ).symm.trans k7); replace k8 := Option.some.inj ((congrArg (·[8]?) hJ).symm.trans k8); rw [k0, k1, k7, k8] at hJ; dsimp only at hJ hT; subst hJ; replace hT := hT.symm; subst hT; clear hL k0 k1 k7 k8
  by_cases hi : i < xs.length
  · have hpi := hp xs[i] (List.getElem_mem hi)
    rw [List.drop_eq_getElem_cons hi] at h3
    repeat' (first | (refine go ⟨?_⟩) | (((refine call ?_); (refine ⟨_, hpi, ?_⟩); (try simp only [go_sem]))) | ((first | (refine bsp ?_ ?_) | (refine csp ?_ ?_)); all_goals (intro hb; (fail_if_success (cases hb; done)); (try simp only [decide_eq_true_eq, decide_eq_false_iff_not, beq_iff_eq, bne_iff_ne, ne_eq, beq_eq_false_iff_ne, bne_eq_false_iff_eq, Bool.not_eq_true', Bool.not_eq_false', Bool.and_eq_true, Bool.or_eq_true, Decidable.not_not] at hb); (try simp only [go_sem]))))
    · refine ⟨by first | exact .inr rfl | exact .inl rfl, .inl ⟨[], _, (by dsimp only [Tryd.f64]; exact sv), ?_, by simp⟩⟩
      rw [h3, List.findIdx?_cons, if_pos hb]
      simp
    · refine ⟨_, _, ?_, .refl _, i + 1, ⟨by omega, rfl, ?_⟩, rfl, rfl, ?_, ?_, ?_, ?_⟩
      · omega
      · rw [h3, List.findIdx?_cons, if_neg (by simp [hb])]
        cases (xs.drop (i + 1)).findIdx? p <;> simp; omega
      all_goals rfl
  · repeat' (first | (refine go ⟨?_⟩) | (fail) | ((first | (refine bsp ?_ ?_) | (refine csp ?_ ?_)); all_goals (intro hb; (fail_if_success (cases hb; done)); (try simp only [decide_eq_true_eq, decide_eq_false_iff_not, beq_iff_eq, bne_iff_ne, ne_eq, beq_eq_false_iff_ne, bne_eq_false_iff_eq, Bool.not_eq_true', Bool.not_eq_false', Bool.and_eq_true, Bool.or_eq_true, Decidable.not_not] at hb); (try simp only [go_sem]))))
    refine ⟨by first | exact .inr rfl | exact .inl rfl, .inl ⟨[], _, (by dsimp only [Tryd.f64]; exact sv), ?_, by simp⟩⟩
    rw [h3, List.drop_of_length_le (by omega)]
    rfl
theorem containsFuncI_ev {B : CallP} (xs : List Int) (p : Int → Bool) (g : FuncId) (caps : List Nat) (hx : xs.length < 4611686018427387904) (sto : Sto) (lo : Nat) (hlo : lo ≤ sto.length) (hp : ∀ x ∈ xs, CallEv Tryd.prog tab B g ([.v (VI x)] ++ caps.map (.ptr · 0)) sto lo (.v (.bool (p x))) sto) : CallEv Tryd.prog tab B 50 [.v (SL VI xs), .clo g caps] sto lo (.v (.bool (xs.any p))) sto := by
  refine CallEv.intro ⟨_, _, [], Tryd.func50, rfl, by decide, ?_⟩; simp only [go_sem, Tryd.ntmps50]
  repeat' (first | (refine go ⟨?_⟩) | (((refine call ?_); (refine ⟨_, indexFuncI_ev xs p g caps hx _ _ hlo hp, ?_⟩); (try simp only [go_sem]))) | ((first | (refine bsp ?_ ?_) | (refine csp ?_ ?_)); all_goals (intro hb; (fail_if_success (cases hb; done)); (try simp only [decide_eq_true_eq, decide_eq_false_iff_not, beq_iff_eq, bne_iff_ne, ne_eq, beq_eq_false_iff_ne, bne_eq_false_iff_eq, Bool.not_eq_true', Bool.not_eq_false', Bool.and_eq_true, Bool.or_eq_true, Decidable.not_not] at hb); (try simp only [go_sem]))))
  refine ⟨by first | exact .inr rfl | exact .inl rfl, .inl ⟨[], _, (by dsimp only [Tryd.f50]; exact sv), ?_, by simp⟩⟩
  have : xs.any p = (xs.findIdx? p).isSome := by rw [List.findIdx?_isSome]
  rw [this]
  cases xs.findIdx? p <;> simp
end Go.Proofs.YtgkhcjdpdgfdbaaDoor
namespace Go.Proofs.YtgkhcjdpdgfdbaaDoor
open Go Go.RowKit

attribute [local irreducible] EvOps EvC
set_option linter.unusedSimpArgs false
set_option linter.unusedVariables false
set_option maxRecDepth 100000
theorem indexFuncU_ev {B : CallP} (xs : List Nat) (p : Nat → Bool) (g : FuncId) (caps : List Nat) (hx : xs.length < 4611686018427387904) (sto : Sto) (lo : Nat) (hlo : lo ≤ sto.length) (hp : ∀ x ∈ xs, CallEv Tryd.prog tab B g ([.v (VU x)] ++ caps.map (.ptr · 0)) sto lo (.v (.bool (p x))) sto) : CallEv Tryd.prog tab B 68 [.v (SL VU xs), .clo g caps] sto lo (.v (VI (match xs.findIdx? p with | some i => (i : Int) | none => -1))) sto := by
  refine CallEv.intro ⟨_, _, [], Tryd.func68, rfl, by decide, ?_⟩; simp only [go_sem, Tryd.ntmps68]
  (try refine go ⟨?_⟩)
  refine c_loop (fun m s => ∃ i : Nat, (i ≤ xs.length ∧ m = xs.length - i ∧ xs.findIdx? p = ((xs.drop i).findIdx? p).map (· + i)) ∧ (s.env.length = 19 ∧ s.sto = sto ∧ s.env[0]? = some (.v (SL VU xs)) ∧ s.env[1]? = some (.clo g caps) ∧ s.env[7]? = some (.v (VI xs.length)) ∧ s.env[8]? = some (.v (VI i)))) (.refl _) ⟨0, ⟨by omega, rfl, by simp⟩, rfl, rfl, ?_, ?_, ?_, ?_⟩ ?_
  all_goals first | rfl | skip
  rintro m s ⟨i, ⟨h1, rfl, h3⟩, hL, hT, k0, k1, k7, k8⟩
  obtain ⟨env, st0⟩ := s; obtain ⟨J, hJ⟩ := listJ hL; rw [show (List.range 19).map J = J 0 :: J 1 :: J 2 :: J 3 :: J 4 :: J 5 :: J 6 :: J 7 :: J 8 :: J 9 :: J 10 :: J 11 :: J 12 :: J 13 :: J 14 :: J 15 :: J 16 :: J 17 :: J 18 :: [] from by kernel_rfl] at hJ; replace k0 := Option.some.inj ((congrArg (·[0]?) hJ).symm.trans k0); replace k1 := Option.some.inj ((congrArg (·[1]?) hJ).symm.trans k1); replace k7 := Option.some.inj ((congrArg (·[7]?) hJ).symm.trans k7); replace k8 := Option.some.inj ((congrArg (·[8]?) hJ).symm.trans k8); rw [k0, k1, k7, k8] at hJ; dsimp only at hJ hT; subst hJ; replace hT := hT.symm; subst hT; clear hL k0 k1 k7 k8
  by_cases hi : i < xs.length
  · have hpi := hp xs[i] (List.getElem_mem hi)
    rw [List.drop_eq_getElem_cons hi] at h3
    repeat' (first | (refine go ⟨?_⟩) | (((refine call ?_); (refine ⟨_, hpi, ?_⟩); (try simp only [go_sem]))) | ((first | (refine bsp ?_ ?_) | (refine csp ?_ ?_)); all_goals (intro hb; (fail_if_success (cases hb; done)); (try simp only [decide_eq_true_eq, decide_eq_false_iff_not, beq_iff_eq, bne_iff_ne, ne_eq, beq_eq_false_iff_ne, bne_eq_false_iff_eq, Bool.not_eq_true', Bool.not_eq_false', Bool.and_eq_true, Bool.or_eq_true, Decidable.not_not] at hb); (try simp only [go_sem]))))
    · refine ⟨by first | exact .inr rfl | exact .inl rfl, .inl ⟨[], _, (by dsimp only [Tryd.f68]; exact sv), ?_, by simp⟩⟩
      rw [h3, List.findIdx?_cons, if_pos hb]
      simp
    · refine ⟨_, _, ?_, .refl _, i + 1, ⟨by omega, rfl, ?_⟩, rfl, rfl, ?_, ?_, ?_, ?_⟩
      · omega
      · rw [h3, List.findIdx?_cons, if_neg (by simp [hb])]
        cases (xs.drop (i + 1)).findIdx? p <;> simp; omega
      all_goals rfl
  · repeat' (first | (refine go ⟨?_⟩) | (fail) | ((first | (refine bsp ?_ ?_) | (refine csp ?_ ?_)); all_goals (intro hb; (fail_if_success (cases hb; done)); (try simp only [decide_eq_true_eq, decide_eq_false_iff_not, beq_iff_eq, bne_iff_ne, ne_eq, beq_eq_false_iff_ne, bne_eq_false_iff_eq, Bool.not_eq_true', Bool.not_eq_false', Bool.and_eq_true, Bool.or_eq_true, Decidable.not_not] at hb); (try simp only [go_sem]))))
    refine ⟨by first | exact .inr rfl | exact .inl rfl, .inl ⟨[], _, (by dsimp only [Tryd.f68]; exact sv), ?_, by simp⟩⟩
    rw [h3, List.drop_of_length_le (by omega)]
    rfl
theorem containsFuncU_ev {B : CallP} (xs : List Nat) (p : Nat → Bool) (g : FuncId) (caps : List Nat) (hx : xs.length < 4611686018427387904) (sto : Sto) (lo : Nat) (hlo : lo ≤ sto.length) (hp : ∀ x ∈ xs, CallEv Tryd.prog tab B g ([.v (VU x)] ++ caps.map (.ptr · 0)) sto lo (.v (.bool (p x))) sto) : CallEv Tryd.prog tab B 55 [.v (SL VU xs), .clo g caps] sto lo (.v (.bool (xs.any p))) sto := by
  refine CallEv.intro ⟨_, _, [], Tryd.func55, rfl, by decide, ?_⟩; simp only [go_sem, Tryd.ntmps55]
  repeat' (first | (refine go ⟨?_⟩) | (((refine call ?_); (refine ⟨_, indexFuncU_ev xs p g caps hx _ _ hlo hp, ?_⟩); (try simp only [go_sem]))) | ((first | (refine bsp ?_ ?_) | (refine csp ?_ ?_)); all_goals (intro hb; (fail_if_success (cases hb; done)); (try simp only [decide_eq_true_eq, decide_eq_false_iff_not, beq_iff_eq, bne_iff_ne, ne_eq, beq_eq_false_iff_ne, bne_eq_false_iff_eq, Bool.not_eq_true', Bool.not_eq_false', Bool.and_eq_true, Bool.or_eq_true, Decidable.not_not] at hb); (try simp only [go_sem]))))
  refine ⟨by first | exact .inr rfl | exact .inl rfl, .inl ⟨[], _, (by dsimp only [Tryd.f55]; exact sv), ?_, by simp⟩⟩
  have : xs.any p = (xs.findIdx? p).isSome := by rw [List.findIdx?_isSome]
  rw [this]
  cases xs.findIdx? p <;> simp
end Go.Proofs.YtgkhcjdpdgfdbaaDoor
namespace Go.Proofs.YtgkhcjdpdgfdbaaDoor
abbrev sortN (xs : List Nat) : List Nat := xs.mergeSort fun a b => decide (a ≤ b)
theorem sortN_sorted (xs : List Nat) : (sortN xs).Pairwise (· ≤ ·) := by
  have := List.pairwise_mergeSort (le := fun a b : Nat => decide (a ≤ b)) (by intro a b c; simp; omega) (by intro a b; simp; omega) xs
  simpa using this
theorem sortN_perm (xs : List Nat) : (sortN xs).Perm xs := List.mergeSort_perm _ _
theorem sortN_eq {ys xs : List Nat} (hs : ys.Pairwise (· ≤ ·)) (hp : ys.Perm xs) : ys = sortN xs :=
  List.Perm.eq_of_pairwise (le := (· ≤ ·)) (fun a b _ _ h1 h2 => by omega) hs (sortN_sorted xs) (hp.trans (sortN_perm xs).symm)
/-- In the middle of an insertion: x on its way down through what is sorted. -/
structure Ins (xs zs : List Nat) (i : Nat) (A : List Nat) (x : Nat) (B R : List Nat) : Prop where
  eq : zs = A ++ x :: (B ++ R)
  len : A.length + B.length = i
  srt : (A ++ B).Pairwise (· ≤ ·)
  low : ∀ b ∈ B, x ≤ b
  perm : zs.Perm xs
theorem Ins.start {xs zs : List Nat} {i : Nat} (hs : (zs.take i).Pairwise (· ≤ ·)) (hp : zs.Perm xs) (hi : i < zs.length) : Ins xs zs i (zs.take i) zs[i] [] (zs.drop (i + 1)) := by
  refine ⟨?_, by simp; omega, by simpa using hs, (fun b h => by cases h), hp⟩
  rw [List.nil_append, ← List.drop_eq_getElem_cons hi, List.take_append_drop]
theorem Ins.step {xs zs : List Nat} {i : Nat} {A : List Nat} {y x : Nat} {B R : List Nat} (h : Ins xs zs i (A ++ [y]) x B R) (hlt : x < y) : Ins xs ((zs.set (A.length + 1) y).set A.length x) i A x (y :: B) R := by
  obtain ⟨rfl, h2, h3, h4, h5⟩ := h
  have e : ((((A ++ [y]) ++ x :: (B ++ R)).set (A.length + 1) y).set A.length x) = A ++ x :: (y :: B ++ R) := by
    rw [List.append_assoc, List.set_append_right _ _ (by omega), show A.length + 1 - A.length = 1 from by omega]
    rw [List.set_append_right _ _ (by omega), Nat.sub_self]
    simp
  refine ⟨e, by simp at h2 ⊢; omega, by simpa using h3, fun b hb => ?_, ?_⟩
  · rcases List.mem_cons.1 hb with rfl | hb
    · omega
    · exact h4 b hb
  · rw [e]
    refine List.Perm.trans ?_ h5
    simp only [List.append_assoc, List.cons_append, List.nil_append]
    exact List.Perm.append_left A (List.Perm.swap y x _)
theorem Ins.done {xs zs : List Nat} {i : Nat} {A : List Nat} {x : Nat} {B R : List Nat} (h : Ins xs zs i A x B R) (hl : ∀ y, A.getLast? = some y → y ≤ x) : (zs.take (i + 1)).Pairwise (· ≤ ·) ∧ zs.Perm xs := by
  obtain ⟨rfl, h2, h3, h4, h5⟩ := h
  refine ⟨?_, h5⟩
  have e : (A ++ x :: (B ++ R)).take (i + 1) = A ++ x :: B := by
    rw [List.take_append, List.take_of_length_le (by omega), show i + 1 - A.length = B.length + 1 from by omega, List.take_succ_cons, List.take_append_of_le_length (Nat.le_refl _), List.take_length]
  rw [e]
  rw [List.pairwise_append] at h3 ⊢
  obtain ⟨a1, a2, a3⟩ := h3
  refine ⟨a1, List.pairwise_cons.2 ⟨h4, a2⟩, fun a ha b hb => ?_⟩
  have hax : a ≤ x := by
    cases hg : A.getLast? with
    | none => rw [List.getLast?_eq_none_iff] at hg; subst hg; cases ha
    | some y =>
      have hy := hl y hg
      obtain ⟨A', rfl⟩ := List.getLast?_eq_some_iff.1 hg
      rcases List.mem_append.1 ha with h | h
      · have := (List.pairwise_append.1 a1).2.2 a h y (by simp)
        omega
      · rw [List.mem_singleton.1 h]; exact hy
  rcases List.mem_cons.1 hb with rfl | hb
  · exact hax
  · exact a3 a ha b hb
end Go.Proofs.YtgkhcjdpdgfdbaaDoor
namespace Go.Proofs.YtgkhcjdpdgfdbaaDoor
open Go Go.RowKit

attribute [local irreducible] EvOps EvC
theorem lsgo {p q : Prop} (k : Later q) (h : Later q → p := by (intro k; (first | with_reducible (first | refine c_seq ?_ | refine c_block ?_ | refine c_region ?_ | refine c_skip ?_ | refine c_exit ?_ | refine c_ret ?_ | refine then_normal ?_ | refine then_exit ?_ | refine then_ret ?_ | refine block_normal ?_ | refine block_here ?_ | refine block_ret ?_ | refine block_far (by decide) ?_ | refine ops_nil ?_ | refine c_cond_t rfl ?_ | refine c_cond_f rfl ?_) | ((with_reducible apply ops_pure); rfl; (simp (disch := (first | omega | assumption | (simp only [List.length_set, List.length_map]; omega) | ((repeat' with_reducible apply And.intro) <;> first | omega | assumption | rfl | (simp only [List.length_set, List.length_map]; omega) | (apply Or.inl; rfl) | (apply Or.inr; first | rfl | trivial | fail) | fail) | fail)) only [go_sem, if_pos, if_neg, wrapI, wrapU, decide_eq_true, decide_eq_false, beqT, beqF, bneT, bneF] <;> rfl); simp only [go_sem]) | ((with_reducible apply ops_pureF); rfl; (intro _; simp (disch := (first | omega | assumption | (simp only [List.length_set, List.length_map]; omega) | ((repeat' with_reducible apply And.intro) <;> first | omega | assumption | rfl | (simp only [List.length_set, List.length_map]; omega) | (apply Or.inl; rfl) | (apply Or.inr; first | rfl | trivial | fail) | fail) | fail)) only [go_sem, if_pos, if_neg, wrapI, wrapU, decide_eq_true, decide_eq_false, beqT, beqF, bneT, bneF] <;> rfl); simp only [go_sem]) | ((with_reducible apply ops_pureD); kernel_rfl; rfl; (simp (disch := (first | omega | assumption | (simp only [List.length_set, List.length_map]; omega) | ((repeat' with_reducible apply And.intro) <;> first | omega | assumption | rfl | (simp only [List.length_set, List.length_map]; omega) | (apply Or.inl; rfl) | (apply Or.inr; first | rfl | trivial | fail) | fail) | fail)) only [go_sem, if_pos, if_neg, wrapI, wrapU, decide_eq_true, decide_eq_false, beqT, beqF, bneT, bneF] <;> rfl); simp only [go_sem]) | ((with_reducible apply ops_skip); rfl; simp only [go_sem]) | ((with_reducible apply c_regionD); kernel_rfl) | ((with_reducible apply ops_eff); decide; rfl; (simp (disch := (first | omega | assumption | (simp only [List.length_set, List.length_map]; omega) | ((repeat' with_reducible apply And.intro) <;> first | omega | assumption | rfl | (simp only [List.length_set, List.length_map]; omega) | (apply Or.inl; rfl) | (apply Or.inr; first | rfl | trivial | fail) | fail) | fail)) only [go_sem, if_pos, if_neg, wrapI, wrapU, decide_eq_true, decide_eq_false, beqT, beqF, bneT, bneF] <;> rfl); simp only [go_sem])); (repeat (first | with_reducible (first | refine c_seq ?_ | refine c_block ?_ | refine c_region ?_ | refine c_skip ?_ | refine c_exit ?_ | refine c_ret ?_ | refine then_normal ?_ | refine then_exit ?_ | refine then_ret ?_ | refine block_normal ?_ | refine block_here ?_ | refine block_ret ?_ | refine block_far (by decide) ?_ | refine ops_nil ?_ | refine c_cond_t rfl ?_ | refine c_cond_f rfl ?_) | ((with_reducible apply ops_pure); rfl; (simp (disch := (first | omega | assumption | (simp only [List.length_set, List.length_map]; omega) | ((repeat' with_reducible apply And.intro) <;> first | omega | assumption | rfl | (simp only [List.length_set, List.length_map]; omega) | (apply Or.inl; rfl) | (apply Or.inr; first | rfl | trivial | fail) | fail) | fail)) only [go_sem, if_pos, if_neg, wrapI, wrapU, decide_eq_true, decide_eq_false, beqT, beqF, bneT, bneF] <;> rfl); simp only [go_sem]) | ((with_reducible apply ops_pureF); rfl; (intro _; simp (disch := (first | omega | assumption | (simp only [List.length_set, List.length_map]; omega) | ((repeat' with_reducible apply And.intro) <;> first | omega | assumption | rfl | (simp only [List.length_set, List.length_map]; omega) | (apply Or.inl; rfl) | (apply Or.inr; first | rfl | trivial | fail) | fail) | fail)) only [go_sem, if_pos, if_neg, wrapI, wrapU, decide_eq_true, decide_eq_false, beqT, beqF, bneT, bneF] <;> rfl); simp only [go_sem]) | ((with_reducible apply ops_pureD); kernel_rfl; rfl; (simp (disch := (first | omega | assumption | (simp only [List.length_set, List.length_map]; omega) | ((repeat' with_reducible apply And.intro) <;> first | omega | assumption | rfl | (simp only [List.length_set, List.length_map]; omega) | (apply Or.inl; rfl) | (apply Or.inr; first | rfl | trivial | fail) | fail) | fail)) only [go_sem, if_pos, if_neg, wrapI, wrapU, decide_eq_true, decide_eq_false, beqT, beqF, bneT, bneF] <;> rfl); simp only [go_sem]) | ((with_reducible apply ops_skip); rfl; simp only [go_sem]) | ((with_reducible apply c_regionD); kernel_rfl) | ((with_reducible apply ops_eff); decide; rfl; (simp (disch := (first | omega | assumption | (simp only [List.length_set, List.length_map]; omega) | ((repeat' with_reducible apply And.intro) <;> first | omega | assumption | rfl | (simp only [List.length_set, List.length_map]; omega) | (apply Or.inl; rfl) | (apply Or.inr; first | rfl | trivial | fail) | fail) | fail)) only [go_sem, if_pos, if_neg, wrapI, wrapU, decide_eq_true, decide_eq_false, beqT, beqF, bneT, bneF] <;> rfl); simp only [go_sem]))); exact k.get)) : p := h k
theorem lsgoX {p q : Prop} (k : Later q) (h : Later q → p := by (intro k; (first | with_reducible (first | refine c_seq ?_ | refine c_block ?_ | refine c_skip ?_ | refine c_exit ?_ | refine c_ret ?_ | refine then_normal ?_ | refine then_exit ?_ | refine then_ret ?_ | refine block_normal ?_ | refine block_here ?_ | refine block_ret ?_ | refine block_far (by decide) ?_ | refine ops_nil ?_ | refine c_cond_t rfl ?_ | refine c_cond_f rfl ?_) | ((with_reducible apply ops_pure); rfl; (simp (disch := (first | omega | assumption | (simp only [List.length_set, List.length_map]; omega) | ((repeat' with_reducible apply And.intro) <;> first | omega | assumption | rfl | (simp only [List.length_set, List.length_map]; omega) | (apply Or.inl; rfl) | (apply Or.inr; first | rfl | trivial | fail) | fail) | fail)) only [go_sem, if_pos, if_neg, wrapI, wrapU, decide_eq_true, decide_eq_false, beqT, beqF, bneT, bneF] <;> rfl); simp only [go_sem]) | ((with_reducible apply ops_pureF); rfl; (intro _; simp (disch := (first | omega | assumption | (simp only [List.length_set, List.length_map]; omega) | ((repeat' with_reducible apply And.intro) <;> first | omega | assumption | rfl | (simp only [List.length_set, List.length_map]; omega) | (apply Or.inl; rfl) | (apply Or.inr; first | rfl | trivial | fail) | fail) | fail)) only [go_sem, if_pos, if_neg, wrapI, wrapU, decide_eq_true, decide_eq_false, beqT, beqF, bneT, bneF] <;> rfl); simp only [go_sem]) | ((with_reducible apply ops_pureD); kernel_rfl; rfl; (simp (disch := (first | omega | assumption | (simp only [List.length_set, List.length_map]; omega) | ((repeat' with_reducible apply And.intro) <;> first | omega | assumption | rfl | (simp only [List.length_set, List.length_map]; omega) | (apply Or.inl; rfl) | (apply Or.inr; first | rfl | trivial | fail) | fail) | fail)) only [go_sem, if_pos, if_neg, wrapI, wrapU, decide_eq_true, decide_eq_false, beqT, beqF, bneT, bneF] <;> rfl); simp only [go_sem]) | ((with_reducible apply ops_skip); rfl; simp only [go_sem]) | ((with_reducible apply c_regionD); kernel_rfl) | ((with_reducible apply ops_eff); decide; rfl; (simp (disch := (first | omega | assumption | (simp only [List.length_set, List.length_map]; omega) | ((repeat' with_reducible apply And.intro) <;> first | omega | assumption | rfl | (simp only [List.length_set, List.length_map]; omega) | (apply Or.inl; rfl) | (apply Or.inr; first | rfl | trivial | fail) | fail) | fail)) only [go_sem, if_pos, if_neg, wrapI, wrapU, decide_eq_true, decide_eq_false, beqT, beqF, bneT, bneF] <;> rfl); simp only [go_sem])); (repeat (first | with_reducible (first | refine c_seq ?_ | refine c_block ?_ | refine c_skip ?_ | refine c_exit ?_ | refine c_ret ?_ | refine then_normal ?_ | refine then_exit ?_ | refine then_ret ?_ | refine block_normal ?_ | refine block_here ?_ | refine block_ret ?_ | refine block_far (by decide) ?_ | refine ops_nil ?_ | refine c_cond_t rfl ?_ | refine c_cond_f rfl ?_) | ((with_reducible apply ops_pure); rfl; (simp (disch := (first | omega | assumption | (simp only [List.length_set, List.length_map]; omega) | ((repeat' with_reducible apply And.intro) <;> first | omega | assumption | rfl | (simp only [List.length_set, List.length_map]; omega) | (apply Or.inl; rfl) | (apply Or.inr; first | rfl | trivial | fail) | fail) | fail)) only [go_sem, if_pos, if_neg, wrapI, wrapU, decide_eq_true, decide_eq_false, beqT, beqF, bneT, bneF] <;> rfl); simp only [go_sem]) | ((with_reducible apply ops_pureF); rfl; (intro _; simp (disch := (first | omega | assumption | (simp only [List.length_set, List.length_map]; omega) | ((repeat' with_reducible apply And.intro) <;> first | omega | assumption | rfl | (simp only [List.length_set, List.length_map]; omega) | (apply Or.inl; rfl) | (apply Or.inr; first | rfl | trivial | fail) | fail) | fail)) only [go_sem, if_pos, if_neg, wrapI, wrapU, decide_eq_true, decide_eq_false, beqT, beqF, bneT, bneF] <;> rfl); simp only [go_sem]) | ((with_reducible apply ops_pureD); kernel_rfl; rfl; (simp (disch := (first | omega | assumption | (simp only [List.length_set, List.length_map]; omega) | ((repeat' with_reducible apply And.intro) <;> first | omega | assumption | rfl | (simp only [List.length_set, List.length_map]; omega) | (apply Or.inl; rfl) | (apply Or.inr; first | rfl | trivial | fail) | fail) | fail)) only [go_sem, if_pos, if_neg, wrapI, wrapU, decide_eq_true, decide_eq_false, beqT, beqF, bneT, bneF] <;> rfl); simp only [go_sem]) | ((with_reducible apply ops_skip); rfl; simp only [go_sem]) | ((with_reducible apply c_regionD); kernel_rfl) | ((with_reducible apply ops_eff); decide; rfl; (simp (disch := (first | omega | assumption | (simp only [List.length_set, List.length_map]; omega) | ((repeat' with_reducible apply And.intro) <;> first | omega | assumption | rfl | (simp only [List.length_set, List.length_map]; omega) | (apply Or.inl; rfl) | (apply Or.inr; first | rfl | trivial | fail) | fail) | fail)) only [go_sem, if_pos, if_neg, wrapI, wrapU, decide_eq_true, decide_eq_false, beqT, beqF, bneT, bneF] <;> rfl); simp only [go_sem]))); exact k.get)) : p := h k
theorem lssv {p : Prop} (h : p := by simp (disch := (first | omega | assumption | (simp only [List.length_set, List.length_map]; omega) | ((repeat' with_reducible apply And.intro) <;> first | omega | assumption | rfl | (simp only [List.length_set, List.length_map]; omega) | (apply Or.inl; rfl) | (apply Or.inr; first | rfl | trivial | fail) | fail) | fail)) only [go_sem, if_pos, if_neg, wrapI, wrapU, decide_eq_true, decide_eq_false, beqT, beqF, bneT, bneF] <;> rfl) : p := h
theorem lscall {T : Tab} {X : CallP} {n0 lo : Nat} {wt : List Tmp} {draw : Bool} {ops : Array Oper} {Q : St → Prop} {rest : List Oper} {o : Oper} {env : List D} {sto : Sto} {f : FuncId} {args : List D} (k : ∃ r, X f args sto (if draw then sto.length else lo) r sto ∧ EvOps T X n0 lo wt draw ops Q rest (St.put ⟨env, sto⟩ o.dst r)) (hg : guardD ops o env = some true := by rfl) (h : evCallee (opd env) sto o = some (f, args) := by simp (disch := (first | omega | assumption | (simp only [List.length_set, List.length_map]; omega) | ((repeat' with_reducible apply And.intro) <;> first | omega | assumption | rfl | (simp only [List.length_set, List.length_map]; omega) | (apply Or.inl; rfl) | (apply Or.inr; first | rfl | trivial | fail) | fail) | fail)) only [go_sem, if_pos, if_neg, wrapI, wrapU, decide_eq_true, decide_eq_false, beqT, beqF, bneT, bneF] <;> rfl) : EvOps T X n0 lo wt draw ops Q (o :: rest) ⟨env, sto⟩ := k.elim fun _ k => ops_call hg h k.1 k.2
theorem predN (k : Nat) : (((k + 1 : Nat) : Int) - 1).toNat = k := by omega
attribute [local go_sem] predN List.getElem_set_self List.set_set getS mapSet List.getElem_map List.length_set
set_option linter.unusedSimpArgs false
set_option linter.unusedVariables false
set_option maxRecDepth 100000
set_option maxHeartbeats 8000000
theorem isNaNU_ev (x : Nat) (sto : Sto) (lo : Nat) (hlo : lo ≤ sto.length) : CallEv Tryd.prog tab B0 94 [.v (VU x)] sto lo (.v (.bool false)) sto := by
  refine CallEv.intro ⟨_, _, [], Tryd.func94, rfl, by decide, ?_⟩; simp only [go_sem, Tryd.ntmps94]
  repeat' (first | (refine lsgo ⟨?_⟩) | (fail) | ((first | (refine bsp ?_ ?_) | (refine csp ?_ ?_)); all_goals (intro hb; (fail_if_success (cases hb; done)); (try simp only [decide_eq_true_eq, decide_eq_false_iff_not, beq_iff_eq, bne_iff_ne, ne_eq, beq_eq_false_iff_ne, bne_eq_false_iff_eq, Bool.not_eq_true', Bool.not_eq_false', Bool.and_eq_true, Bool.or_eq_true, Decidable.not_not] at hb); (try simp only [go_sem]))))
  refine ⟨by first | exact .inr rfl | exact .inl rfl, .inl ⟨[], _, (by dsimp only [Tryd.f94]; exact lssv), ?_, by simp⟩⟩
  simp
theorem lessU_ev (x y : Nat) (sto : Sto) (lo : Nat) (hlo : lo ≤ sto.length) : CallEv Tryd.prog tab B0 83 [.v (VU x), .v (VU y)] sto lo (.v (.bool (decide (x < y)))) sto := by
  refine CallEv.intro ⟨_, _, [], Tryd.func83, rfl, by decide, ?_⟩; simp only [go_sem, Tryd.ntmps83]
  repeat' (first | (refine lsgo ⟨?_⟩) | (((refine lscall ?_); (refine ⟨_, isNaNU_ev _ _ _ (by first | omega | (simp; done) | (simp; omega)), ?_⟩); (try simp only [go_sem]))) | ((first | (refine bsp ?_ ?_) | (refine csp ?_ ?_)); all_goals (intro hb; (fail_if_success (cases hb; done)); (try simp only [decide_eq_true_eq, decide_eq_false_iff_not, beq_iff_eq, bne_iff_ne, ne_eq, beq_eq_false_iff_ne, bne_eq_false_iff_eq, Bool.not_eq_true', Bool.not_eq_false', Bool.and_eq_true, Bool.or_eq_true, Decidable.not_not] at hb); (try simp only [go_sem]))))
  refine ⟨by first | exact .inr rfl | exact .inl rfl, .inl ⟨[], _, (by dsimp only [Tryd.f83]; exact lssv), ?_, by simp⟩⟩
  simp
theorem insertionU_ev (xs : List Nat) (es : Option (TypeId × Nat)) (id : Nat) (hx : xs.length < 1000000000) (hes : es = some (67, 1)) (sto : Sto) (lo : Nat) (hlo : lo ≤ sto.length) (hl : lo ≤ id) (hid : id < sto.length) (hsto : sto = sto.set id (.arr es true xs.length (xs.map VU))) : CallEv Tryd.prog tab B0 77 [.arr id xs.length, .v (VI 0), .v (VI xs.length)] sto lo (.v (.tup [])) (sto.set id (.arr es true xs.length ((sortN xs).map VU))) := by
  rw [hsto]
  simp only [List.set_set]
  subst hes
  refine CallEv.intro ⟨_, _, [], Tryd.func77, rfl, by decide, ?_⟩; simp only [go_sem, Tryd.ntmps77]
  repeat' (first | (refine lsgo ⟨?_⟩) | (fail) | ((first | (refine bsp ?_ ?_) | (refine csp ?_ ?_)); all_goals (intro hb; (fail_if_success (cases hb; done)); (try simp only [decide_eq_true_eq, decide_eq_false_iff_not, beq_iff_eq, bne_iff_ne, ne_eq, beq_eq_false_iff_ne, bne_eq_false_iff_eq, Bool.not_eq_true', Bool.not_eq_false', Bool.and_eq_true, Bool.or_eq_true, Decidable.not_not] at hb); (try simp only [go_sem]))))
  refine c_loop (fun m s => ∃ (i : Nat) (zs : List Nat), (i ≤ xs.length + 1 ∧ 1 ≤ i ∧ m = xs.length - i ∧ zs.length = xs.length ∧ zs.Perm xs ∧ (zs.take i).Pairwise (· ≤ ·)) ∧ (s.env.length = 49 ∧ s.sto = sto.set id (.arr (some (67, 1)) true xs.length (zs.map VU)) ∧ s.env[0]? = some (.arr id xs.length) ∧ s.env[1]? = some (.v (VI 0)) ∧ s.env[2]? = some (.v (VI xs.length)) ∧ s.env[6]? = some (.v (VI i)))) (.refl _) ⟨1, xs, ⟨by omega, by omega, rfl, rfl, .refl _, ?_⟩, rfl, rfl, ?_, ?_, ?_, ?_⟩ ?_
  all_goals first | rfl | skip
  · rcases xs with _ | ⟨a, _ | ⟨b, l⟩⟩ <;> simp
  rintro m s ⟨i, zs, ⟨h1, h1', rfl, hzl, hp, hs⟩, hL, hT, k0, k1, k2, k6⟩
  obtain ⟨env, st0⟩ := s; obtain ⟨J, hJ⟩ := listJ hL; rw [show (List.range 49).map J = J 0 :: J 1 :: J 2 :: J 3 :: J 4 :: J 5 :: J 6 :: J 7 :: J 8 :: J 9 :: J 10 :: J 11 :: J 12 :: J 13 :: J 14 :: J 15 :: J 16 :: J 17 :: J 18 :: J 19 :: J 20 :: J 21 :: J 22 :: J 23 :: J 24 :: J 25 :: J 26 :: J 27 :: J 28 :: J 29 :: J 30 :: J 31 :: J 32 :: J 33 :: J 34 :: J 35 :: J 36 :: J 37 :: J 38 :: J 39 :: J 40 :: J 41 :: J 42 :: J 43 :: J 44 :: J 45 :: J 46 :: J 47 :: J 48 :: [] from by kernel_rfl] at hJ; replace k0 := Option.some.inj ((congrArg (·[0]?) hJ).symm.trans k0); replace k1 := Option.some.inj ((congrArg (·[1]?) hJ).symm.trans k1); replace k2 := Option.some.inj ((congrArg (·[2]?) hJ).symm.trans k2); replace k6 := Option.some.inj ((congrArg (·[6]?) hJ).symm.trans k6); rw [k0, k1, k2, k6] at hJ; dsimp only at hJ hT; subst hJ; replace hT := hT.symm; subst hT; clear hL k0 k1 k2 k6
  by_cases hi : i < xs.length
  · repeat' (first | (refine lsgo ⟨?_⟩) | (fail) | ((first | (refine bsp ?_ ?_) | (refine csp ?_ ?_)); all_goals (intro hb; (fail_if_success (cases hb; done)); (try simp only [decide_eq_true_eq, decide_eq_false_iff_not, beq_iff_eq, bne_iff_ne, ne_eq, beq_eq_false_iff_ne, bne_eq_false_iff_eq, Bool.not_eq_true', Bool.not_eq_false', Bool.and_eq_true, Bool.or_eq_true, Decidable.not_not] at hb); (try simp only [go_sem]))))
    have hins := Ins.start hs hp (by omega : i < zs.length)
    obtain ⟨A0, hA0⟩ : ∃ A0, A0 = zs.take i := ⟨_, rfl⟩
    have hAl : A0.length = i := by rw [hA0, List.length_take]; omega
    rw [← hA0] at hins
    generalize zs[i] = x0 at hins
    clear hA0
    refine c_loop (fun m s => ∃ (zs2 : List Nat) (A : List Nat) (x : Nat) (B R : List Nat), (zs2.length = xs.length ∧ Ins xs zs2 i A x B R ∧ m = A.length) ∧ (s.env.length = 49 ∧ s.sto = sto.set id (.arr (some (67, 1)) true xs.length (zs2.map VU)) ∧ s.env[0]? = some (.arr id xs.length) ∧ s.env[1]? = some (.v (VI 0)) ∧ s.env[2]? = some (.v (VI xs.length)) ∧ s.env[6]? = some (.v (VI i)) ∧ s.env[7]? = some (.v (VI A.length)))) (.refl _) ⟨zs, A0, x0, _, _, ⟨hzl, hins, rfl⟩, ?_, ?_, ?_, ?_, ?_, ?_, ?_⟩ ?_
    all_goals first | rfl | (rw [hAl]; rfl) | skip
    rintro m s ⟨zs2, A, x, B, R, ⟨hzl2, hI, rfl⟩, hL, hT, k0, k1, k2, k6, k7⟩
    obtain ⟨env, st0⟩ := s; obtain ⟨J, hJ⟩ := listJ hL; rw [show (List.range 49).map J = J 0 :: J 1 :: J 2 :: J 3 :: J 4 :: J 5 :: J 6 :: J 7 :: J 8 :: J 9 :: J 10 :: J 11 :: J 12 :: J 13 :: J 14 :: J 15 :: J 16 :: J 17 :: J 18 :: J 19 :: J 20 :: J 21 :: J 22 :: J 23 :: J 24 :: J 25 :: J 26 :: J 27 :: J 28 :: J 29 :: J 30 :: J 31 :: J 32 :: J 33 :: J 34 :: J 35 :: J 36 :: J 37 :: J 38 :: J 39 :: J 40 :: J 41 :: J 42 :: J 43 :: J 44 :: J 45 :: J 46 :: J 47 :: J 48 :: [] from by kernel_rfl] at hJ; replace k0 := Option.some.inj ((congrArg (·[0]?) hJ).symm.trans k0); replace k1 := Option.some.inj ((congrArg (·[1]?) hJ).symm.trans k1); replace k2 := Option.some.inj ((congrArg (·[2]?) hJ).symm.trans k2); replace k6 := Option.some.inj ((congrArg (·[6]?) hJ).symm.trans k6); replace k7 := Option.some.inj ((congrArg (·[7]?) hJ).symm.trans k7); rw [k0, k1, k2, k6, k7] at hJ; dsimp only at hJ hT; subst hJ; replace hT := hT.symm; subst hT; clear hL k0 k1 k2 k6 k7
    have hlen := hI.len
    rcases List.eq_nil_or_concat A with rfl | ⟨A', y, rfl⟩
    · obtain ⟨d1, d2⟩ := hI.done (fun y h => by simp at h)
      simp only [List.length_nil]
      clear hI
      repeat' (first | (refine lsgo ⟨?_⟩) | (fail) | ((first | (refine bsp ?_ ?_) | (refine csp ?_ ?_)); all_goals (intro hb; (fail_if_success (cases hb; done)); (try simp only [decide_eq_true_eq, decide_eq_false_iff_not, beq_iff_eq, bne_iff_ne, ne_eq, beq_eq_false_iff_ne, bne_eq_false_iff_eq, Bool.not_eq_true', Bool.not_eq_false', Bool.and_eq_true, Bool.or_eq_true, Decidable.not_not] at hb); (try simp only [go_sem]))))
      refine ⟨_, _, ?_, .refl _, i + 1, zs2, ⟨by omega, by omega, rfl, hzl2, d2, d1⟩, rfl, rfl, ?_, ?_, ?_, ?_⟩
      · omega
      all_goals rfl
    · rw [List.concat_eq_append] at hI hlen ⊢
      have hzx : zs2[(A'.length + 1)]? = some x := by rw [hI.eq]; simp
      have hzy : zs2[A'.length]? = some y := by rw [hI.eq]; simp
      simp only [List.length_append, List.length_singleton] at hlen
      obtain ⟨k, hk⟩ : ∃ k, A'.length = k := ⟨_, rfl⟩
      rw [List.length_append, List.length_singleton]
      rw [hk] at hzx hzy hlen ⊢
      have hx' : zs2[k + 1]'(by omega) = x := by rw [List.getElem?_eq_getElem (by omega)] at hzx; exact Option.some.inj hzx
      have hy' : zs2[k]'(by omega) = y := by rw [List.getElem?_eq_getElem (by omega)] at hzy; exact Option.some.inj hzy
      have hd := hI.done
      have hst := hI.step
      clear hI hzx hzy
      have hQ := Lib.hid (And.intro hd hst)
      clear hd hst
      repeat' (first | (refine lsgo ⟨?_⟩) | (((refine lscall ?_); (refine ⟨_, lessU_ev _ _ _ _ (by first | omega | (simp; done) | (simp; omega)), ?_⟩); (try simp only [go_sem]))) | ((first | (refine bsp ?_ ?_) | (refine csp ?_ ?_)); all_goals (intro hb; (fail_if_success (cases hb; done)); (try simp only [decide_eq_true_eq, decide_eq_false_iff_not, beq_iff_eq, bne_iff_ne, ne_eq, beq_eq_false_iff_ne, bne_eq_false_iff_eq, Bool.not_eq_true', Bool.not_eq_false', Bool.and_eq_true, Bool.or_eq_true, Decidable.not_not] at hb); (try simp only [go_sem]))))
      · obtain ⟨hd, hst⟩ := hQ
        refine ⟨_, _, ?_, .refl _, _, A', x, y :: B, R, ⟨by simp only [List.length_set]; exact hzl2, ?_, rfl⟩, rfl, rfl, ?_, ?_, ?_, ?_, ?_⟩
        · omega
        · rw [hx', hy'] at hb
          have := hst hb
          rw [hk] at this
          simp only [hx', hy']
          exact this
        all_goals first | rfl | (rw [hk, show (((k + 1 : Nat) : Int) - 1) = (k : Int) from by omega]; rfl)
      · obtain ⟨hd, hst⟩ := hQ
        obtain ⟨d1, d2⟩ := hd (fun z h => by
          simp at h
          subst h
          rw [hx', hy'] at hb
          omega)
        refine ⟨_, _, ?_, .refl _, i + 1, zs2, ⟨by omega, by omega, rfl, hzl2, d2, d1⟩, rfl, rfl, ?_, ?_, ?_, ?_⟩
        · omega
        all_goals rfl
  · repeat' (first | (refine lsgo ⟨?_⟩) | (fail) | ((first | (refine bsp ?_ ?_) | (refine csp ?_ ?_)); all_goals (intro hb; (fail_if_success (cases hb; done)); (try simp only [decide_eq_true_eq, decide_eq_false_iff_not, beq_iff_eq, bne_iff_ne, ne_eq, beq_eq_false_iff_ne, bne_eq_false_iff_eq, Bool.not_eq_true', Bool.not_eq_false', Bool.and_eq_true, Bool.or_eq_true, Decidable.not_not] at hb); (try simp only [go_sem]))))
    refine ⟨by first | exact .inr rfl | exact .inl rfl, .inl ⟨[], _, (by dsimp only [Tryd.f77]; exact lssv), ?_, ?_⟩⟩
    · rfl
    · (rw [List.take_of_length_le (by simp)])
      rw [sortN_eq (ys := zs) (by rw [List.take_of_length_le (by omega)] at hs; exact hs) hp]
end Go.Proofs.YtgkhcjdpdgfdbaaDoor
namespace Go.Proofs.YtgkhcjdpdgfdbaaDoor
open Go Go.RowKit Go.Shelf
set_option linter.unusedSimpArgs false
set_option linter.unusedVariables false

/-- The assignment and the body of the first range over a function. -/
def rfParts : Code → Option (Code × Code)
  | .seq x y => (rfParts x).or (rfParts y)
  | .block _ c => rfParts c
  | .rangeFunc _ _ a b => some (a, b)
  | _ => none
def apAssign (f : Func) : Code := ((f.body.bind rfParts).getD (.skip, .skip)).1
def apBody (f : Func) : Code := ((f.body.bind rfParts).getD (.skip, .skip)).2
/-- The loop's record: AppendSeq's slots as they stood at the entering: 's' boxed in block Bs; sv: the iterator's value. -/
def apRec (f : Func) (fn : FuncId) (sv : Value) (Bs D : Nat) (st : LoopState) (pend : Option Code) : Loop :=
  { state := st, pending := pend, fn, tmps := #[.slice none 0 0, sv, .pointer (some ⟨Bs, 0, none⟩), undef, .slice none 0 0, undef, sv, undef, undef, undef, undef, undef, undef], params := #[7], assign := apAssign f, body := apBody f, defers := D }
section
variable {W W' : World}
theorem ownsRow_abides_a {row : Option Nat} {base : Nat} {e : TypeId} {size : Nat} {v : Value} {k : Nat} {xs : List Value} (h : W.ownsRow base e size v k xs) (hg : W.grownBy W' row)
    (hrow : ∀ r, row = some r → ∃ o : Obj, W.heap[r]? = some o ∧ o.isWalk = true) : W'.ownsRow base e size v k xs := by
  refine h.kept hg ?_
  rcases h.2 with ⟨rfl, _⟩ | ⟨g, cap, cur, rfl, _, hgb, _⟩
  · exact .inl rfl
  · refine .inr fun e' => ?_
    obtain ⟨o, ho, hw⟩ := hrow g (by simpa [Value.ownBlock] using e'.symm)
    rw [hgb] at ho; cases ho; cases hw
theorem grownBy_putObj_a (W : World) (l : Nat) (o : Obj) : W.grownBy (W.putObj l o) (some l) :=
  ⟨rfl, rfl, rfl, by simp, fun k _ hk => World.putObj_heap_other (fun e => hk (by rw [e]))⟩
theorem grownBy_setCell0_a (W : World) (b : Nat) (v : Value) : W.grownBy (W.setCell ⟨b, 0, none⟩ v) (some b) :=
  ⟨rfl, rfl, rfl, (KeepsWalks.setCell W _ v).size, fun k _ hk => Below.heap_setCell _ _ _ k (fun e => hk (by rw [e]))⟩
theorem ownsRow_ne_a {base : Nat} {e : TypeId} {size : Nat} {v : Value} {k : Nat} {xs : List Value} (h : W.ownsRow base e size v k xs) {j : Nat} {o : Obj} (hj : W.heap[j]? = some o) (hno : ∀ cur, o ≠ .cells cur e (0, 0)) :
    v.ownBlock = none ∨ v.ownBlock ≠ some j := by
  rcases h.2 with ⟨rfl, _⟩ | ⟨g, cap, cur, rfl, _, hgb, _⟩
  · exact .inl rfl
  · refine .inr fun e' => ?_
    have : g = j := by simpa [Value.ownBlock] using e'
    subst this; rw [hgb] at hj; cases hj; exact hno cur rfl
theorem cell_of_box_a {B : Nat} {v : Value} {t : TypeId} (h : W.heap[B]? = some (.cells #[v] t (0, 0))) : W.cell? ⟨B, 0, none⟩ = some v ∧ W.frozen? ⟨B, 0, none⟩ = false := by
  constructor <;> simp [World.cell?, World.frozen?, h]
theorem heap_setCell_box_a {B : Nat} {v : Value} {t : TypeId} (v' : Value) (h : W.heap[B]? = some (.cells #[v] t (0, 0))) : (W.setCell ⟨B, 0, none⟩ v').heap[B]? = some (.cells #[v'] t (0, 0)) := by
  obtain ⟨hlt, hk⟩ := Array.getElem?_eq_some_iff.1 h
  show (W.heap.modify B _)[B]? = _
  rw [Array.getElem?_eq_getElem (by rw [Array.size_modify]; exact hlt), Array.getElem_modify_self, hk]
  rfl
end

set_option maxRecDepth 100000 in
set_option maxHeartbeats 2000000 in
/-- slices.Values's closure. -/
theorem values1_in (F : Fence) (n : Nat) (h7 : F.fn 67) (hro : F.round = none) (hn : 1 ≤ n) (l Bs n₀ b off len cap : Nat) (us : List Value) (hus : us.length = len) (hreach : len * 8 ≤ 140737488351232) (hb : b < n₀) (w0 : World) (J : List Value → World → Prop) (hJB : ∀ pre W, J pre W → Below n₀ w0 W)
    (hY : ∀ pre x W, J pre W → pre.length < len → x ∈ us → YieldAt F (n - 1) Tryd.prog l #[x] W fun e W' => e = .returned (.bool true) ∧ J (pre ++ [x]) W')
    (W : World) (hBs : W.cell? ⟨Bs, 0, none⟩ = some (.slice (some ⟨b, off, none⟩) len cap)) (hc : ∀ j, j < len → w0.cell? ⟨b, off + j, none⟩ = some (us[j]?.getD undef)) (h0 : J [] W) :
    CallsIn F n Tryd.prog 67 #[.func (.yield l) #[] #[], .pointer (some ⟨Bs, 0, none⟩)] W fun e W' => (∃ v, e = .returned v) ∧ J us W' := by
  refine callsIn_of_wp Tryd.func67 rfl h7 ?_ hro
  simp only [Tryd.ntmps67, List.size_toArray, List.length_cons, List.length_nil, Nat.reduceAdd, Nat.reduceSub, Array.replicate_succ, Array.replicate_zero, List.push_toArray, List.append_toArray, List.nil_append, List.cons_append]
  gi_wp2
  gi_loopw [7] (fun i wr => ∃ k : Nat, k ≤ len ∧ i = .int .i64 k ∧ J (us.take k) wr)
    (fun i _ => len - (intOf i).toNat)
  case atStart => exact ⟨0, Nat.zero_le _, rfl, h0⟩
  case round =>
    obtain ⟨k, hk, rfl, hJs⟩ := hrel
    have hcx : k < len → wr.cell? ⟨b, off + k, none⟩ = some (us[k]?.getD undef) := fun h => ((hJB _ _ hJs).cell (p := ⟨b, off + k, none⟩) hb).trans (hc k h)
    by_cases hlt : k < len
    · have hcx' := hcx hlt
      rw [List.getElem?_eq_getElem (by omega), Option.getD_some] at hcx'
      have hYk := hY _ (us[k]'(by omega)) wr hJs (by rw [List.length_take]; omega) (List.getElem_mem _)
      clear hcx
      generalize hux : us[k]'(by omega) = ux at hcx' hYk
      obtain ⟨fn, tmps, assign, body, hy, hR⟩ := hYk
      gi_wp2
      refine hR.mono ?_
      rintro e W3 ⟨rfl, hJ3⟩
      gi_wp2
      go_roundw
      case rel =>
        refine ⟨k + 1, by omega, by simp, ?_⟩
        rw [List.take_succ_eq_append_getElem (by omega)]
        rw [hux]
        exact hJ3
      case measure => simp [intOf]; omega
    · obtain rfl : k = len := by omega
      gi_wp2
      go_end0
      refine ⟨⟨_, rfl⟩, ?_⟩
      rw [List.take_of_length_le (by omega)] at hJs
      exact hJs
set_option maxRecDepth 100000 in
set_option maxHeartbeats 1000000 in
/-- .. at the nil slice, and at an empty one. -/
theorem values1_nil_in (F : Fence) (n : Nat) (h7 : F.fn 67) (hro : F.round = none) (l Bs cap : Nat) (a : Option Addr) (J : List Value → World → Prop) (W : World) (hBs : W.cell? ⟨Bs, 0, none⟩ = some (.slice a 0 cap)) (h0 : J [] W) :
    CallsIn F n Tryd.prog 67 #[.func (.yield l) #[] #[], .pointer (some ⟨Bs, 0, none⟩)] W fun e W' => (∃ v, e = .returned v) ∧ J [] W' := by
  refine callsIn_of_wp Tryd.func67 rfl h7 ?_ hro
  simp only [Tryd.ntmps67, List.size_toArray, List.length_cons, List.length_nil, Nat.reduceAdd, Nat.reduceSub, Array.replicate_succ, Array.replicate_zero, List.push_toArray, List.append_toArray, List.nil_append, List.cons_append]
  gi_wp2
  gi_loopw [7] (fun i wr => i = .int .i64 0 ∧ J [] wr) (fun _ _ => 0)
  case atStart => exact ⟨rfl, h0⟩
  case round =>
    obtain ⟨rfl, hJs⟩ := hrel
    gi_wp2
    go_end0
    exact ⟨⟨_, rfl⟩, hJs⟩
/-- Between two rounds: the box holds a slice that owns what has come so far; nothing that lay before the call has turned. -/
structure ApAt (f : Func) (w0 : World) (fn : FuncId) (sv : Value) (Bs l D : Nat) (ss : List Value) (W : World) : Prop where
  box : ∃ v, W.heap[Bs]? = some (.cells #[v] 62 (0, 0)) ∧ W.ownsRow w0.heap.size 67 1 v ss.length ss ∧ (ss = [] → v = .slice none 0 0)
  L : W.heap[l]? = some (.loop (apRec f fn sv Bs D .ready none))
  K : W.heap[D]? = some (.deferred (some []))
  below : Below w0.heap.size w0 W
theorem info_e : (Tryd.prog.info? 67).map (fun i => (i.zero, i.size, i.bytes)) = some (some (.int .u64 0), 1, 8) := by kernel_rfl
set_option maxRecDepth 100000 in
set_option maxHeartbeats 2000000 in
theorem apYield (F : Fence) (m : Nat) (w0 : World) (fn : FuncId) (hfn : F.fn fn) (sv : Value) (Bs l D : Nat) (hBl : Bs ≠ l) (hDl : D ≠ l) (hDB : D ≠ Bs) (h0B : w0.heap.size ≤ Bs) (h0l : w0.heap.size ≤ l)
    (N : Nat) (hN : N ≤ maxLen) (hNb : N * 8 ≤ 140737488355328) (ss : List Value) (x : Value) (hx1 : x.oneCell' = true) (W : World) (h : ApAt Tryd.f73 w0 fn sv Bs l D ss W) (hlen : ss.length < N) :
    YieldAt F m Tryd.prog l #[x] W fun e W' => e = .returned (.bool true) ∧ ApAt Tryd.f73 w0 fn sv Bs l D (ss ++ [x]) W' := by
  have hne : (62 : Nat) ≠ 67 := by decide
  have hcl : x.cells = #[x] := by cases x <;> first | rfl | cases hx1
  simp only [Value.cells] at hcl
  obtain ⟨i0, hi, hz0, hz1, hz2⟩ := info_parts info_e
  obtain ⟨v, hv, hrow, _⟩ := h.box
  obtain ⟨R, hR⟩ : ∃ R : Ending → World → Prop, R = fun e W' => e = .returned (.bool true) ∧ ApAt Tryd.f73 w0 fn sv Bs l D (ss ++ [x]) W' := ⟨_, rfl⟩
  rw [← hR]
  refine ⟨fn, #[.slice none 0 0, sv, .pointer (some ⟨Bs, 0, none⟩), undef, .slice none 0 0, undef, sv, x, undef, undef, undef, undef, undef], apAssign Tryd.f73, apBody Tryd.f73, by simpa [apRec] using run_yield (P := Tryd.prog) (args := #[x]) h.L rfl, roundIn_of_wpIn hfn ?_⟩
  have hl : l < W.heap.size := (Array.getElem?_eq_some_iff.1 h.L).1
  have hbr := run_beginRound (P := Tryd.prog) h.L rfl
  obtain ⟨W2, hW2⟩ : ∃ W2, W.putObj l (.loop { apRec Tryd.f73 fn sv Bs D .ready none with state := .busy }) = W2 := ⟨_, rfl⟩
  rw [hW2] at hbr
  have hg2 : W.grownBy W2 (some l) := by rw [← hW2]; exact grownBy_putObj_a _ _ _
  have hv2 : W2.heap[Bs]? = some (.cells #[v] 62 (0, 0)) := by rw [← hW2]; exact (World.putObj_heap_other hBl).trans hv
  have hK2 : W2.heap[D]? = some (.deferred (some [])) := by rw [← hW2]; exact (World.putObj_heap_other hDl).trans h.K
  have hL2 : W2.heap[l]? = some (.loop { apRec Tryd.f73 fn sv Bs D .ready none with state := .busy }) := by rw [← hW2]; exact World.putObj_heap_same hl
  have hrow2 : W2.ownsRow w0.heap.size 67 1 v ss.length ss := hrow.kept hg2 (ownsRow_ne_a hrow h.L (fun cur e => by first | cases e | exact hne (Obj.cells.inj e).2.1))
  have hb2 : Below w0.heap.size w0 W2 := h.below.grown hg2 h.below.size (fun k e => by cases e; exact h0l)
  obtain ⟨hc2, hf2⟩ := cell_of_box_a hv2
  have hBlt : Bs < W2.heap.size := (Array.getElem?_eq_some_iff.1 hv2).1
  have hl2 : l < W2.heap.size := (Array.getElem?_eq_some_iff.1 hL2).1
  have hDlt : D < W2.heap.size := (Array.getElem?_eq_some_iff.1 hK2).1
  have ne_of : ∀ {j : Nat} {o : Obj}, W2.heap[j]? = some o → (∀ cur, o ≠ .cells cur 67 (0, 0)) → some j ≠ v.ownBlock := fun hj hno => by
    rcases ownsRow_ne_a hrow2 hj hno with e | e
    · rw [e]; simp
    · exact fun e' => e e'.symm
  clear hW2
  simp only [apAssign, apBody, Tryd.f73, rfParts, Option.bind_some, Option.getD_some, Option.or]
  gi_wp2_with (first
    | (gi_at_builtin; go_loud (refine wpListIn_append_own _ rfl _ _ 62 rfl w0.heap.size 67 i0 (.int .u64 0) 1 8 Tryd.underlying62 hi hz0 hz1 hz2 rfl (by decide) _ _ _ rfl (hrow2.alloc _) ⟨W2.heap.size, 0, none⟩ 1 1 [x] rfl rfl (cell_one_new _ _ _) (by simp [hx1]) (by omega) (by omega) (by have := hb2.size; simp; omega) ?_); intro v' w3 hown' hg3 hnil3
       have hv3 : w3.heap[Bs]? = some (.cells #[v] 62 (0, 0)) := (hg3.block Bs (by simp; omega) (ne_of hv2 (fun cur e => by first | cases e | exact hne (Obj.cells.inj e).2.1))).trans ((Below.heap_alloc _ _ Bs hBlt).trans hv2)
       obtain ⟨hc3, hf3⟩ := cell_of_box_a hv3
       obtain ⟨g', cap', cur', rfl, hbase', hgb', hr1, hr2, hr3, hr4⟩ : ∃ g' cap' cur', v' = .slice (some ⟨g', 0, none⟩) (ss.length + 1) cap' ∧ w0.heap.size ≤ g' ∧ w3.heap[g']? = some (.cells cur' 67 (0, 0)) ∧ ss.length + 1 ≤ cap' ∧ cap' ≤ maxLen ∧ cur'.size = cap' * 1 ∧ cur'.toList.take ((ss.length + 1) * 1) = ss ++ [x] := by
         rcases hown'.2 with ⟨_, h0⟩ | h'
         · exact absurd h0 (by omega)
         · exact h'
       go_frame)
    | (rw [Oper.semAt_eq _ _ _ (fun c h => by cases h)]; go_simp; try go_bits))
  have hg3' : (W2.alloc (.cells #[x] 67)).grownBy w3 v.ownBlock := hg3
  have hL3 : w3.heap[l]? = some (.loop { apRec Tryd.f73 fn sv Bs D .ready none with state := .busy }) := (hg3'.block l (by simp; omega) (ne_of hL2 (fun cur e => by first | cases e | exact hne (Obj.cells.inj e).2.1))).trans ((Below.heap_alloc _ _ l hl2).trans hL2)
  have hK3 : w3.heap[D]? = some (.deferred (some [])) := (hg3'.block D (by simp; omega) (ne_of hK2 (fun cur e => by first | cases e | exact hne (Obj.cells.inj e).2.1))).trans ((Below.heap_alloc _ _ D hDlt).trans hK2)
  obtain ⟨w4, hw4⟩ : ∃ w4, w3.setCell ⟨Bs, 0, none⟩ (.slice (some ⟨g', 0, none⟩) (ss.length + 1) cap') = w4 := ⟨_, rfl⟩
  rw [hw4]
  have hg4 : w3.grownBy w4 (some Bs) := by rw [← hw4]; exact grownBy_setCell0_a _ _ _
  have hv4 : w4.heap[Bs]? = some (.cells #[.slice (some ⟨g', 0, none⟩) (ss.length + 1) cap'] 62 (0, 0)) := by rw [← hw4]; exact heap_setCell_box_a _ hv3
  have hL4 : w4.heap[l]? = some (.loop { apRec Tryd.f73 fn sv Bs D .ready none with state := .busy }) := (hg4.block l (Array.getElem?_eq_some_iff.1 hL3).1 (fun e => hBl (by cases e; rfl))).trans hL3
  have hK4 : w4.heap[D]? = some (.deferred (some [])) := (hg4.block D (Array.getElem?_eq_some_iff.1 hK3).1 (fun e => hDB (by cases e; rfl))).trans hK3
  have hrow4 := hown'.kept hg4 (ownsRow_ne_a hown' hv3 (fun cur e => by first | cases e | exact hne (Obj.cells.inj e).2.1))
  have hl4 : l < w4.heap.size := (Array.getElem?_eq_some_iff.1 hL4).1
  have hb3 : Below w0.heap.size w0 w3 := (hb2.alloc hb2.size _).grown hg3' (by have := hb2.size; simp; omega) (fun k e => (hrow2.lt k e).1)
  have hb4 : Below w0.heap.size w0 w4 := hb3.grown hg4 hb3.size (fun k e => by cases e; exact h0B)
  clear hw4
  refine ⟨_, _, run_endRound none hL4, rfl, ⟨⟨_, (World.putObj_heap_other hBl).trans hv4, ?_, fun h => by simp at h⟩, World.putObj_heap_same hl4, (World.putObj_heap_other hDl).trans hK4, hb4.grown (grownBy_putObj_a _ _ _) hb4.size (fun k e => by cases e; exact h0l)⟩⟩
  have := hrow4.kept (grownBy_putObj_a w4 l (.loop { { apRec Tryd.f73 fn sv Bs D .ready none with state := .busy } with state := if (none : Option Code).isNone then .ready else .done, pending := none })) (ownsRow_ne_a hrow4 hL4 (fun cur e => by first | cases e | exact hne (Obj.cells.inj e).2.1))
  simpa using this
set_option maxRecDepth 100000 in
set_option maxHeartbeats 2000000 in
/-- slices.AppendSeq(nil, slices.Values(s)): a slice that owns what s has. -/
theorem appendSeq_in (F : Fence) (n : Nat) (h11 : F.fn 73) (hFg : F.fn 67) (hro : F.round = none) (hn : 2 ≤ n) (Bv len cap b off : Nat) (ad : Option Addr) (us : List Value) (w : World) (hus : us.length = len) (hone : ∀ u ∈ us, u.oneCell' = true) (hN : len ≤ 1000000000) (hBv : Bv < w.heap.size) (hv : w.cell? ⟨Bv, 0, none⟩ = some (.slice ad len cap))
    (had : len ≠ 0 → ad = some ⟨b, off, none⟩ ∧ b < w.heap.size ∧ ∀ j, j < len → w.cell? ⟨b, off + j, none⟩ = some (us[j]?.getD undef)) :
    CallsIn F n Tryd.prog 73 #[.slice none 0 0, .func (.func 67) #[] #[.pointer (some ⟨Bv, 0, none⟩)]] w fun e w' => ∃ v : Value, e = .returned v ∧ w'.ownsRow w.heap.size 67 1 v len us ∧ (len = 0 → v = .slice none 0 0) ∧ Below w.heap.size w w' := by
  have h1 : 1 ≤ n := by omega
  have hne : (62 : Nat) ≠ 67 := by decide
  have eg : ∀ args w, (callFunc 67 args).run Tryd.prog w = .ok (.enter 67 args) w := enters_of Tryd.func67 (by kernel_rfl) rfl
  obtain ⟨R, hR⟩ : ∃ R : Ending → World → Prop, R = fun e w' => ∃ v : Value, e = .returned v ∧ w'.ownsRow w.heap.size 67 1 v len us ∧ (len = 0 → v = .slice none 0 0) ∧ Below w.heap.size w w' := ⟨_, rfl⟩
  rw [← hR]
  refine callsIn_of_wp_marks Tryd.func73 rfl h11 ?_ hro
  simp only [Tryd.ntmps73, List.size_toArray, List.length_cons, List.length_nil, Nat.reduceAdd, Nat.reduceSub, Array.replicate_succ, Array.replicate_zero, List.push_toArray, List.append_toArray, List.nil_append, List.cons_append]
  gi_wp2
  refine wpIn_rangeFunc ?_
  intro fn hfn
  rw [hro]
  obtain ⟨sv, hsv⟩ : ∃ sv, sv = Value.func (.func 67) #[] #[.pointer (some ⟨Bv, 0, none⟩)] := ⟨_, rfl⟩
  obtain ⟨W0, hW0⟩ : ∃ W0, w.alloc (.cells #[.slice none 0 0] 62) = W0 := ⟨_, rfl⟩
  have hs0 : W0.heap.size = w.heap.size + 1 := by rw [← hW0]; simp
  have hv0 : W0.heap[w.heap.size]? = some (.cells #[.slice none 0 0] 62 (0, 0)) := by rw [← hW0]; exact World.alloc_heap_new w _
  have hb0 : Below w.heap.size w W0 := by rw [← hW0]; exact (Below.refl _ w).alloc (Nat.le_refl _) _
  rw [hW0]
  obtain ⟨W1, hW1⟩ : ∃ W1, (W0.alloc (.deferred (some []))).alloc (.loop (apRec Tryd.f73 fn sv w.heap.size W0.heap.size .ready none)) = W1 := ⟨_, rfl⟩
  have hold : ∀ k, k < W0.heap.size → W1.heap[k]? = W0.heap[k]? := fun k hk => by
    rw [← hW1]; exact (Below.heap_alloc _ _ k (by simp; omega)).trans (Below.heap_alloc _ _ k hk)
  have hb1 : Below w.heap.size w W1 := by rw [← hW1]; exact (hb0.alloc hb0.size _).alloc (by have := hb0.size; simp; omega) _
  have hs1 : W1.heap.size = W0.heap.size + 2 := by rw [← hW1]; simp
  have hM : ApAt Tryd.f73 w fn sv w.heap.size (W0.heap.size + 1) W0.heap.size [] W1 :=
    ⟨⟨_, (hold w.heap.size (by omega)).trans hv0, ⟨rfl, .inl ⟨rfl, rfl⟩⟩, fun _ => rfl⟩,
     by rw [← hW1]; have := World.alloc_heap_new (W0.alloc (.deferred (some []))) (.loop (apRec Tryd.f73 fn sv w.heap.size W0.heap.size .ready none)); rwa [World.size_alloc] at this,
     by rw [← hW1]; exact (Below.heap_alloc _ _ _ (by simp)).trans (World.alloc_heap_new W0 _), hb1⟩
  refine ⟨W0.heap.size + 1, [{ target := .collected W0.heap.size, args := #[] }], W1, { target := .fn (.func 67) #[.pointer (some ⟨Bv, 0, none⟩)], args := #[.func (.yield (W0.heap.size + 1)) #[] #[]] }, W1, 67,
    #[.func (.yield (W0.heap.size + 1)) #[] #[]] ++ #[.pointer (some ⟨Bv, 0, none⟩)], W1, ?_, ?_, ?_, ?_, fun _ => h1, ?_⟩
  · rw [← hW1, hsv]; exact run_enterLoop_outer _ _ _ _ _
  · simp [resolve, go_sem]
  · intro f' hf'; simp [Target.leads] at hf'; subst hf'; exact hFg
  · simp [invoke, go_sem, eg]
  · have hcall : CallsIn F (n - 1) Tryd.prog 67 #[.func (.yield (W0.heap.size + 1)) #[] #[], .pointer (some ⟨Bv, 0, none⟩)] W1 fun e W' => (∃ v, e = .returned v) ∧ ApAt Tryd.f73 w fn sv w.heap.size (W0.heap.size + 1) W0.heap.size us W' := by
      have hBs : W1.cell? ⟨Bv, 0, none⟩ = some (.slice ad len cap) := (hb1.cell (p := ⟨Bv, 0, none⟩) hBv).trans hv
      by_cases hl0 : len = 0
      · subst hl0
        obtain rfl : us = [] := List.eq_nil_of_length_eq_zero hus
        exact values1_nil_in F (n - 1) hFg hro _ _ _ _ _ W1 hBs hM
      · obtain ⟨rfl, hbl, hc⟩ := had hl0
        exact values1_in F (n - 1) hFg hro (by omega) _ _ w.heap.size b off len cap us hus (by omega) hbl w _ (fun pre W h => h.below)
          (fun pre x W hJ hl hx => apYield F (n - 1 - 1) w fn hfn _ w.heap.size (W0.heap.size + 1) W0.heap.size (by omega) (by omega) (by omega) (Nat.le_refl _) (by omega) len (by unfold maxLen; omega) (by omega) pre x (hone x hx) W hJ hl) W1 hBs hc hM
    refine hcall.mono ?_
    rintro e W2 ⟨⟨v0, rfl⟩, h2⟩
    obtain ⟨v, hv, hrow, hnil⟩ := h2.box
    have hend := run_endLoop (P := Tryd.prog) h2.L (by simp [apRec])
    obtain ⟨W3, hW3⟩ : ∃ W3, W2.putObj (W0.heap.size + 1) (.loop { apRec Tryd.f73 fn sv w.heap.size W0.heap.size .ready none with state := .exhausted }) = W3 := ⟨_, rfl⟩
    rw [hW3] at hend
    have hg3 : W2.grownBy W3 (some (W0.heap.size + 1)) := by rw [← hW3]; exact grownBy_putObj_a _ _ _
    have hv3 : W3.heap[w.heap.size]? = some (.cells #[v] 62 (0, 0)) := by rw [← hW3]; exact (World.putObj_heap_other (by omega)).trans hv
    have hK3 : W3.heap[W0.heap.size]? = some (.deferred (some [])) := by rw [← hW3]; exact (World.putObj_heap_other (by omega)).trans h2.K
    have hrow3 := hrow.kept hg3 (ownsRow_ne_a hrow h2.L (fun cur e => by first | cases e | exact hne (Obj.cells.inj e).2.1))
    have hb3 : Below w.heap.size w W3 := h2.below.grown hg3 h2.below.size (fun k e => by cases e; omega)
    obtain ⟨hc3, hf3⟩ := cell_of_box_a hv3
    clear hW3
    refine ⟨none, W3, hend, ?_⟩
    gi_wp2
    rw [← hs0]
    refine ⟨by simp, .inl ⟨_, _, rfl, run_takeDeferred hK3, ?_⟩⟩
    rw [hus] at hrow3
    exact ⟨_, results_tmp rfl _ _ _, by rw [hR]; exact ⟨v, rfl, hrow3.kept (grownBy_putObj_a _ _ _) (ownsRow_ne_a hrow3 hK3 (fun cur e => by first | cases e | exact hne (Obj.cells.inj e).2.1)), fun h => hnil (List.eq_nil_of_length_eq_zero (by omega)), hb3.grown (grownBy_putObj_a _ _ _) hb3.size (fun k e => by cases e; omega)⟩⟩
set_option maxRecDepth 100000 in
set_option maxHeartbeats 1000000 in
/-- slices.Collect(slices.Values(s)). -/
theorem collect_in (F : Fence) (n : Nat) (h8 : F.fn 65) (h11 : F.fn 73) (hFg : F.fn 67) (hro : F.round = none) (hn : 3 ≤ n) (Bv len cap b off : Nat) (ad : Option Addr) (us : List Value) (w : World) (hus : us.length = len) (hone : ∀ u ∈ us, u.oneCell' = true) (hN : len ≤ 1000000000) (hBv : Bv < w.heap.size) (hv : w.cell? ⟨Bv, 0, none⟩ = some (.slice ad len cap))
    (had : len ≠ 0 → ad = some ⟨b, off, none⟩ ∧ b < w.heap.size ∧ ∀ j, j < len → w.cell? ⟨b, off + j, none⟩ = some (us[j]?.getD undef)) :
    CallsIn F n Tryd.prog 65 #[.func (.func 67) #[] #[.pointer (some ⟨Bv, 0, none⟩)]] w fun e w' => ∃ v : Value, e = .returned v ∧ w'.ownsRow w.heap.size 67 1 v len us ∧ (len = 0 → v = .slice none 0 0) ∧ Below w.heap.size w w' := by
  have h1 : 1 ≤ n := by omega
  have cA := appendSeq_in F (n - 1) h11 hFg hro (by omega) Bv len cap b off ad us w hus hone hN hBv hv had
  refine callsIn_of_wp Tryd.func65 rfl h8 ?_ hro
  simp only [Tryd.ntmps65, List.size_toArray, List.length_cons, List.length_nil, Nat.reduceAdd, Nat.reduceSub, Array.replicate_succ, Array.replicate_zero, List.push_toArray, List.append_toArray, List.nil_append, List.cons_append]
  gi_wp2_with (gi_at_call 73; refine cA.mono ?_; rintro e w' ⟨v, rfl, hrow, hnil, hb⟩)
  go_ret
  exact ⟨v, rfl, hrow, hnil, hb⟩
/-- A slice of the call's own, wherever it lies. -/
theorem arr_new {S : Stay} {gh : List Value} {sto : Sto} {w w' : World} {lo g s n cap : Nat} {cur : Array Value} {e : TypeId} {cs : List V} (hlo : lo ≤ sto.length) (hs : SR S gh w sto) (hb : Below w.heap.size w w') (hg0 : w.heap.size ≤ g) (hg : w'.heap[g]? = some (.cells cur e (0, 0))) (hn : n ≤ cap) (hc : cap ≤ maxLen) (hsz : cur.size = cap * s) (hl : cs.length = n * s)
    (hr : ∀ (j : Nat) (u : Value) (c : V), cur.toList[j]? = some u → cs[j]? = some c → u.oneCell' = true ∧ RepV S w u c) : ∃ gh', RepD S gh' (sto ++ [.arr (some (e, s)) true n cs]) w' (.slice (some ⟨g, 0, none⟩) n cap) (.arr sto.length n) ∧ SR S gh' w' (sto ++ [.arr (some (e, s)) true n cs]) ∧ Fr sto.length lo S gh w sto S gh' w' (sto ++ [.arr (some (e, s)) true n cs]) := by
  have hnew : ∀ b, blk (.slice (some ⟨g, 0, none⟩) n cap) = some b → w.heap.size ≤ b := by
    intro b hb
    simp only [blk, Option.some.injEq] at hb
    omega
  have hf : Fr sto.length lo S gh w sto S (gh ++ [.slice (some ⟨g, 0, none⟩) n cap]) w' (sto ++ [.arr (some (e, s)) true n cs]) := push_fr hs hlo hb (fun _ _ h => h) hnew
  refine ⟨_, ⟨by simp, ⟨_, _, rfl⟩, fun es' wr' m cs' h => ?_⟩, push_sr hs hf hb (fun b o h => .inl h) hnew ⟨g, cap, cur, rfl, hg, hn, hc, hsz, hl, fun j u c hu hcj => ⟨(hr j u c hu hcj).1, RepV.mono hf.stable (hr j u c hu hcj).2⟩, ?_⟩, hf⟩
  · simp only [List.getElem?_append_right (Nat.le_refl _), Nat.sub_self, List.getElem?_cons_zero, Option.some.injEq, Ent.arr.injEq] at h
    obtain ⟨_, _, rfl, _⟩ := h
    refine ⟨Nat.le_refl _, fun _ => ?_⟩
    rw [← hs.len]
    simp
  · simp only [if_true]
    intro o ho
    have := hs.stay _ _ ho; omega
theorem arr_new0 {S : Stay} {gh : List Value} {sto : Sto} {w w' : World} {lo : Nat} (hlo : lo ≤ sto.length) (hs : SR S gh w sto) (hb : Below w.heap.size w w') : ∃ gh', RepD S gh' (sto ++ [.arr none true 0 []]) w' (.slice none 0 0) (.arr sto.length 0) ∧ SR S gh' w' (sto ++ [.arr none true 0 []]) ∧ Fr sto.length lo S gh w sto S gh' w' (sto ++ [.arr none true 0 []]) := by
  have hnew : ∀ b, blk (.slice none 0 0) = some b → w.heap.size ≤ b := by
    intro b hb
    simp [blk] at hb
  have hf : Fr sto.length lo S gh w sto S (gh ++ [.slice none 0 0]) w' (sto ++ [.arr none true 0 []]) := push_fr hs hlo hb (fun _ _ h => h) hnew
  refine ⟨_, ⟨by simp, ⟨_, _, rfl⟩, fun es' wr' m cs' h => ?_⟩, push_sr hs hf hb (fun b o h => .inl h) hnew ⟨rfl, rfl, rfl⟩, hf⟩
  simp only [List.getElem?_append_right (Nat.le_refl _), Nat.sub_self, List.getElem?_cons_zero, Option.some.injEq, Ent.arr.injEq] at h
  obtain ⟨_, _, rfl, _⟩ := h
  refine ⟨Nat.le_refl _, fun _ => ?_⟩
  rw [← hs.len]
  simp
/-- What is shown of slices.Collect(slices.Values(s)). -/
def collB : CallP := fun f args sto _ r sto' => f = 65 ∧ ∃ (id n : Nat) (cs : List V), args = [.clo 67 [id]] ∧ sto[id]? = some (.cells [.v (.sl n cs)]) ∧ cs.length = n ∧ n ≤ 1000000000 ∧ r = .arr sto.length n ∧ sto' = sto ++ [.arr (if n = 0 then none else some (67, 1)) true n cs]
theorem collB_ok : ∀ f args sto lo r sto', collB f args sto lo r sto' → CallOK Tryd.prog f args sto lo r sto' := by
  rintro f args sto lo r sto' ⟨rfl, id, n, cs, rfl, hid, hcs, hn, rfl, rfl⟩
  refine ⟨by kernel_rfl, fun S gh w vals hlo hs hgl hv => ?_⟩
  obtain ⟨v0, rfl⟩ : ∃ v0, vals = [v0] := by
    have := hv.1
    match vals, this with
    | [v], _ => exact ⟨v, rfl⟩
  obtain ⟨vs, rfl, hvl, hvc⟩ : RepC S gh sto w v0 (.clo 67 [id]) := hv.2 0 v0 _ rfl rfl
  obtain ⟨_, g, hg, hv0⟩ := hvc 0 id rfl
  obtain rfl : vs = [.pointer (some ⟨g, 0, none⟩)] := by
    match vs, hvl with
    | [v], _ => simp only [List.getElem?_cons_zero, Option.some.injEq] at hv0; rw [hv0]
  obtain ⟨gv, hgv, hE⟩ := hs.ent id _ hid
  rw [hg] at hgv
  cases hgv
  obtain ⟨g', cur, ty, h0, hh, h1, h2, h3⟩ := hE
  cases h0
  obtain ⟨u, hu⟩ : ∃ u, cur.toList[0]? = some u := ⟨_, List.getElem?_eq_getElem (by rw [h1]; simp)⟩
  have hr : RepV S w u (.sl n cs) := (h3 0 u _ hu rfl).2
  obtain ⟨ad, cap, rfl, q1, q2, q3, q4⟩ := RepV.sl_inv hr
  have hcell : w.cell? ⟨g, 0, none⟩ = some (.slice ad n cap) := by rw [cell_heap hh]; exact hu
  have hgl : g < w.heap.size := (Array.getElem?_eq_some_iff.1 hh).1
  by_cases hn0 : n = 0
  · subst hn0
    obtain rfl : cs = [] := List.eq_nil_of_length_eq_zero hcs
    refine ((callsIn_wide (n := 6)).1 (collect_in Fence.wide 6 trivial trivial trivial rfl (by omega) g 0 cap 0 0 ad [] w rfl (by simp) hn hgl hcell (fun h => absurd rfl h))).mono ?_
    rintro e w' ⟨v, rfl, hrow, hnil, hb⟩
    obtain rfl := hnil rfl
    obtain ⟨gh', a1, a2, a3⟩ := arr_new0 hlo hs hb
    exact ⟨_, S, gh', rfl, a1, a2, a3, by simp⟩
  · have hne : cs ≠ [] := by intro e; rw [e] at hcs; exact hn0 hcs.symm
    obtain ⟨b, off, us, rfl, h5, h6⟩ := q4 hne
    have hget : ∀ j, j < n → ((List.range n).map us)[j]? = some (us j) := fun j hj => by
      rw [List.getElem?_map, List.getElem?_range hj]; rfl
    refine ((callsIn_wide (n := 6)).1 (collect_in Fence.wide 6 trivial trivial trivial rfl (by omega) g n cap b off _ ((List.range n).map us) w (by simp) (fun u hu => ?_) hn hgl hcell (fun _ => ⟨rfl, hs.stay b (off + 0) (h5 0 (by omega)).1, fun j hj => by rw [hget j hj]; exact (h5 j (by omega)).2.2⟩))).mono ?_
    · obtain ⟨j, hj, rfl⟩ := List.mem_map.1 hu
      exact (h5 j (by rw [hcs]; simpa using hj)).2.1
    · rintro e w' ⟨v, rfl, hrow, _, hb⟩
      rcases hrow.2 with ⟨_, h0⟩ | ⟨gb, cp, cr, rfl, hbase, hgb, r1, r2, r3, r4⟩
      · exact absurd h0 hn0
      · obtain ⟨gh', a1, a2, a3⟩ := arr_new (e := 67) (s := 1) (cs := cs) hlo hs hb hbase hgb r1 r2 r3 (by omega) (fun j u c hu hc => by
          have hj := (List.getElem?_eq_some_iff.1 hc).1
          have : u = us j := by
            have e1 : (cr.toList.take (n * 1))[j]? = some u := by rw [List.getElem?_take_of_lt (by omega)]; exact hu
            rw [r4, hget j (by omega)] at e1
            exact (Option.some.inj e1).symm
          subst this
          exact ⟨(h5 j hj).2.1, h6 j c hc⟩)
        rw [if_neg hn0]
        exact ⟨_, S, gh', rfl, a1, a2, a3, by simp⟩
end Go.Proofs.YtgkhcjdpdgfdbaaDoor
