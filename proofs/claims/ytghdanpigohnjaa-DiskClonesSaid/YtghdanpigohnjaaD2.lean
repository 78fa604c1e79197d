/-
  What a slice holds now, wherever it lies; what is nil; strings and bytes. No condition of its own. The evaluator's operations that leave the entries alone: each is the model's, in whatever world its operands read. No condition of its own. What a step does to the entries: a new one; one whose content or place changes. No condition of its own. The evaluator's operations that make or write entries, shown of the model's. No condition of its own. The evaluator's operations that make or write entries, shown of the model's: stores, composite slices, make; all of them. No condition of its own. The evaluator's operations on maps over numbers, and clear on a slice of the call's own, shown of the model's. No condition of its own. append(x, make(.., k)...): the builtin meets the number. No condition of its own. copy; a string's bytes in a new box. No condition of its own. The evaluator's operations that make or write entries: each is the model's. No condition of its own. One operation of the evaluator is one of the model's; regions in the order of the text. No condition of its own. Regions that draw their order: whatever order the tape picks, they come to what the order of the text comes to. No condition of its own. Regions that draw their order: the walk of all orders. No condition of its own. Regions that draw their order and make boxes: the boxes' entries are laid by first, so that no order moves another. No condition of its own.
-/
import Derived.Test.YtghdanpigohnjaaD1
import Derived.Laws.BytesArg
import Derived.Great.BuildSlice
import Derived.Deep.AppendLies
import Derived.Lib.AppendZerosOnto
import Derived.Lib.ConvBytes
namespace Go.Proofs.Ytghdanpigohnjaa
open Go Go.RowKit

section
variable {P : Program} {T : Tab} {S : Stay} {gh : List Value} {sto : Sto} {w : World}
/-- A slice whose first cells read, in that world. -/
def SrcOK (S : Stay) (w : World) (v : Value) (m : Nat) (news : List V) : Prop :=
  ∃ a cap, v = .slice a m cap ∧ m ≤ cap ∧ cap ≤ maxLen ∧ (a = none → cap = 0) ∧ (news ≠ [] → ∃ (b off : Nat) (us : Nat → Value), a = some ⟨b, off, none⟩ ∧ (∀ j, j < news.length → (us j).oneCell' = true ∧ w.cell? ⟨b, off + j, none⟩ = some (us j)) ∧ ∀ (j : Nat) (c : V), news[j]? = some c → RepV S w (us j) c)
theorem SrcOK.of_sl {v : Value} {m : Nat} {cs : List V} (h : RepV S w v (.sl m cs)) : SrcOK S w v m cs := by
  obtain ⟨a, cap, h1, h2, h3, h4, h5⟩ := RepV.sl_inv h
  refine ⟨a, cap, h1, h2, h3, h4, fun hne => ?_⟩
  obtain ⟨b, off, us, k1, k2, k3⟩ := h5 hne
  exact ⟨b, off, us, k1, fun j hj => (k2 j hj).2, k3⟩
theorem viewL_len : ∀ {ds : List D} {xs : List V}, viewL sto ds = some xs → xs.length = ds.length
  | [], xs, h => by simp only [viewL, Option.some.injEq] at h; subst h; rfl
  | d :: ds, xs, h => by
    simp only [viewL] at h
    split at h
    · rename_i x ys h1 h2
      simp only [Option.some.injEq] at h
      subst h
      simp [viewL_len h2]
    · cases h
theorem srcV_rep (hs : SR S gh w sto) {s : Nat} {v : Value} {y : D} {x : V} (h : RepD S gh sto w v y) (he : srcV sto s y = some x) : (∃ m cs, x = .sl m cs ∧ SrcOK S w v m cs) ∨ RepV S w v x := by
  unfold srcV at he
  split at he
  · rename_i id n
    left
    split at he
    · rename_i es wr k cs hes
      split at he
      · rename_i hk
        subst hk
        simp only [Option.some.injEq] at he
        subst he
        refine ⟨_, _, rfl, ?_⟩
        obtain ⟨hid, ⟨a, c, rfl⟩, h3⟩ := h
        have hg := (h3 es wr _ cs hes).2 rfl
        obtain ⟨gv, hgv, hE⟩ := hs.ent id _ hes
        rw [hg] at hgv
        cases hgv
        cases es with
        | none =>
          obtain ⟨q1, q2, q3⟩ := hE
          cases q1
          subst q3
          exact ⟨none, 0, rfl, Nat.le_refl _, by unfold maxLen; omega, fun _ => rfl, fun h => absurd rfl h⟩
        | some es =>
          obtain ⟨e0, s0⟩ := es
          obtain ⟨g, cap, cur, q0, hh, q1, q2, q3, q4, q5, q6⟩ := hE
          cases q0
          refine ⟨_, c, rfl, q1, q2, (fun h => by cases h), fun _ => ⟨g, 0, fun j => (cur.toList[j]?).getD undef, rfl, fun j hj => ?_, fun j c hc => ?_⟩⟩
          · have hlt : j < cur.toList.length := by
              rw [Array.length_toList, q3]
              exact Nat.lt_of_lt_of_le (by rw [← q4]; exact hj) (Nat.mul_le_mul_right _ q1)
            have hu : cur.toList[j]? = some cur.toList[j] := List.getElem?_eq_getElem hlt
            have hc : cs[j]? = some cs[j] := List.getElem?_eq_getElem hj
            simp only [hu, Option.getD_some]
            exact ⟨(q5 j _ _ hu hc).1, by rw [Nat.zero_add, cell_heap hh, hu]⟩
          · have hj := (List.getElem?_eq_some_iff.1 hc).1
            have hlt : j < cur.toList.length := by
              rw [Array.length_toList, q3]
              exact Nat.lt_of_lt_of_le (by rw [← q4]; exact hj) (Nat.mul_le_mul_right _ q1)
            have hu : cur.toList[j]? = some cur.toList[j] := List.getElem?_eq_getElem hlt
            simp only [hu, Option.getD_some]
            exact (q5 j _ _ hu hc).2
      · cases he
    · cases he
  · rename_i id n o m
    left
    split at he
    · rename_i es wr k cs hes
      split at he
      · rename_i hk
        obtain ⟨rfl, hk2⟩ := hk
        simp only [Option.some.injEq] at he
        subst he
        refine ⟨_, _, rfl, ?_⟩
        obtain ⟨hid, _, h3⟩ := h
        obtain ⟨g0, o', c, hg, rfl, r1, r2, r3⟩ := (h3 es wr _ cs hes).2 rfl
        refine ⟨_, c, rfl, r1, r2, (fun h => by cases h), fun hne => ?_⟩
        have hm : 0 < m := by
          rcases Nat.eq_zero_or_pos m with h0 | h0
          · subst h0; simp at hne
          · exact h0
        obtain rfl := r3 hm
        obtain ⟨gv, hgv, hE⟩ := hs.ent id _ hes
        cases es with
        | none =>
          obtain ⟨rfl, q2, q3⟩ := hE
          subst q3
          simp at hne
        | some es =>
          obtain ⟨e0, s0⟩ := es
          obtain ⟨g, cap, cur, rfl, hh, q1, q2, q3, q4, q5, q6⟩ := hE
          have hgg : g = g0 := by
            unfold blkAt at hg
            rw [hgv] at hg
            simpa [blk] using hg
          subst hgg
          have hin : ∀ j, j < ((cs.drop o').take (m * s)).length → o' + j < cs.length := fun j hj => by
            simp only [List.length_take, List.length_drop] at hj
            omega
          have hget : ∀ j c, ((cs.drop o').take (m * s))[j]? = some c → cs[o' + j]? = some c := fun j c hc => by
            rw [List.getElem?_take, List.getElem?_drop] at hc
            split at hc
            · exact hc
            · cases hc
          have hcur : ∀ j, j < cs.length → cur.toList[j]? = some ((cur.toList[j]?).getD undef) := fun j hj => by
            have hlt : j < cur.toList.length := by
              rw [Array.length_toList, q3]
              exact Nat.lt_of_lt_of_le (by rw [← q4]; exact hj) (Nat.mul_le_mul_right _ q1)
            rw [List.getElem?_eq_getElem hlt]; rfl
          refine ⟨g, o', fun j => (cur.toList[o' + j]?).getD undef, rfl, fun j hj => ?_, fun j c hc => ?_⟩
          · have hj' := hin j hj
            have hu := hcur _ hj'
            have hc : cs[o' + j]? = some cs[o' + j] := List.getElem?_eq_getElem hj'
            exact ⟨(q5 _ _ _ hu hc).1, by rw [cell_heap hh]; exact hu⟩
          · have hc' := hget j c hc
            exact (q5 _ _ _ (hcur _ (List.getElem?_eq_some_iff.1 hc').1) hc').2
      · cases he
    · cases he
  · rename_i id o m
    left
    split at he
    · rename_i ds hes
      split at he
      · rename_i hk
        cases hv : viewL sto ((ds.drop o).take (m * s)) with
        | none => rw [hv] at he; cases he
        | some cs =>
          rw [hv] at he
          simp only [Option.map_some, Option.some.injEq] at he
          subst he
          refine ⟨_, _, rfl, ?_⟩
          obtain ⟨hid, g, c, hg, rfl, r1, r2⟩ := h
          obtain ⟨gv, hgv, hE⟩ := hs.ent id _ hes
          rw [hg] at hgv
          cases hgv
          obtain ⟨g', cur, ty, h0, hh, h1, h2, h3⟩ := hE
          cases h0
          have hl := viewL_len hv
          have hp : Pw (fun u d => u.oneCell' = true ∧ RepC S gh sto w u d) (cur.toList.take ds.length) ds := by
            refine ⟨by rw [List.length_take]; omega, fun j u d hu hd => ?_⟩
            have hj := (List.getElem?_eq_some_iff.1 hd).1
            rw [List.getElem?_take_of_lt hj] at hu
            exact h3 j u d hu hd
          have hp2 := (hp.drop o).take (m * s)
          obtain ⟨l1, l2⟩ := viewL_rep hs _ _ _ hp2.1 (fun j u d hu hd => (hp2.2 j u d hu hd).2) hv
          have hcell : ∀ j, j < cs.length → cur.toList[o + j]? = some ((cur.toList[o + j]?).getD undef) ∧ (((cur.toList.take ds.length).drop o).take (m * s))[j]? = some ((cur.toList[o + j]?).getD undef) := by
            intro j hj
            have hj' : j < (((cur.toList.take ds.length).drop o).take (m * s)).length := by rw [l1]; exact hj
            have e1 : (((cur.toList.take ds.length).drop o).take (m * s))[j]? = cur.toList[o + j]? := by
              simp only [List.length_take, List.length_drop] at hj'
              rw [List.getElem?_take_of_lt (by omega), List.getElem?_drop, List.getElem?_take_of_lt (by omega)]
            have e2 := List.getElem?_eq_getElem hj'
            rw [e1] at e2
            exact ⟨by rw [e2]; rfl, by rw [e1, e2]; rfl⟩
          refine ⟨_, c, rfl, r1, r2, (fun h => by cases h), fun hne => ⟨g, o, fun j => (cur.toList[o + j]?).getD undef, rfl, fun j hj => ?_, fun j c hc => ?_⟩⟩
          · obtain ⟨e1, e2⟩ := hcell j hj
            have hd : ((ds.drop o).take (m * s))[j]? = some (((ds.drop o).take (m * s))[j]'(by rw [← hl]; exact hj)) := List.getElem?_eq_getElem _
            exact ⟨(hp2.2 j _ _ e2 hd).1, by rw [cell_heap hh]; exact e1⟩
          · have hj := (List.getElem?_eq_some_iff.1 hc).1
            exact l2 j _ c (hcell j hj).2 hc
      · cases he
    · cases he
  · exact .inr (view_rep hs h he)
theorem srcV_sl (hs : SR S gh w sto) {s : Nat} {v : Value} {y : D} {m : Nat} {cs : List V} (h : RepD S gh sto w v y) (he : srcV sto s y = some (.sl m cs)) : SrcOK S w v m cs := by
  rcases srcV_rep hs h he with ⟨m', cs', h1, h2⟩ | h1
  · cases h1; exact h2
  · exact .of_sl h1
theorem strL_rep {w : World} : ∀ (cs : List V) (us : Nat → Value) (l : List UInt8), (∀ (j : Nat) (c : V), cs[j]? = some c → RepV S w (us j) c) → strL cs = some l → ∃ ns : List Int, ns.length = cs.length ∧ l = ns.map (fun n => UInt8.ofNat n.toNat) ∧ ∀ i, i < cs.length → us i = .int .u8 (ns.getD i 0)
  | [], us, l, _, h => by simp only [strL, Option.some.injEq] at h; subst h; exact ⟨[], rfl, rfl, fun i hi => by simp at hi⟩
  | c :: cs, us, l, hr, h => by
    unfold strL at h
    split at h
    · rename_i q; cases q
    · rename_i n r q
      cases q
      simp only [Option.map_eq_some_iff] at h
      obtain ⟨l', h1, rfl⟩ := h
      obtain ⟨ns, k1, k2, k3⟩ := strL_rep cs (fun j => us (j + 1)) l' (fun j c hc => hr (j + 1) c (by simpa using hc)) h1
      refine ⟨n :: ns, by simp [k1], by simp [k2], fun i hi => ?_⟩
      cases i with
      | zero => exact RepV.int_inv (hr 0 _ rfl)
      | succ i => simpa using k3 i (by simpa using hi)
    · cases h
variable (hT : T.OK P)
include hT
theorem kd_ptr {t e : TypeId} (h : kd T t = some (.ptr e)) : P.underlying t = some (.pointer e) := by
  unfold kd at h
  cases hi : T t with
  | none => rw [hi] at h; cases h
  | some i =>
    rw [hi] at h
    simp only [Option.some.injEq] at h
    obtain ⟨d, hu, hk⟩ := tab_kind hT hi
    rw [h] at hk
    cases d <;> simp only [kindOf] at hk <;> first | (cases hk; done) | skip
    simp only [Kd.ptr.injEq] at hk
    subst hk
    exact hu
theorem toStr_run (hs : SR S gh w sto) {src dst e : TypeId} {v : Value} {x : D} {m : Nat} {cs : List V} {s : ByteArray} (hsrc : P.underlying src = some (.slice e)) (hdst : P.underlying dst = some .string) (he : kd T e = some (.int .u8)) (h : RepD S gh sto w v x) (hv : srcV sto 1 x = some (.sl m cs)) (hl : cs.length = m) (hstr : strV cs = some s) : (convert src dst v).run P w = .ok (.string s) w := by
  have hu := kd_int hT he
  obtain ⟨a, cap, rfl, h1, h2, h3, h4⟩ := srcV_sl hs h hv
  unfold strV at hstr
  cases hq : strL cs with
  | none => rw [hq] at hstr; cases hstr
  | some l =>
    rw [hq] at hstr
    simp only [Option.map_some, Option.some.injEq] at hstr
    subst hstr
    by_cases hne : cs = []
    · subst hne
      simp only [strL, Option.some.injEq] at hq
      subst hq
      simp only [List.length_nil] at hl
      subst hl
      cases a with
      | none => rw [run_convert_bytes_nil (P := P) w src e hsrc hu _ _ dst hdst]; rfl
      | some a =>
        obtain ⟨b, off, el⟩ := a
        have : (loadCells ⟨b, off, el⟩ 0).run P w = .ok (([] : List Int).map (Value.int .u8)).toArray w := by
          have := run_loadCells_list (P := P) w ⟨b, off, el⟩ [] (fun j v hj => by simp at hj)
          simpa using this
        rw [run_convert_bytes_string w src dst e _ _ _ hsrc hu hdst, run_bytesToString w _ _ cap [] this]
        rfl
    · obtain ⟨b, off, us, rfl, k1, k2⟩ := h4 hne
      obtain ⟨ns, n1, rfl, n3⟩ := strL_rep cs us l k2 hq
      have := run_convert_bytes_arg (P := P) w src e hsrc hu b off m cap ns (by rw [n1, hl]) (fun i hi => by
        rw [(k1 i (by omega)).2, n3 i (by omega)]) dst hdst
      rw [this]
      rfl
theorem isNil_sound (hs : SR S gh w sto) {t : TypeId} {k : Kd} {op : BinOp} (hk : kd T t = some k) {vx vy : Value} {x y : D} {b : Bool} (hx : RepD S gh sto w vx x) (hy : RepD S gh sto w vy y) (hl : nilLit k y = true) (h : isNil sto k x = some b) (xo yo : Operand) :
    (Op.equal t vx vy).run P w = .ok b w ∧ (eqGuard op t xo yo vx vy).run P w = .ok () w ∧ (∀ q : BinOp, (q = .eql ∨ q = .neq) → binOp q t vx vy = (do let r ← Op.equal t vx vy; pure (.bool (match q with | .eql => r | _ => !r)))) := by
  have em : Op.equal t vx vy = Op.equalIn (9999 + 1) t vx vy := rfl
  have gd : ∀ a c : Value, (match a, c with | .nilIface, _ => false | .agg _, _ => false | _, _ => true) = true → (eqGuard op t xo yo a c).run P w = .ok () w := by
    intro a c h
    unfold eqGuard
    cases a <;> first | (cases h; done) | skip
    all_goals (split <;> simp)
  have slice : ∀ {e : TypeId} {a : Option Addr} {n c : Nat}, kd T t = some (.slice e) → (Op.equal t (.slice a n c) (.slice none 0 0)).run P w = .ok a.isNone w := by
    intro e a n c hk
    have hu := kd_slice hT hk
    show (Op.equalIn (9999 + 1) t _ _).run P w = _
    rw [Op.equalIn]
    cases a <;> simp only [Sem.run_bind, run_underlying hu, Result.andThen_ok, Sem.run_pure, Option.isNone]
  unfold isNil at h
  split at h
  · -- slice, nilS
    rename_i e
    have hx' : vx = .slice none 0 0 := hx
    have hy' : vy = .slice none 0 0 := by cases y <;> first | (cases hl; done) | exact hy
    subst hx'; subst hy'
    cases h
    exact ⟨slice hk, gd _ _ rfl, fun q hq => by rcases hq with rfl | rfl <;> simp [binOp]⟩
  · rename_i e id n
    have hy' : vy = .slice none 0 0 := by cases y <;> first | (cases hl; done) | exact hy
    subst hy'
    split at h
    · rename_i es wr k' cs hes
      split at h
      · rename_i hkk
        subst hkk
        simp only [Option.some.injEq] at h
        subst h
        obtain ⟨hid, ⟨a, c, rfl⟩, h3⟩ := hx
        have hg := (h3 es wr _ cs hes).2 rfl
        obtain ⟨gv, hgv, hE⟩ := hs.ent id _ hes
        rw [hg] at hgv
        cases hgv
        refine ⟨?_, gd _ _ rfl, fun q hq => by rcases hq with rfl | rfl <;> simp [binOp]⟩
        rw [slice hk]
        cases es with
        | none => obtain ⟨q1, _⟩ := hE; cases q1; rfl
        | some es => obtain ⟨e0, s0⟩ := es; obtain ⟨g, cap, cur, q0, _⟩ := hE; cases q0; rfl
      · cases h
    · cases h
  · rename_i e id n o m
    have hy' : vy = .slice none 0 0 := by cases y <;> first | (cases hl; done) | exact hy
    subst hy'
    split at h
    · rename_i es wr k' cs hes
      split at h
      · rename_i hkk
        subst hkk
        simp only [Option.some.injEq] at h
        subst h
        obtain ⟨hid, _, h3⟩ := hx
        obtain ⟨g0, o', c, hg, rfl, _⟩ := (h3 es wr _ cs hes).2 rfl
        exact ⟨slice hk, gd _ _ rfl, fun q hq => by rcases hq with rfl | rfl <;> simp [binOp]⟩
      · cases h
    · cases h
  · rename_i e id o m
    have hy' : vy = .slice none 0 0 := by cases y <;> first | (cases hl; done) | exact hy
    subst hy'
    simp only [Option.some.injEq] at h
    subst h
    obtain ⟨hid, g, c, hg, rfl, _⟩ := hx
    exact ⟨slice hk, gd _ _ rfl, fun q hq => by rcases hq with rfl | rfl <;> simp [binOp]⟩
  · rename_i e n cs
    have hy' : vy = .slice none 0 0 := by cases y <;> first | (cases hl; done) | exact hy
    subst hy'
    split at h
    · rename_i hn
      simp only [Option.some.injEq] at h
      subst h
      obtain ⟨a, cap, rfl, h1, h2, h3, h4⟩ := RepV.sl_inv hx
      refine ⟨?_, gd _ _ rfl, fun q hq => by rcases hq with rfl | rfl <;> simp [binOp]⟩
      rw [slice hk]
      cases a with
      | none => have := h3 rfl; omega
      | some a => rfl
    · cases h
  · rename_i k' e id
    have hy' : vy = .map none := by cases y <;> first | (cases hl; done) | exact hy
    subst hy'
    simp only [Option.some.injEq] at h
    subst h
    obtain ⟨hid, g, hg, rfl⟩ := hx
    have hu := kd_map hT hk
    refine ⟨?_, gd _ _ rfl, fun q hq => by rcases hq with rfl | rfl <;> simp [binOp]⟩
    rw [em, Op.equalIn]
    simp only [Sem.run_bind, run_underlying hu, Result.andThen_ok, Sem.run_pure]
  · rename_i k' e
    have hy' : vy = .map none := by cases y <;> first | (cases hl; done) | exact hy
    have hx' : vx = .map none := hx
    subst hy'; subst hx'
    simp only [Option.some.injEq] at h
    subst h
    have hu := kd_map hT hk
    refine ⟨?_, gd _ _ rfl, fun q hq => by rcases hq with rfl | rfl <;> simp [binOp]⟩
    rw [em, Op.equalIn]
    simp only [Sem.run_bind, run_underlying hu, Result.andThen_ok, Sem.run_pure, Option.isNone]
  all_goals first | (cases h; done) | skip
  · rename_i e id o
    have hy' : vy = .pointer none := by cases y <;> first | (cases hl; done) | exact hy
    subst hy'
    cases h
    obtain ⟨hid, g, hg, rfl⟩ := hx
    have hu := kd_ptr hT hk
    refine ⟨?_, gd _ _ rfl, fun q hq => by rcases hq with rfl | rfl <;> simp [binOp]⟩
    rw [em, Op.equalIn]
    simp only [Sem.run_bind, run_underlying hu, Result.andThen_ok, Sem.run_pure]
  · rename_i e
    have hy' : vy = .pointer none := by cases y <;> first | (cases hl; done) | exact hy
    have hx' : vx = .pointer none := hx
    subst hy'; subst hx'
    cases h
    have hu := kd_ptr hT hk
    refine ⟨?_, gd _ _ rfl, fun q hq => by rcases hq with rfl | rfl <;> simp [binOp]⟩
    rw [em, Op.equalIn]
    simp only [Sem.run_bind, run_underlying hu, Result.andThen_ok, Sem.run_pure, Option.isNone]
  · rename_i e id n o
    have hy' : vy = .pointer none := by cases y <;> first | (cases hl; done) | exact hy
    subst hy'
    cases h
    obtain ⟨hid, ⟨a, rfl⟩, _⟩ := hx
    have hu := kd_ptr hT hk
    refine ⟨?_, gd _ _ rfl, fun q hq => by rcases hq with rfl | rfl <;> simp [binOp]⟩
    rw [em, Op.equalIn]
    simp only [Sem.run_bind, run_underlying hu, Result.andThen_ok, Sem.run_pure]
  · rename_i e cs o
    have hy' : vy = .pointer none := by cases y <;> first | (cases hl; done) | exact hy
    subst hy'
    cases h
    obtain ⟨b, off, us, rfl, _⟩ := hx
    have hu := kd_ptr hT hk
    refine ⟨?_, gd _ _ rfl, fun q hq => by rcases hq with rfl | rfl <;> simp [binOp]⟩
    rw [em, Op.equalIn]
    simp only [Sem.run_bind, run_underlying hu, Result.andThen_ok, Sem.run_pure]
theorem evNil_sound (hs : SR S gh w sto) {t : TypeId} {op : BinOp} {vx vy : Value} {x y d : D} (hx : RepD S gh sto w vx x) (hy : RepD S gh sto w vy y) (h : evNil T sto op t x y = some d) (xo yo : Operand) : ∃ u, ((do eqGuard op t xo yo vx vy; binOp op t vx vy) : Sem Value).run P w = .ok u w ∧ RepD S gh sto w u d := by
  unfold evNil at h
  split at h
  · rename_i k hk
    split at h
    · rename_i hl
      split at h
      · rename_i b hb
        obtain ⟨e1, e2, e3⟩ := isNil_sound (P := P) (op := op) hT hs hk hx hy hl hb xo yo
        split at h
        · simp only [Option.some.injEq] at h
          subst h
          exact ⟨.bool b, by rw [e3 _ (.inl rfl)]; simp only [Sem.run_bind, e2, e1, Result.andThen_ok, Sem.run_pure], RepV.bool _⟩
        · simp only [Option.some.injEq] at h
          subst h
          exact ⟨.bool !b, by rw [e3 _ (.inr rfl)]; simp only [Sem.run_bind, e2, e1, Result.andThen_ok, Sem.run_pure], RepV.bool _⟩
        · cases h
      · cases h
    · cases h
  · cases h
end
end Go.Proofs.Ytghdanpigohnjaa
namespace Go.Proofs.Ytghdanpigohnjaa
open Go Go.RowKit

section
variable {P : Program} {T : Tab} {S : Stay} {gh : List Value} {sto : Sto} {w : World}
theorem RepD.toC {v : Value} {d : D} (h : RepD S gh sto w v d) (hd : ∀ ds, (d = .agg ds ∨ d = .tupD ds) → False) : RepC S gh sto w v d := by
  cases d with
  | agg ds => exact (hd ds (.inl rfl)).elim
  | tupD ds => exact (hd ds (.inr rfl)).elim
  | _ => exact h
theorem run_next {x : Sem Value} {u : Value} (h : x.run P w = .ok u w) : ((do pure (.value (← x))) : Sem Next).run P w = .ok (.value u) w := by
  simp only [Sem.run_bind, h, Result.andThen_ok, Sem.run_pure]
theorem findNow_rep {k : IntKind} (n : Int) : ∀ (es : List MapEntry) (kvs : List (Int × V)) (i : Nat), es.length = kvs.length → (∀ (j : Nat) (e : MapEntry) (kv : Int × V), es[j]? = some e → kvs[j]? = some kv → e.key = .int k kv.1 ∧ RepV S w e.val kv.2) →
    (mget kvs n = none ∧ Instr.findNow (.int k) (.int k n) es i = some none) ∨ ∃ j e v, mget kvs n = some v ∧ Instr.findNow (.int k) (.int k n) es i = some (some (i + j, e.val)) ∧ es[j]? = some e ∧ e.key = .int k n ∧ RepV S w e.val v
  | [], [], i, _, _ => .inl ⟨rfl, rfl⟩
  | [], _ :: _, _, h, _ => by simp at h
  | _ :: _, [], _, h, _ => by simp at h
  | e :: es, (k0, v0) :: kvs, i, hl, hr => by
    obtain ⟨h1, h2⟩ := hr 0 e (k0, v0) rfl rfl
    simp only at h1 h2
    by_cases hn : n = k0
    · right
      subst hn
      exact ⟨0, e, v0, by simp [mget], by simp [Instr.findNow, Instr.sameNow, h1], rfl, h1, h2⟩
    · have hbb : (n == k0) = false := by simp [hn]
      have ih := findNow_rep n es kvs (i + 1) (by simpa using hl) (fun j e' kv he hk => hr (j + 1) e' kv (by simpa using he) (by simpa using hk))
      have e1 : Instr.findNow (.int k) (.int k n) (e :: es) i = Instr.findNow (.int k) (.int k n) es (i + 1) := by
        simp [Instr.findNow, Instr.sameNow, h1, hbb]
      have e2 : mget ((k0, v0) :: kvs) n = mget kvs n := by simp [mget, hn]
      rw [e1, e2]
      rcases ih with h | ⟨j, e', v, a, b, c, d⟩
      · exact .inl h
      · exact .inr ⟨j + 1, e', v, a, by rw [b]; congr 3; omega, by simpa using c, d⟩
theorem checkKey_int {kt : TypeId} {k : IntKind} (hk : P.underlying kt = some (.int k)) (em : Bool) (n : Int) : (Instr.checkKey em 10000 kt (.int k n)).run P w = .ok () w := by
  rw [show (10000 : Nat) = 9999 + 1 from rfl, Instr.checkKey]
  simp only [Sem.run_bind, run_underlying hk, Result.andThen_ok, Sem.run_pure]
theorem findKey_int {kt : TypeId} {k : IntKind} (hk : P.underlying kt = some (.int k)) {n : Int} {es : List MapEntry} {r : Option (Nat × Value)} (h : Instr.findNow (.int k) (.int k n) es 0 = some r) : (Instr.findKey kt (.int k n) es).run P w = .ok r w := by
  unfold Instr.findKey
  simp only [Sem.run_bind, run_underlying hk, Result.andThen_ok, h, Sem.run_pure]
theorem evLookup_sound (hT : T.OK P) (hs : SR S gh w sto) {t : TypeId} {x key d : D} {vx vk : Value} {ok : Bool} (hx : RepD S gh sto w vx x) (hk : RepD S gh sto w vk key) (he : evLookup T sto t x key ok = some d) : ∃ u, (Instr.lookup t vx vk ok).run P w = .ok u w ∧ RepD S gh sto w u d := by
  unfold evLookup at he
  split at he
  · rename_i kt et k' n ht
    have hu := kd_map hT ht
    obtain rfl := RepV.int_inv hk
    split at he
    · rename_i k i hkt hi
      have hku := kd_int hT hkt
      split at he
      · rename_i z hz
        split at he
        · rename_i hkk
          subst hkk
          have h0 : SR S [] w [] := ⟨rfl, fun i e h => by simp at h, fun i j g h => by simp [blkAt] at h, hs.stay⟩
          have hzr : RepV S w i.zero z := view_rep h0 (ofVal_rep i.zero) hz
          have fin : ∀ (u : Value) (y : V) (b : Bool), RepV S w u y → RepD S gh sto w (if ok then .tuple #[u, .bool b] else u) (okV ok y b) := by
            intro u y b hr
            cases ok with
            | true =>
              refine RepV.tup [u, .bool b] [y, .bool b] rfl fun j u' c hu hc => ?_
              match j, hu, hc with
              | 0, hu, hc => simp only [List.getElem?_cons_zero, Option.some.injEq] at hu hc; subst hu; subst hc; exact hr
              | 1, hu, hc => simp only [List.getElem?_cons_succ, List.getElem?_cons_zero, Option.some.injEq] at hu hc; subst hu; subst hc; exact .bool b
              | j + 2, hu, _ => simp at hu
            | false => exact hr
          split at he
          · simp only [Option.some.injEq] at he
            subst he
            have hx' : vx = .map none := hx
            subst hx'
            refine ⟨_, ?_, fin i.zero z false hzr⟩
            have hf : (Instr.findKey kt (.int k' n) []).run P w = .ok none w := findKey_int hku rfl
            simp only [Instr.lookup, Sem.run_bind, run_underlying hu, Result.andThen_ok, Sem.run_pure, checkKey_int hku, hf, run_zero hT hi]
          · rename_i id
            obtain ⟨_, g, hg, rfl⟩ : RepC S gh sto w vx (.map id) := hx
            split at he
            · rename_i k2 kvs hes
              split at he
              · rename_i hk2
                subst hk2
                obtain ⟨gv, hgv, hE⟩ := hs.ent id _ hes
                rw [hg] at hgv
                cases hgv
                obtain ⟨g', es, clock, h1, h2, h3, -, h4, h5⟩ := hE
                cases h1
                rcases findNow_rep n es.toList kvs 0 h4 h5 with ⟨a, b⟩ | ⟨j, e, v, a, b, c, c2, c3⟩
                · rw [a] at he
                  simp only [Option.some.injEq] at he
                  subst he
                  refine ⟨_, ?_, fin i.zero z false hzr⟩
                  simp only [Instr.lookup, Sem.run_bind, run_underlying hu, Result.andThen_ok, getObj_map h2, Sem.run_pure, checkKey_int hku, findKey_int hku b, run_zero hT hi]
                · rw [a] at he
                  simp only [Option.some.injEq] at he
                  subst he
                  refine ⟨_, ?_, fin e.val v true c3⟩
                  simp only [Instr.lookup, Sem.run_bind, run_underlying hu, Result.andThen_ok, getObj_map h2, Sem.run_pure, checkKey_int hku, findKey_int hku b]
              · cases he
            · cases he
          · cases he
        · cases he
      · cases he
    · cases he
  · cases he
theorem evPure_sound (hT : T.OK P) (hs : SR S gh w sto) {e : Operand → Value} {ρ : Operand → D} (hρ : ∀ x, RepD S gh sto w (e x) (ρ x)) {o : Oper} {d : D} (hb : ∀ t n ps, o.op ≠ .buildSlice t n ps) (hb2 : ∀ src dst x, o.op = .convert src dst x → ∀ s, ρ x ≠ .v (.str s)) (h : evPure T ρ sto o = some d) : ∃ u, (execOp e o).run P w = .ok (.value u) w ∧ RepD S gh sto w u d := by
  unfold evPure at h
  unfold execOp
  split at h <;> rename_i hop <;> simp only [hop]
  · rename_i x
    simp only [Option.some.injEq] at h
    subst h
    exact ⟨_, rfl, hρ x⟩
  · rename_i x
    simp only [Option.some.injEq] at h
    subst h
    exact ⟨_, rfl, hρ x⟩
  · rename_i c a b
    split at h
    · rename_i t hc
      have hb := hρ c
      rw [hc] at hb
      obtain hb := RepV.bool_inv hb
      simp only [Option.some.injEq] at h
      subst h
      refine ⟨if t then e a else e b, ?_, ?_⟩
      · rw [hb]
        simp only [asBool, Sem.run_bind, Sem.run_pure, Result.andThen_ok]
      · cases t
        · exact hρ b
        · exact hρ a
    · cases h
  · rename_i t parts
    obtain ⟨u, h1, h2⟩ := evBuild_sound (P := P) (S := S) (gh := gh) (sto := sto) (w := w) hT (vparts := parts.map fun (i, x) => (i, e x)) (by
      refine ⟨by simp, fun j u d hu hd => ?_⟩
      simp only [Array.toList_map, List.getElem?_map] at hu hd
      cases hx : parts.toList[j]? with
      | none => rw [hx] at hu; cases hu
      | some p =>
        rw [hx] at hu hd
        simp only [Option.map_some, Option.some.injEq] at hu hd
        subst hu; subst hd
        exact ⟨rfl, hρ p.2⟩) h
    exact ⟨u, run_next h1, h2⟩
  · rename_i t n ps
    exact absurd hop (hb t n ps)
  · rename_i t x
    have hx : RepC S gh sto w (e x) (ρ x) := (hρ x).toC fun ds h0 => by
      rcases h0 with h0 | h0 <;> rw [h0] at h <;> unfold evLoad at h <;> split at h <;> cases h
    obtain ⟨u, h1, h2⟩ := evLoad_sound hT hs hx h
    exact ⟨u, run_next h1, h2⟩
  · rename_i x
    split at h
    · rename_i id o hx
      have h0 := hρ x
      rw [hx] at h0
      simp only [Option.some.injEq] at h
      subst h
      obtain ⟨a, g, b, hv⟩ := h0
      refine ⟨e x, ?_, ⟨a, g, b, hv⟩⟩
      rw [hv]; rfl
    · rename_i cs o hx
      have h0 := hρ x
      rw [hx] at h0
      simp only [Option.some.injEq] at h
      subst h
      obtain ⟨a, g, b, hv, hr⟩ := h0
      refine ⟨e x, ?_, ⟨a, g, b, hv, hr⟩⟩
      rw [hv]; rfl
    · rename_i id n o hx
      have h0 := hρ x
      rw [hx] at h0
      simp only [Option.some.injEq] at h
      subst h
      obtain ⟨a, ⟨g, hv⟩, hr⟩ := h0
      refine ⟨e x, ?_, ⟨a, ⟨g, hv⟩, hr⟩⟩
      rw [hv]; rfl
    · rename_i f cs hx
      have h0 := hρ x
      rw [hx] at h0
      simp only [Option.some.injEq] at h
      subst h
      obtain ⟨vs, hv, hr⟩ := h0
      refine ⟨e x, ?_, ⟨vs, hv, hr⟩⟩
      rw [hv]; rfl
    · cases h
  · rename_i op t x y ty
    split at h
    · rename_i a b ha hb
      split at h
      · rename_i r hq
        simp only [Option.some.injEq] at h
        subst h
        obtain ⟨u, h1, h2⟩ := evBin_sound (P := P) (x := x) (y := y) hT (view_rep hs (hρ x) ha) (view_rep hs (hρ y) hb) hq
        exact ⟨u, run_next h1, h2⟩
      · obtain ⟨u, h1, h2⟩ := evNil_sound (P := P) hT hs (hρ x) (hρ y) h x y
        exact ⟨u, run_next h1, h2⟩
    · obtain ⟨u, h1, h2⟩ := evNil_sound (P := P) hT hs (hρ x) (hρ y) h x y
      exact ⟨u, run_next h1, h2⟩
  · rename_i op t x
    split at h
    · rename_i a ha
      have h0 := hρ x
      rw [ha] at h0
      cases hq : evUn op a with
      | none => rw [hq] at h; cases h
      | some r =>
        rw [hq] at h
        simp only [Option.map_some, Option.some.injEq] at h
        subst h
        obtain ⟨u, h1, h2⟩ := evUn_sound (P := P) h0 hq
        exact ⟨u, run_next h1, h2⟩
    · cases h
  · rename_i src dst x
    split at h
    · rename_i i j k n h1 h2 h3
      have h0 := hρ x
      rw [h3] at h0
      have hv := RepV.int_inv h0
      split at h
      · rename_i k' hk
        simp only [Option.some.injEq] at h
        subst h
        obtain ⟨d1, u1, _⟩ := tab_kind hT h1
        obtain ⟨d2, u2, k2⟩ := tab_kind hT h2
        rw [hk] at k2
        refine ⟨.int k' (k'.wrap n), ?_, RepV.int _ _⟩
        apply run_next
        cases d2 <;> simp only [kindOf] at k2 <;> first | (cases k2; done) | skip
        simp only [Kd.int.injEq] at k2
        subst k2
        rw [hv]
        simp only [convert, Sem.run_bind, run_underlying u1, run_underlying u2, Result.andThen_ok, Conv.intToInt, Sem.run_pure]
      · cases h
    · rename_i i j q1 q2 _
      have k1 : kd T src = some i.kind := by unfold kd; rw [q1]
      have k2 : kd T dst = some j.kind := by unfold kd; rw [q2]
      unfold evConv at h
      split at h
      · rename_i e g1 g2
        rw [g1] at k1
        rw [g2] at k2
        split at h
        · rename_i m cs ge gv
          split at h
          · rename_i hl
            cases hq : strV cs with
            | none => rw [hq] at h; cases h
            | some s =>
              rw [hq] at h
              simp only [Option.map_some, Option.some.injEq] at h
              subst h
              exact ⟨_, run_next (toStr_run hT hs (kd_slice hT k1) (kd_str hT k2) ge (hρ x) gv hl hq), RepV.str s⟩
          · cases h
        · cases h
      · split at h
        · rename_i s _ hx0
          exact absurd hx0 (hb2 src dst x hop s)
        · cases h
      · cases h
    · cases h
  · rename_i dst x
    unfold evToArr at h
    split at h
    · rename_i n e hk
      have hu := kd_array hT hk
      split at h
      · rename_i id o m hx
        have h0 := hρ x
        rw [hx] at h0
        split at h
        · rename_i hn
          simp only [Option.some.injEq] at h
          subst h
          obtain ⟨hid, g, c, hg, hv, _⟩ := h0
          refine ⟨.pointer (some ⟨g, o, none⟩), ?_, hid, g, hg, rfl⟩
          apply run_next
          rw [hv]
          simp only [Instr.arrayAt, Sem.run_bind, run_underlying hu, Result.andThen_ok, if_neg (show ¬ m < n by omega), Sem.run_pure]
        · cases h
      · rename_i m cs hx
        have h0 := hρ x
        rw [hx] at h0
        split at h
        · rename_i hn
          simp only [Option.some.injEq] at h
          subst h
          obtain ⟨a, cap, hv, l1, l2, l3, l4⟩ := RepV.sl_inv h0
          obtain ⟨b, off, us, rfl, k1, k2⟩ := l4 hn.2
          refine ⟨.pointer (some ⟨b, off, none⟩), ?_, b, off, us, by rw [Nat.add_zero], k1, k2⟩
          apply run_next
          rw [hv]
          simp only [Instr.arrayAt, Sem.run_bind, run_underlying hu, Result.andThen_ok, if_neg (show ¬ m < n by omega), Sem.run_pure]
        · cases h
      · cases h
    · cases h
  · rename_i f first caps
    split at h
    · rename_i hf
      cases hq : capId (caps.toList.map ρ) with
      | none => rw [hq] at h; cases h
      | some ids =>
        rw [hq] at h
        simp only [Option.map_some, Option.some.injEq] at h
        subst h
        obtain ⟨l1, l2⟩ := capId_sound _ _ _ (argsRep hρ caps.toList) hq
        have hf' : first = #[] := Array.eq_empty_of_size_eq_zero hf
        subst hf'
        refine ⟨.func (.func f) #[] (caps.toList.map e).toArray, ?_, caps.toList.map e, rfl, l1, l2⟩
        apply run_next
        have : (Array.map e caps) = (caps.toList.map e).toArray := Array.ext' (by simp)
        simp [Instr.makeFunc, this]
    · cases h
  · rename_i t x lo hi mx
    obtain ⟨u, h1, h2⟩ := evSlice_sound (P := P) hT hs (hρ x) (vl := lo.map e) (vh := hi.map e) (vm := mx.map e) (by
      intro v hv
      cases lo with
      | none => cases hv
      | some y => simp only [Option.map_some, Option.some.injEq] at hv; subst hv; exact ⟨_, rfl, hρ y⟩) (by intro h0; cases lo with | none => rfl | some y => cases h0) (by
      intro v hv
      cases hi with
      | none => cases hv
      | some y => simp only [Option.map_some, Option.some.injEq] at hv; subst hv; exact ⟨_, rfl, hρ y⟩) (by intro h0; cases hi with | none => rfl | some y => cases h0) (by intro h0; cases mx with | none => rfl | some y => cases h0) h
    exact ⟨u, run_next h1, h2⟩
  · rename_i t x f
    have hx : RepC S gh sto w (e x) (ρ x) := (hρ x).toC fun ds h0 => by
      rcases h0 with h0 | h0 <;> rw [h0] at h <;> unfold evFieldAddr at h <;> (repeat' split at h) <;> first | (cases h; done) | contradiction
    obtain ⟨u, h1, h2⟩ := evFieldAddr_sound hT hx h
    exact ⟨u, run_next h1, h2.toD⟩
  · rename_i t x f
    obtain ⟨u, h1, h2⟩ := evField_sound hT (hρ x) h
    exact ⟨u, run_next h1, h2⟩
  · rename_i t x i
    have hx : RepC S gh sto w (e x) (ρ x) := (hρ x).toC fun ds h0 => by
      rcases h0 with h0 | h0 <;> rw [h0] at h <;> unfold evIndexAddr at h <;> (repeat' split at h) <;> first | (cases h; done) | contradiction
    obtain ⟨u, h1, h2⟩ := evIndexAddr_sound hT hs hx (hρ i) h
    exact ⟨u, run_next h1, h2.toD⟩
  · rename_i t x i
    obtain ⟨u, h1, h2⟩ := evIndex_sound hT (hρ x) (hρ i) h
    exact ⟨u, run_next h1, h2⟩
  · rename_i t x i ok
    obtain ⟨u, h1, h2⟩ := evLookup_sound hT hs (hρ x) (hρ i) h
    exact ⟨u, run_next h1, h2⟩
  · rename_i x ix
    split at h
    case h_2 =>
      rename_i ds hx
      have h0 := hρ x
      rw [hx] at h0
      obtain ⟨us, h1, h2, h3⟩ := h0
      have hlt := (List.getElem?_eq_some_iff.1 h).1
      have hu : us[ix]? = some (us[ix]'(by omega)) := List.getElem?_eq_getElem (by omega)
      refine ⟨us[ix]'(by omega), ?_, (h3 ix _ _ hu h).toD⟩
      apply run_next
      simp only [Instr.extract, h1, List.getElem?_toArray, hu, Sem.run_pure]
    · rename_i vs hx
      have h0 := hρ x
      rw [hx] at h0
      have h0' : RepV S w (e x) (.tup vs) := h0
      cases hq : vs[ix]? with
      | none => rw [hq] at h; cases h
      | some r =>
        rw [hq] at h
        simp only [Option.map_some, Option.some.injEq] at h
        subst h
        generalize e x = v at h0'
        cases h0' with
        | tup us cs l1 l2 =>
          have hlt := (List.getElem?_eq_some_iff.1 hq).1
          have hu : us[ix]? = some (us[ix]'(by omega)) := List.getElem?_eq_getElem (by omega)
          refine ⟨us[ix]'(by omega), ?_, l2 ix _ r hu hq⟩
          apply run_next
          simp only [Instr.extract, List.getElem?_toArray, hu, Sem.run_pure]
    · cases h
  · rename_i c
    split at h
    · rename_i b hb
      obtain ⟨u, h1, h2⟩ := evBuiltin_sound (P := P) hT hs (argsRep hρ c.args.toList) o.type (c.args.map fun | .const _ => true | _ => false) h
      refine ⟨u, ?_, h2⟩
      simp only [resolve, hb, Sem.run_bind, Sem.run_pure, Result.andThen_ok, invoke]
      rw [← h1]
      congr 2
      apply Array.ext'
      simp
    · cases h
  · cases h
end
end Go.Proofs.Ytghdanpigohnjaa
namespace Go.Proofs.Ytghdanpigohnjaa
open Go Go.RowKit

section
variable {S S' : Stay} {gh gh' : List Value} {sto sto' : Sto} {w w' : World}
theorem RepE.lt {gv : Value} {e : Ent} {g : Nat} (h : RepE S gh sto w gv e) (hg : blk gv = some g) : g < w.heap.size := by
  have key : ∀ {g : Nat} {o : Obj}, w.heap[g]? = some o → g < w.heap.size := fun h => (Array.getElem?_eq_some_iff.1 h).1
  cases e with
  | cells ds =>
    obtain ⟨g', cur, ty, rfl, hh, _⟩ := h
    simp only [blk, Option.some.injEq] at hg
    subst hg
    exact key hh
  | arr es wr n cs =>
    cases es with
    | none => obtain ⟨rfl, _⟩ := h; simp [blk] at hg
    | some es =>
      obtain ⟨g', cap, cur, rfl, hh, _⟩ := h
      simp only [blk, Option.some.injEq] at hg
      subst hg
      exact key hh
  | map k kvs =>
    obtain ⟨g', es, clock, rfl, hh, _⟩ := h
    simp only [blk, Option.some.injEq] at hg
    subst hg
    exact key hh
theorem SR.lt (hs : SR S gh w sto) {i g : Nat} (h : blkAt gh i = some g) : g < w.heap.size := by
  unfold blkAt at h
  cases hg : gh[i]? with
  | none => rw [hg] at h; cases h
  | some gv =>
    rw [hg] at h
    have hi : i < sto.length := by rw [← hs.len]; exact (List.getElem?_eq_some_iff.1 hg).1
    obtain ⟨gv', h1, h2⟩ := hs.ent i _ (List.getElem?_eq_getElem hi)
    rw [hg] at h1
    cases h1
    exact h2.lt h
theorem RepE.mono {lo : Nat} (hs : SR S gh w sto) (hf : Fr sto.length lo S gh w sto S' gh' w' sto') {gv : Value} {e : Ent} (h : RepE S gh sto w gv e) (hb : ∀ g, blk gv = some g → w'.heap[g]? = w.heap[g]? ∧ ∀ o, S' g o ↔ S g o) : RepE S' gh' sto' w' gv e := by
  cases e with
  | cells ds =>
    obtain ⟨g, cur, ty, rfl, hh, h1, h2, h3⟩ := h
    obtain ⟨b1, b2⟩ := hb g rfl
    exact ⟨g, cur, ty, rfl, by rw [b1]; exact hh, h1, fun o ho => h2 o ((b2 o).1 ho), fun k u d hu hd => ⟨(h3 k u d hu hd).1, RepC.mono hs hf (h3 k u d hu hd).2⟩⟩
  | arr es wr n cs =>
    cases es with
    | none => exact h
    | some es =>
      obtain ⟨e0, s⟩ := es
      obtain ⟨g, cap, cur, rfl, hh, h1, h2, h3, h4, h5, h6⟩ := h
      obtain ⟨b1, b2⟩ := hb g rfl
      refine ⟨g, cap, cur, rfl, by rw [b1]; exact hh, h1, h2, h3, h4, fun j u c hu hc => ⟨(h5 j u c hu hc).1, RepV.mono hf.stable (h5 j u c hu hc).2⟩, ?_⟩
      cases wr with
      | true => simp only [if_true] at h6 ⊢; exact fun o ho => h6 o ((b2 o).1 ho)
      | false => simp only [Bool.false_eq_true, if_false] at h6 ⊢; exact fun o => (b2 o).trans (h6 o)
  | map k kvs =>
    obtain ⟨g, es, clock, rfl, hh, h1, hsp, h2, h3⟩ := h
    obtain ⟨b1, b2⟩ := hb g rfl
    exact ⟨g, es, clock, rfl, by rw [b1]; exact hh, fun o ho => h1 o ((b2 o).1 ho), hsp, h2, fun j e kv he hk => ⟨(h3 j e kv he hk).1, RepV.mono hf.stable (h3 j e kv he hk).2⟩⟩
/-- A new entry: what has to be shown of it. -/
theorem push_fr {lo : Nat} {gv : Value} {e : Ent} (hs : SR S gh w sto) (hlo : lo ≤ sto.length) (hb : Below w.heap.size w w') (hst : ∀ b o, S b o → S' b o) (hnew : ∀ g, blk gv = some g → w.heap.size ≤ g) : Fr sto.length lo S gh w sto S' (gh ++ [gv]) w' (sto ++ [e]) where
  os := hb.os
  tape := hb.tape
  output := hb.output
  size := hb.size
  stable := fun b o h => ⟨hst b o h, hb.cell (p := ⟨b, o, none⟩) (hs.stay b o h)⟩
  block := fun b h _ => hb.block b h
  low := fun i hi => ⟨List.getElem?_append_left (by rw [hs.len]; omega), List.getElem?_append_left (by omega)⟩
  new := fun i g hi hg => by
    unfold blkAt at hg
    rcases Nat.lt_or_ge i gh.length with h | h
    · rw [List.getElem?_append_left h] at hg
      exact .inl ⟨i, hi, hg⟩
    · rw [List.getElem?_append_right h] at hg
      rcases Nat.eq_zero_or_pos (i - gh.length) with h0 | h0
      · rw [h0] at hg
        exact .inr (hnew g hg)
      · rw [List.getElem?_eq_none (by simp; omega)] at hg; cases hg
  keep := fun i e gv hi h1 h2 => ⟨e, gv, by rw [List.getElem?_append_left hi]; exact h1, by rw [List.getElem?_append_left (by rw [hs.len]; exact hi)]; exact h2, KeepE.refl gv e⟩
theorem push_sr {lo : Nat} {gv : Value} {e : Ent} (hs : SR S gh w sto) (hf : Fr sto.length lo S gh w sto S' (gh ++ [gv]) w' (sto ++ [e])) (hb : Below w.heap.size w w') (hS : ∀ b o, S' b o → S b o ∨ (w.heap.size ≤ b ∧ b < w'.heap.size)) (hnew : ∀ g, blk gv = some g → w.heap.size ≤ g)
    (hE : RepE S' (gh ++ [gv]) (sto ++ [e]) w' gv e) : SR S' (gh ++ [gv]) w' (sto ++ [e]) where
  len := by simp [hs.len]
  ent := fun i e' hi => by
    rcases Nat.lt_or_ge i sto.length with h | h
    · rw [List.getElem?_append_left h] at hi
      obtain ⟨gv', h1, h2⟩ := hs.ent i e' hi
      refine ⟨gv', by rw [List.getElem?_append_left (by rw [hs.len]; exact h)]; exact h1, RepE.mono hs hf h2 fun g hg => ?_⟩
      have hlt := h2.lt hg
      exact ⟨hb.block g hlt, fun o => ⟨fun ho => (hS g o ho).resolve_right (by omega), fun ho => (hf.stable g o ho).1⟩⟩
    · rw [List.getElem?_append_right h] at hi
      have h0 : i - sto.length = 0 := by
        rcases Nat.eq_zero_or_pos (i - sto.length) with h0 | h0
        · exact h0
        · rw [List.getElem?_eq_none (by simp; omega)] at hi; cases hi
      rw [h0] at hi
      simp only [List.getElem?_cons_zero, Option.some.injEq] at hi
      subst hi
      exact ⟨gv, by rw [List.getElem?_append_right (by rw [hs.len]; exact h), hs.len, h0]; rfl, hE⟩
  inj := fun i j g hi hj => by
    have look : ∀ i, blkAt (gh ++ [gv]) i = some g → (i < gh.length ∧ blkAt gh i = some g ∧ g < w.heap.size) ∨ (i = gh.length ∧ w.heap.size ≤ g) := by
      intro i hi
      unfold blkAt at hi ⊢
      rcases Nat.lt_or_ge i gh.length with h | h
      · rw [List.getElem?_append_left h] at hi
        exact .inl ⟨h, hi, hs.lt hi⟩
      · rw [List.getElem?_append_right h] at hi
        rcases Nat.eq_zero_or_pos (i - gh.length) with h0 | h0
        · rw [h0] at hi
          exact .inr ⟨by omega, hnew g hi⟩
        · rw [List.getElem?_eq_none (by simp; omega)] at hi; cases hi
    rcases look i hi with ⟨_, a, b⟩ | ⟨a, b⟩ <;> rcases look j hj with ⟨_, c, d⟩ | ⟨c, d⟩
    · exact hs.inj i j g a c
    · omega
    · omega
    · omega
  stay := fun b o h => by
    rcases hS b o h with h | h
    · exact Nat.lt_of_lt_of_le (hs.stay b o h) hb.size
    · exact h.2
/-- An entry changes. -/
theorem upd_fr {lo id : Nat} {gv gv' : Value} {e e' : Ent} (he : sto[id]? = some e) (hg : gh[id]? = some gv) (hlo : lo ≤ id) (hos : w'.os = w.os) (htape : w'.tape = w.tape) (hout : w'.output = w.output) (hsize : w.heap.size ≤ w'.heap.size)
    (hblock : ∀ b, b < w.heap.size → blk gv ≠ some b → w'.heap[b]? = w.heap[b]?) (hst : ∀ b o, S b o → S' b o ∧ w'.cell? ⟨b, o, none⟩ = w.cell? ⟨b, o, none⟩) (hnew : ∀ g, blk gv' = some g → blk gv = some g ∨ w.heap.size ≤ g) (hk : KeepE gv gv' e e') :
    Fr sto.length lo S gh w sto S' (gh.set id gv') w' (sto.set id e') where
  os := hos
  tape := htape
  output := hout
  size := hsize
  stable := hst
  block := fun b hb hn => hblock b hb fun h => hn id hlo (by unfold blkAt; rw [hg]; exact h)
  low := fun i hi => ⟨List.getElem?_set_ne (by omega), List.getElem?_set_ne (by omega)⟩
  new := fun i g hi hgi => by
    unfold blkAt at hgi
    rcases Nat.decEq id i with h | h
    · rw [List.getElem?_set_ne h] at hgi
      exact .inl ⟨i, hi, hgi⟩
    · subst h
      rw [List.getElem?_set_self (List.getElem?_eq_some_iff.1 hg).1] at hgi
      rcases hnew g hgi with h | h
      · exact .inl ⟨id, hi, by unfold blkAt; rw [hg]; exact h⟩
      · exact .inr h
  keep := fun i e0 gv0 hi h1 h2 => by
    rcases Nat.decEq id i with h | h
    · exact ⟨e0, gv0, by rw [List.getElem?_set_ne h]; exact h1, by rw [List.getElem?_set_ne h]; exact h2, KeepE.refl gv0 e0⟩
    · subst h
      rw [he] at h1; rw [hg] at h2
      cases h1; cases h2
      exact ⟨e', gv', by rw [List.getElem?_set_self (List.getElem?_eq_some_iff.1 he).1], by rw [List.getElem?_set_self (List.getElem?_eq_some_iff.1 hg).1], hk⟩
theorem upd_sr {lo id : Nat} {gv gv' : Value} {e e' : Ent} (hs : SR S gh w sto) (he : sto[id]? = some e) (hg : gh[id]? = some gv) (hf : Fr sto.length lo S gh w sto S' (gh.set id gv') w' (sto.set id e'))
    (hblock : ∀ b, b < w.heap.size → blk gv ≠ some b → w'.heap[b]? = w.heap[b]?) (hS : ∀ b o, S' b o → S b o ∨ (blk gv' = some b ∧ b < w'.heap.size)) (hnew : ∀ g, blk gv' = some g → blk gv = some g ∨ w.heap.size ≤ g) (hE : RepE S' (gh.set id gv') (sto.set id e') w' gv' e') :
    SR S' (gh.set id gv') w' (sto.set id e') where
  len := by simp [hs.len]
  ent := fun i e0 hi => by
    rcases Nat.decEq id i with h | h
    · rw [List.getElem?_set_ne h] at hi
      obtain ⟨gv0, h1, h2⟩ := hs.ent i e0 hi
      refine ⟨gv0, by rw [List.getElem?_set_ne h]; exact h1, RepE.mono hs hf h2 fun g hg0 => ?_⟩
      have hlt := h2.lt hg0
      have hb0 : blkAt gh i = some g := by unfold blkAt; rw [h1]; exact hg0
      have hne : blk gv ≠ some g := fun hh => h (hs.inj id i g (by unfold blkAt; rw [hg]; exact hh) hb0)
      refine ⟨hblock g hlt hne, fun o => ⟨fun ho => ?_, fun ho => (hf.stable g o ho).1⟩⟩
      rcases hS g o ho with h' | ⟨h', _⟩
      · exact h'
      · rcases hnew g h' with h' | h'
        · exact absurd h' hne
        · omega
    · subst h
      rw [List.getElem?_set_self (List.getElem?_eq_some_iff.1 he).1] at hi
      cases hi
      exact ⟨gv', by rw [List.getElem?_set_self (List.getElem?_eq_some_iff.1 hg).1], hE⟩
  inj := fun i j g hi hj => by
    have look : ∀ i, blkAt (gh.set id gv') i = some g → (i ≠ id ∧ blkAt gh i = some g) ∨ (i = id ∧ (blkAt gh id = some g ∨ w.heap.size ≤ g)) := by
      intro i hi
      unfold blkAt at hi ⊢
      rcases Nat.decEq id i with h | h
      · rw [List.getElem?_set_ne h] at hi
        exact .inl ⟨fun e => h e.symm, hi⟩
      · subst h
        rw [List.getElem?_set_self (List.getElem?_eq_some_iff.1 hg).1] at hi
        refine .inr ⟨rfl, ?_⟩
        rw [hg]
        exact hnew g hi
    rcases look i hi with ⟨a, b⟩ | ⟨a, b⟩ <;> rcases look j hj with ⟨c, d⟩ | ⟨c, d⟩
    · exact hs.inj i j g b d
    · rcases d with d | d
      · exact absurd (hs.inj i id g b d) a
      · have := hs.lt b; omega
    · rcases b with b | b
      · exact absurd (hs.inj j id g d b) c
      · have := hs.lt d; omega
    · omega
  stay := fun b o h => by
    rcases hS b o h with h | h
    · exact Nat.lt_of_lt_of_le (hs.stay b o h) hf.size
    · exact h.2
end
end Go.Proofs.Ytghdanpigohnjaa
namespace Go.Proofs.Ytghdanpigohnjaa
open Go Go.RowKit

/-- What an operation that makes or writes entries leaves. -/
def Eff (P : Program) (lo : Nat) (S : Stay) (gh : List Value) (w : World) (sto : Sto) (x : Sem Value) (d : D) (sto' : Sto) : Prop :=
  ∃ v S' gh' w', x.run P w = .ok v w' ∧ RepD S' gh' sto' w' v d ∧ SR S' gh' w' sto' ∧ Fr sto.length lo S gh w sto S' gh' w' sto'
section
variable {P : Program} {T : Tab} {S : Stay} {gh : List Value} {sto : Sto} {w : World}
theorem below_new (w : World) (o : Obj) : Below w.heap.size w (w.alloc o) := (Below.refl _ _).alloc (Nat.le_refl _) o
theorem newVar_run (t : TypeId) (v : Value) : (newVar t v).run P w = .ok ⟨w.heap.size, 0, none⟩ (w.alloc (.cells v.cells t)) := by
  simp [newVar, newRow]
/-- A box. -/
theorem box_eff {lo : Nat} (hlo : lo ≤ sto.length) (hs : SR S gh w sto) (t : TypeId) {v : Value} {ds : List D} (h : Pw (fun u d => u.oneCell' = true ∧ RepC S gh sto w u d) v.cells.toList ds) : Eff P lo S gh w sto (do pure (.pointer (some (← newVar t v)))) (.ptr sto.length 0) (sto ++ [.cells ds]) := by
  have hb := below_new w (.cells v.cells t)
  have hnew : ∀ g, blk (.pointer (some ⟨w.heap.size, 0, none⟩)) = some g → w.heap.size ≤ g := by
    intro g hg
    simp only [blk, Option.some.injEq] at hg
    omega
  have hf : Fr sto.length lo S gh w sto S (gh ++ [.pointer (some ⟨w.heap.size, 0, none⟩)]) (w.alloc (.cells v.cells t)) (sto ++ [.cells ds]) := push_fr hs hlo hb (fun _ _ h => h) hnew
  refine ⟨.pointer (some ⟨w.heap.size, 0, none⟩), S, _, _, ?_, ?_, push_sr hs hf hb (fun b o h => .inl h) hnew ?_, hf⟩
  · simp only [Sem.run_bind, newVar_run, Result.andThen_ok, Sem.run_pure]
  · refine ⟨by simp, w.heap.size, ?_, rfl⟩
    rw [← hs.len]
    simp
  · refine ⟨w.heap.size, v.cells, (t, 0, 0), rfl, heap_alloc_new w _, ⟨.inl rfl, Nat.le_of_eq h.1.symm⟩, fun o ho => ?_, fun k u d hu hd => ?_⟩
    · have := hs.stay _ _ ho; omega
    · have := h.2 k u d hu hd
      exact ⟨this.1, RepC.mono hs hf this.2⟩
/-- A slice of the call's own. -/
theorem arr_eff {lo : Nat} {wr : Bool} (hlo : lo ≤ sto.length) (hs : SR S gh w sto) {w' : World} {cur : Array Value} {e : TypeId} {s n cap : Nat} {cs : List V} (hb : Below w.heap.size w w') (hg : w'.heap[w.heap.size]? = some (.cells cur e (0, 0))) (hn : n ≤ cap) (hc : cap ≤ maxLen) (hsz : cur.size = cap * s) (hl : cs.length = n * s)
    (hr : ∀ (j : Nat) (u : Value) (c : V), cur.toList[j]? = some u → cs[j]? = some c → u.oneCell' = true ∧ RepV S w u c) {x : Sem Value} (hx : x.run P w = .ok (.slice (some ⟨w.heap.size, 0, none⟩) n cap) w') : Eff P lo S gh w sto x (.arr sto.length n) (sto ++ [.arr (some (e, s)) wr n cs]) := by
  have hlt : w.heap.size < w'.heap.size := (Array.getElem?_eq_some_iff.1 hg).1
  obtain ⟨S', hS'⟩ : ∃ S' : Stay, S' = if wr then S else fun b o => S b o ∨ (b = w.heap.size ∧ o < n * s) := ⟨_, rfl⟩
  have hsub : ∀ b o, S b o → S' b o := by
    intro b o h
    rw [hS']
    cases wr
    · exact .inl h
    · exact h
  have hinv : ∀ b o, S' b o → S b o ∨ (w.heap.size ≤ b ∧ b < w'.heap.size) := by
    intro b o h
    rw [hS'] at h
    cases wr
    · rcases h with h | ⟨rfl, _⟩
      · exact .inl h
      · exact .inr ⟨Nat.le_refl _, hlt⟩
    · exact .inl h
  have hnew : ∀ g, blk (.slice (some ⟨w.heap.size, 0, none⟩) n cap) = some g → w.heap.size ≤ g := by
    intro g hg
    simp only [blk, Option.some.injEq] at hg
    omega
  have hf : Fr sto.length lo S gh w sto S' (gh ++ [.slice (some ⟨w.heap.size, 0, none⟩) n cap]) w' (sto ++ [.arr (some (e, s)) wr n cs]) := push_fr hs hlo hb hsub hnew
  refine ⟨_, S', _, w', hx, ?_, push_sr hs hf hb hinv hnew ?_, hf⟩
  · refine ⟨by simp, ⟨_, _, rfl⟩, fun es' wr' m cs' h => ?_⟩
    simp only [List.getElem?_append_right (Nat.le_refl _), Nat.sub_self, List.getElem?_cons_zero, Option.some.injEq, Ent.arr.injEq] at h
    obtain ⟨_, _, rfl, _⟩ := h
    refine ⟨Nat.le_refl _, fun _ => ?_⟩
    rw [← hs.len]
    simp
  · refine ⟨w.heap.size, cap, cur, rfl, hg, hn, hc, hsz, hl, fun j u c hu hcj => ⟨(hr j u c hu hcj).1, RepV.mono hf.stable (hr j u c hu hcj).2⟩, ?_⟩
    have hno : ∀ o, ¬ S w.heap.size o := fun o ho => by have := hs.stay _ _ ho; omega
    rw [hS']
    cases wr with
    | true => simp only [if_true]; exact hno
    | false =>
      simp only [Bool.false_eq_true, if_false]
      exact fun o => ⟨fun h => h.elim (fun h => absurd h (hno o)) (fun h => h.2), fun h => .inr (by simpa using h)⟩
/-- A slice of the call's own gets longer, in place or anew. -/
theorem arr_upd {lo id n n2 cap2 g2 s : Nat} {es : Option (TypeId × Nat)} {e : TypeId} {wr : Bool} {cs cs2 : List V} {gv : Value} {cur2 : Array Value} (hs : SR S gh w sto) (hes : sto[id]? = some (.arr es wr n cs)) (hgv : gh[id]? = some gv) (hlid : lo ≤ id) (hn : n < n2) (hess : es = none ∨ es = some (e, s)) {w' : World}
    (hos : w'.os = w.os) (htape : w'.tape = w.tape) (hout : w'.output = w.output) (hsize : w.heap.size ≤ w'.heap.size) (hblock : ∀ b, b < w.heap.size → blk gv ≠ some b → w'.heap[b]? = w.heap[b]?)
    (hg2 : w'.heap[g2]? = some (.cells cur2 e (0, 0))) (h1 : n2 ≤ cap2) (h2 : cap2 ≤ maxLen) (h3 : cur2.size = cap2 * s) (h4 : cs2.length = n2 * s) (hr : ∀ (j : Nat) (u : Value) (c : V), cur2.toList[j]? = some u → cs2[j]? = some c → u.oneCell' = true ∧ RepV S w u c)
    (hplace : (blk gv = some g2 ∧ ∀ o, o < n * s → w'.cell? ⟨g2, o, none⟩ = w.cell? ⟨g2, o, none⟩) ∨ (w.heap.size ≤ g2 ∧ ∀ b, b < w.heap.size → w'.heap[b]? = w.heap[b]?))
    {x : Sem Value} (hx : x.run P w = .ok (.slice (some ⟨g2, 0, none⟩) n2 cap2) w') : Eff P lo S gh w sto x (.arr id n2) (sto.set id (.arr (some (e, s)) wr n2 cs2)) := by
  obtain ⟨gv', hgv', hE⟩ := hs.ent id _ hes
  rw [hgv] at hgv'
  cases hgv'
  have hlt : g2 < w'.heap.size := (Array.getElem?_eq_some_iff.1 hg2).1
  -- what stays of the old block
  have hold : ∀ g o, blk gv = some g → S g o → wr = false ∧ o < n * s := by
    intro g o hg ho
    rcases hess with rfl | rfl
    · obtain ⟨rfl, _⟩ := hE; simp [blk] at hg
    · obtain ⟨g', cap, cur, rfl, _, _, _, _, _, _, h7⟩ := hE
      simp only [blk, Option.some.injEq] at hg
      subst hg
      cases wr with
      | true => simp only [if_true] at h7; exact absurd ho (h7 o)
      | false => simp only [Bool.false_eq_true, if_false] at h7; exact ⟨rfl, (h7 o).1 ho⟩
  have hiff : wr = false → ∀ g o, blk gv = some g → (S g o ↔ o < n * s) := by
    intro hw g o hg
    rcases hess with rfl | rfl
    · obtain ⟨rfl, _⟩ := hE; simp [blk] at hg
    · obtain ⟨g', cap, cur, rfl, _, _, _, _, _, _, h7⟩ := hE
      simp only [blk, Option.some.injEq] at hg
      subst hg
      subst hw
      simp only [Bool.false_eq_true, if_false] at h7
      exact h7 o
  obtain ⟨S', hS'⟩ : ∃ S' : Stay, S' = if wr then S else fun b o => S b o ∨ (b = g2 ∧ o < n2 * s) := ⟨_, rfl⟩
  have hsub : ∀ b o, S b o → S' b o := by
    intro b o h
    rw [hS']
    cases wr
    · exact .inl h
    · exact h
  have hinv : ∀ b o, S' b o → S b o ∨ (blk (.slice (some ⟨g2, 0, none⟩) n2 cap2) = some b ∧ b < w'.heap.size) := by
    intro b o h
    rw [hS'] at h
    cases wr
    · rcases h with h | ⟨rfl, _⟩
      · exact .inl h
      · exact .inr ⟨rfl, hlt⟩
    · exact .inl h
  have hnew : ∀ g, blk (.slice (some ⟨g2, 0, none⟩) n2 cap2) = some g → blk gv = some g ∨ w.heap.size ≤ g := by
    intro g hg
    simp only [blk, Option.some.injEq] at hg
    subst hg
    rcases hplace with h | h
    · exact .inl h.1
    · exact .inr h.1
  have hst : ∀ b o, S b o → S' b o ∧ w'.cell? ⟨b, o, none⟩ = w.cell? ⟨b, o, none⟩ := by
    intro b o h
    refine ⟨hsub b o h, ?_⟩
    have hb := hs.stay b o h
    by_cases hbg : blk gv = some b
    · obtain ⟨_, ho⟩ := hold b o hbg h
      rcases hplace with ⟨h', h''⟩ | ⟨_, h''⟩
      · rw [hbg] at h'
        cases h'
        exact h'' o ho
      · exact World.cell?_of_block (w := w) (h'' b hb)
    · exact World.cell?_of_block (w := w) (hblock b hb hbg)
  have hf : Fr sto.length lo S gh w sto S' (gh.set id (.slice (some ⟨g2, 0, none⟩) n2 cap2)) w' (sto.set id (.arr (some (e, s)) wr n2 cs2)) := upd_fr hes hgv hlid hos htape hout hsize hblock hst hnew ⟨by omega, fun e => by omega⟩
  have hid : id < sto.length := (List.getElem?_eq_some_iff.1 hes).1
  refine ⟨_, S', _, w', hx, ⟨by simpa using hid, ⟨_, _, rfl⟩, fun es' wr' m cs' h => ?_⟩, upd_sr hs hes hgv hf hblock hinv hnew ⟨g2, cap2, cur2, rfl, hg2, h1, h2, h3, h4, fun j u c hu hc => ⟨(hr j u c hu hc).1, RepV.mono hf.stable (hr j u c hu hc).2⟩, ?_⟩, hf⟩
  · rw [List.getElem?_set_self hid] at h
    simp only [Option.some.injEq, Ent.arr.injEq] at h
    obtain ⟨_, _, rfl, _⟩ := h
    exact ⟨Nat.le_refl _, fun _ => List.getElem?_set_self (by rw [hs.len]; exact hid)⟩
  · rw [hS']
    cases hw : wr with
    | true =>
      simp only [if_true]
      intro o ho
      rcases hplace with ⟨h', _⟩ | ⟨h', _⟩
      · have := (hold g2 o h' ho).1
        rw [hw] at this; cases this
      · have := hs.stay _ _ ho; omega
    | false =>
      simp only [Bool.false_eq_true, if_false]
      intro o
      refine ⟨fun h => ?_, fun h => .inr (by simpa using h)⟩
      rcases h with h | h
      · rcases hplace with ⟨h', _⟩ | ⟨h', _⟩
        · have := (hiff hw g2 o h').1 h
          have : n * s ≤ n2 * s := Nat.mul_le_mul_right _ (by omega)
          omega
        · have := hs.stay _ _ h; omega
      · exact h.2
theorem run_append_zero {t ty e : TypeId} {i : TypeInfo} (ht : P.underlying t = some (.slice e)) (hi : P.info? e = some i) {a : Option Addr} {n cap : Nat} (hn : n ≤ cap) (b : Option Addr) (c : Nat) :
    (Builtin.append_ #[t, t] ty #[.slice a n cap, .slice b 0 c]).run P w = .ok (.slice a n cap) w := by
  cases a <;> cases b <;> simp [Builtin.append_, run_underlying ht, sizeOf, typeInfo, hi, Builtin.lenOf, Builtin.firstCells, hn, storeCells, loadCells, loadCellsFrom]
variable (hT : T.OK P)
include hT
theorem tab_full {t : TypeId} {i : TyI} (h : T t = some i) : ∃ x, P.info? t = some x ∧ x.zero = some i.zero ∧ x.size = i.size ∧ x.bytes = i.bytes ∧ i.zero.cells.size = i.size := by
  obtain ⟨x, h1, h2, h3, h4⟩ := tab_info hT h
  exact ⟨x, h1, h2, h3, h4, (hT t i h).2.2⟩
theorem evAppend_eff {lo : Nat} {wr : Bool} (hlo : lo ≤ sto.length) (hs : SR S gh w sto) {t : TypeId} (ty : TypeId) {x y d : D} {sto' : Sto} {vx vy : Value} (hx : RepC S gh sto w vx x) (hy : RepD S gh sto w vy y) (he : evAppend T lo wr sto t x y = some (d, sto')) :
    Eff P lo S gh w sto (Builtin.append_ #[t, t] ty #[vx, vy]) d sto' := by
  unfold evAppend at he
  split at he
  · rename_i e hk
    have hu := kd_slice hT hk
    split at he
    · rename_i j hj
      obtain ⟨ti, hi, hz1, hz2, hz3, hz4⟩ := tab_full hT hj
      split at he
      case h_2 => cases he
      rename_i m news hv
      split at he
      · rename_i hc
        obtain ⟨hpos, hlen, hby⟩ := hc
        obtain ⟨ay, capy, rfl, y1, y2, y3, y4⟩ := srcV_sl hs hy hv
        -- the source's cells
        have src : 0 < m → ∃ (ad : Addr) (nv : List Value), ay = some ad ∧ nv.length = m * j.size ∧ (∀ (k : Nat) (u : Value), nv[k]? = some u → w.cell? (ad.add k) = some u) ∧ (∀ u ∈ nv, u.oneCell' = true) ∧ Pw (fun u c => u.oneCell' = true ∧ RepV S w u c) nv news := by
          intro hm
          have hne : news ≠ [] := by
            intro e0
            rw [e0] at hlen
            have : 0 < m * j.size := Nat.mul_pos hm hpos
            simp only [List.length_nil] at hlen
            omega
          obtain ⟨b, off, us, rfl, h5, h6⟩ := y4 hne
          have hmap : ∀ (k : Nat) (u : Value), ((List.range news.length).map us)[k]? = some u → k < news.length ∧ us k = u := by
            intro k u hu
            have hj : k < news.length := by simpa using (List.getElem?_eq_some_iff.1 hu).1
            rw [List.getElem?_map, List.getElem?_range hj] at hu
            simpa [hj] using hu
          refine ⟨⟨b, off, none⟩, (List.range news.length).map us, rfl, by simp [hlen], fun k u hu => ?_, fun u hu => ?_, by simp, fun k u c hu hcc => ?_⟩
          · obtain ⟨hk1, rfl⟩ := hmap k u hu
            rw [addr_add]; exact (h5 k hk1).2
          · obtain ⟨k, hk⟩ := List.mem_iff_getElem?.1 hu
            obtain ⟨hk1, rfl⟩ := hmap k u hk
            exact (h5 k hk1).1
          · obtain ⟨hk1, rfl⟩ := hmap k u hu
            exact ⟨(h5 k hk1).1, h6 k c hcc⟩
        -- onto nil
        have onNil : 0 < m → m ≤ 1000000000 → ∃ cap cur w', (Builtin.append_ #[t, t] ty #[.slice none 0 0, .slice ay m capy]).run P w = .ok (.slice (some ⟨w.heap.size, 0, none⟩) m cap) w' ∧ Below w.heap.size w w' ∧ w'.heap[w.heap.size]? = some (.cells cur e (0, 0)) ∧ m ≤ cap ∧ cap ≤ maxLen ∧ cur.size = cap * j.size ∧
            ∀ (k : Nat) (u : Value) (c : V), cur.toList[k]? = some u → news[k]? = some c → u.oneCell' = true ∧ RepV S w u c := by
          intro hm hm2
          obtain ⟨ad, nv, rfl, n1, n2, n3, n4⟩ := src hm
          obtain ⟨g, cap, w', hr, ho, hgr, hat, hlt⟩ := run_append_lies (P := P) w t ty 0 e ti j.zero j.size j.bytes hu hi hz1 hz2 hz3 hz4 hpos (.slice none 0 0) 0 [] (World.ownsRow_nil w 0 e j.size) ad m capy nv n1 n2 n3 hm (by unfold maxLen; omega) (by rw [Nat.zero_add]; have : m * j.bytes ≤ 1000000000 * 100000 := Nat.mul_le_mul hm2 hby; omega) (Nat.zero_le _) w.heap.size rfl
          rcases hat with hat | rfl
          · simp [Value.ownBlock] at hat
          · rw [Nat.zero_add] at hr ho
            rcases ho.2 with ⟨h0, _⟩ | ⟨g', cap', cur, h0, _, hh, hn, hcm, hcs, htk⟩
            · cases h0
            · simp only [Value.slice.injEq, Option.some.injEq, Addr.mk.injEq, and_true, true_and] at h0
              obtain ⟨rfl, rfl⟩ := h0
              refine ⟨cap, cur, w', hr, ⟨hgr.os, hgr.tape, hgr.output, hgr.size, fun k hk => hgr.block k hk (by simp [Value.ownBlock])⟩, hh, hn, hcm, hcs, fun k u c hu hcc => ?_⟩
              have hk : k < m * j.size := by have := (List.getElem?_eq_some_iff.1 hcc).1; omega
              rw [List.nil_append] at htk
              have hu' : nv[k]? = some u := by rw [← htk, List.getElem?_take_of_lt hk]; exact hu
              exact n4.2 k u c hu' hcc
        split at he
        · -- nil
          have hvx : vx = .slice none 0 0 := hx
          subst hvx
          split at he
          · rename_i hm2
            split at he
            · rename_i hm
              subst hm
              simp only [Option.some.injEq, Prod.mk.injEq] at he
              obtain ⟨rfl, rfl⟩ := he
              exact ⟨_, S, gh, w, run_append_zero hu hi (Nat.le_refl _) ay capy, rfl, hs, Fr.refl _ _ _ _ _ _⟩
            · rename_i hm
              simp only [Option.some.injEq, Prod.mk.injEq] at he
              obtain ⟨rfl, rfl⟩ := he
              obtain ⟨cap, cur, w', h1, h2, h3, h4, h5, h6, h7⟩ := onNil (by omega) hm2
              exact arr_eff hlo hs h2 h3 h4 h5 h6 hlen h7 h1
          · cases he
        · -- an empty one
          obtain ⟨a0, rfl⟩ : ∃ a, vx = .slice (some a) 0 0 := hx
          split at he
          · rename_i hm2
            split at he
            · rename_i hm
              subst hm
              simp only [Option.some.injEq, Prod.mk.injEq] at he
              obtain ⟨rfl, rfl⟩ := he
              exact ⟨_, S, gh, w, run_append_zero hu hi (Nat.le_refl _) ay capy, ⟨a0, rfl⟩, hs, Fr.refl _ _ _ _ _ _⟩
            · rename_i hm
              simp only [Option.some.injEq, Prod.mk.injEq] at he
              obtain ⟨rfl, rfl⟩ := he
              have hm0 : 0 < m := Nat.pos_of_ne_zero hm
              obtain ⟨ad, nv, rfl, n1, n2, n3, n4⟩ := src hm0
              have hby2 : (0 + m) * ti.bytes ≤ 140737488355328 := by
                rw [hz3, Nat.zero_add]
                have : m * j.bytes ≤ 1000000000 * 100000 := Nat.mul_le_mul hm2 hby
                omega
              have hrun := run_append_grow (P := P) w t ty e ti j.zero hu hi hz1 a0 0 0 [] (by simp) (fun k u hu => by simp at hu) ad m capy nv (by rw [hz2]; exact n1) n2 (by omega) (by omega) (growslice_fits (by omega) hby2)
              have hge := grownCap_ge w (0 + m) 0 e
              have hcm : grownCap w (0 + m) 0 e ≤ maxLen := grownCap_le_maxLen w (0 + m) 0 e (by unfold maxLen; omega)
              simp only [Nat.zero_add] at hrun hge hcm
              refine arr_eff (w' := w.drew.alloc (.cells (([] : List Value).toArray ++ nv.toArray ++ Builtin.zeroCells j.zero.cells (grownCap w m 0 e - m)) e)) hlo hs ⟨rfl, rfl, rfl, by simp, fun b hb => heap_alloc_old w.drew _ hb⟩ (heap_alloc_new w.drew _) hge hcm ?_ hlen (fun k u c hu hcc => ?_) hrun
              · simp only [Array.size_append, List.size_toArray, size_zeroCells, hz4, List.length_nil, n1, Nat.zero_add, ← Nat.add_mul]
                congr 1
                omega
              · have hk : k < m * j.size := by have := (List.getElem?_eq_some_iff.1 hcc).1; omega
                simp only [Array.toList_append, List.nil_append] at hu
                rw [List.getElem?_append_left (by rw [n1]; exact hk)] at hu
                exact n4.2 k u c hu hcc
          · cases he
        · rename_i id n
          split at he
          · rename_i es wr' n' cs hes
            split at he
            · rename_i hcc
              obtain ⟨rfl, hlid, hnm, hes2⟩ := hcc
              obtain ⟨hid, ⟨a0, c0, rfl⟩, h3⟩ := hx
              have hgv := (h3 es wr' n' cs hes).2 rfl
              obtain ⟨gv, hgv', hE⟩ := hs.ent id _ hes
              rw [hgv] at hgv'
              cases hgv'
              split at he
              · rename_i hm
                subst hm
                simp only [Option.some.injEq, Prod.mk.injEq] at he
                obtain ⟨rfl, rfl⟩ := he
                have hn : n' ≤ c0 := by
                  cases es with
                  | none => obtain ⟨h0, h1, _⟩ := hE; omega
                  | some es => obtain ⟨g, cap, cur, h0, _, h1, _⟩ := hE; cases h0; exact h1
                exact ⟨_, S, gh, w, run_append_zero hu hi hn ay capy, ⟨hid, ⟨a0, c0, rfl⟩, h3⟩, hs, Fr.refl _ _ _ _ _ _⟩
              · rename_i hm
                simp only [Option.some.injEq, Prod.mk.injEq] at he
                obtain ⟨rfl, rfl⟩ := he
                have hm0 : 0 < m := Nat.pos_of_ne_zero hm
                cases es with
                | none =>
                  obtain ⟨h0, rfl, rfl⟩ := hE
                  simp only [Value.slice.injEq, true_and] at h0
                  obtain ⟨rfl, rfl⟩ := h0
                  obtain ⟨cap, cur, w', q1, q2, q3, q4, q5, q6, q7⟩ := onNil (by omega) (by omega)
                  have := arr_upd (P := P) (n2 := m) (cs2 := news) hs hes hgv hlid hm0 (.inl rfl) q2.os q2.tape q2.output q2.size (fun b hb _ => q2.block b hb) q3 q4 q5 q6 hlen q7 (.inr ⟨Nat.le_refl _, fun b hb => q2.block b hb⟩) q1
                  simpa using this
                | some es =>
                  obtain rfl : es = (e, j.size) := by
                    rcases hes2 with h | h
                    · cases h
                    · cases h; rfl
                  obtain ⟨g, cap, cur, h0, hh, q1, q2, q3, q4, q5, q6⟩ := hE
                  simp only [Value.slice.injEq, true_and] at h0
                  obtain ⟨rfl, rfl⟩ := h0
                  obtain ⟨ad, nv, rfl, n1, n2, n3, n4⟩ := src (by omega)
                  have hxl : (cur.toList.take (n' * j.size)).length = n' * j.size := by
                    have : n' * j.size ≤ c0 * j.size := Nat.mul_le_mul_right _ q1
                    simp only [List.length_take, Array.length_toList, q3]
                    omega
                  have hold : Pw (fun u c => u.oneCell' = true ∧ RepV S w u c) (cur.toList.take (n' * j.size)) cs := by
                    refine ⟨by rw [hxl, q4], fun k u c hu hcc => ?_⟩
                    have hk : k < n' * j.size := by have := (List.getElem?_eq_some_iff.1 hu).1; omega
                    rw [List.getElem?_take_of_lt hk] at hu
                    exact q5 k u c hu hcc
                  have hall := hold.append n4
                  have hcsl : (cs ++ news).length = (n' + m) * j.size := by rw [List.length_append, q4, hlen, Nat.add_mul]
                  by_cases hroom : n' + m ≤ c0
                  · have hfit : n' * ti.size + nv.length ≤ cur.size := by
                      rw [hz2, n1, q3, ← Nat.add_mul]; exact Nat.mul_le_mul_right _ hroom
                    have hrun := run_append_room (P := P) w t ty e ti hu hi g n' c0 cur hh ad m capy nv (by rw [hz2]; exact n1) n2 n3 hroom hfit
                    rw [hz2] at hrun
                    obtain ⟨l2, hl2⟩ : ∃ l2, l2 = cur.toList.take (n' * j.size) ++ nv ++ cur.toList.drop (n' * j.size + nv.length) := ⟨_, rfl⟩
                    rw [← hl2] at hrun
                    have hl2len : l2.length = c0 * j.size := by
                      rw [hz2] at hfit
                      rw [hl2]
                      simp only [List.length_append, hxl, List.length_drop, Array.length_toList]
                      omega
                    have hl2k : ∀ (k : Nat), k < (n' + m) * j.size → l2[k]? = (cur.toList.take (n' * j.size) ++ nv)[k]? := by
                      intro k hk
                      rw [hl2, List.getElem?_append_left (by rw [List.length_append, hxl, n1, ← Nat.add_mul]; exact hk)]
                    refine arr_upd (P := P) (w' := w.setRow g l2.toArray) (n2 := n' + m) (cur2 := l2.toArray) hs hes hgv hlid (Nat.lt_add_of_pos_right hm0) (.inr rfl) rfl rfl rfl (by simp) (fun b hb hne => setRow_other w g b _ (fun e => hne (by rw [e]; rfl))) (setRow_heap w g cur _ e _ hh) hroom q2 (by rw [← hl2len]; rfl) hcsl (fun k u c hu hcc => ?_) (.inl ⟨rfl, fun o ho => ?_⟩) hrun
                    · have hk : k < (n' + m) * j.size := by have := (List.getElem?_eq_some_iff.1 hcc).1; omega
                      have hu' : l2[k]? = some u := hu
                      rw [hl2k k hk] at hu'
                      exact hall.2 k u c hu' hcc
                    · rw [cell_setRow_same w g o cur _ e _ hh, cell_heap hh]
                      have hk : o < (n' + m) * j.size := Nat.lt_of_lt_of_le ho (Nat.mul_le_mul_right _ (by omega))
                      rw [List.getElem?_toArray, hl2k o hk, List.getElem?_append_left (by rw [hxl]; exact ho), List.getElem?_take_of_lt ho]
                  · have holds : ∀ (k : Nat) (u : Value), (cur.toList.take (n' * j.size))[k]? = some u → w.cell? ((⟨g, 0, none⟩ : Addr).add k) = some u := by
                      intro k u hu
                      have hk : k < n' * j.size := by have := (List.getElem?_eq_some_iff.1 hu).1; omega
                      rw [List.getElem?_take_of_lt hk] at hu
                      rw [addr_add, Nat.zero_add, cell_heap hh]; exact hu
                    have hby2 : (n' + m) * ti.bytes ≤ 140737488355328 := by
                      rw [hz3]
                      have : (n' + m) * j.bytes ≤ 1000000000 * 100000 := Nat.mul_le_mul hnm hby
                      omega
                    have hrun := run_append_grow (P := P) w t ty e ti j.zero hu hi hz1 ⟨g, 0, none⟩ n' c0 (cur.toList.take (n' * j.size)) (by rw [hz2]; exact hxl) holds ad m capy nv (by rw [hz2]; exact n1) n2 (by omega) (by omega) (growslice_fits (by omega) hby2)
                    have hge := grownCap_ge w (n' + m) c0 e
                    have hcm : grownCap w (n' + m) c0 e ≤ maxLen := grownCap_le_maxLen w (n' + m) c0 e (by unfold maxLen; omega)
                    refine arr_upd (P := P) (w' := w.drew.alloc (.cells ((cur.toList.take (n' * j.size)).toArray ++ nv.toArray ++ Builtin.zeroCells j.zero.cells (grownCap w (n' + m) c0 e - (n' + m))) e)) (n2 := n' + m) hs hes hgv hlid (Nat.lt_add_of_pos_right hm0) (.inr rfl) rfl rfl rfl (by simp) (fun b hb _ => heap_alloc_old w.drew _ hb) (heap_alloc_new w.drew _) hge hcm ?_ hcsl (fun k u c hu hcc => ?_) (.inr ⟨Nat.le_refl _, fun b hb => heap_alloc_old w.drew _ hb⟩) hrun
                    · simp only [Array.size_append, List.size_toArray, size_zeroCells, hz4, hxl, n1, ← Nat.add_mul]
                      congr 1
                      omega
                    · have hk : k < (n' + m) * j.size := by have := (List.getElem?_eq_some_iff.1 hcc).1; omega
                      simp only [Array.toList_append] at hu
                      rw [List.getElem?_append_left (by rw [List.length_append, hxl, n1, ← Nat.add_mul]; exact hk)] at hu
                      exact hall.2 k u c hu hcc
            · cases he
          · cases he
        · cases he
      · cases he
    · cases he
  · cases he
end
end Go.Proofs.Ytghdanpigohnjaa
namespace Go.Proofs.Ytghdanpigohnjaa
open Go Go.RowKit

section
variable {P : Program} {T : Tab} {S : Stay} {gh : List Value} {sto : Sto} {w : World}
abbrev CellV (S : Stay) (w : World) : Value → V → Prop := fun u c => u.oneCell' = true ∧ RepV S w u c
theorem cellsV_rep (hs : SR S gh w sto) {v : Value} {d : D} {xs : List V} (h : RepD S gh sto w v d) (hc : cellsV sto d = some xs) : Pw (CellV S w) v.cells.toList xs := by
  unfold cellsV at hc
  split at hc
  · rename_i ds hd
    have hp := RepD.cells h hd
    obtain ⟨l1, l2⟩ := viewL_rep hs _ ds xs hp.1 (fun j u d hu hd => (hp.2 j u d hu hd).2) hc
    refine ⟨l1, fun j u c hu hcc => ⟨?_, l2 j u c hu hcc⟩⟩
    have hlt := (List.getElem?_eq_some_iff.1 hu).1
    exact (hp.2 j u _ hu (List.getElem?_eq_getElem (by rw [← hp.1]; exact hlt))).1
  · cases hc
theorem fillV_sound (hs : SR S gh w sto) (s : Nat) : ∀ (parts : List (Nat × D)) (vparts : List (Nat × Value)) (cs : List V) (arr : Array Value) (out : List V), Pw (fun (u : Nat × Value) (d : Nat × D) => u.1 = d.1 ∧ RepD S gh sto w u.2 d.2) vparts parts → Pw (CellV S w) arr.toList cs → fillV sto s cs parts = some out → ∃ arr', Instr.fill (fun i => some (i * s, s)) arr vparts = some arr' ∧ Pw (CellV S w) arr'.toList out
  | [], [], cs, arr, out, _, h, hf => by simp only [fillV, Option.some.injEq] at hf; subst hf; exact ⟨arr, rfl, h⟩
  | [], _ :: _, _, _, _, h, _, _ => by have := h.1; simp at this
  | _ :: _, [], _, _, _, h, _, _ => by have := h.1; simp at this
  | (i, d) :: parts, (i', v) :: vparts, cs, arr, out, hp, h, hf => by
    obtain ⟨hi, hv⟩ := hp.2 0 _ _ rfl rfl
    simp only at hi hv
    subst hi
    have hp' : Pw (fun (u : Nat × Value) (d : Nat × D) => u.1 = d.1 ∧ RepD S gh sto w u.2 d.2) vparts parts := by
      have := hp.drop 1; simpa using this
    simp only [fillV] at hf
    split at hf
    · rename_i ds h2
      split at hf
      · rename_i hc
        have hcl := cellsV_rep hs hv h2
        have hsz : v.cells.size = s := by rw [← Array.length_toList, hcl.1]; exact hc.1
        have harr : arr.size = cs.length := by rw [← Array.length_toList]; exact h.1
        have hfold := fold_set (i' * s) v.cells.toList 0 arr (by simp; omega)
        have key : (v.cells.zipIdx.foldl (fun cs (c, j) => cs.setIfInBounds (i' * s + j) c) arr).toList = arr.toList.take (i' * s) ++ v.cells.toList ++ arr.toList.drop (i' * s + s) := by
          rw [← Array.foldl_toList, Array.toList_zipIdx, hfold]
          simp [hsz]
        obtain ⟨arr', e1, e2⟩ := fillV_sound hs s parts vparts _ (v.cells.zipIdx.foldl (fun cs (c, j) => cs.setIfInBounds (i' * s + j) c) arr) out hp' (by rw [key]; exact ((h.take (i' * s)).append hcl).append (h.drop (i' * s + s))) hf
        refine ⟨arr', ?_, e2⟩
        simp only [Instr.fill]
        rw [if_neg (by simp; omega)]
        exact e1
      · cases hf
    · cases hf
theorem zeroV_rep (hst : ∀ b o, S b o → b < w.heap.size) {i : TyI} {z : List V} (h : zeroV i = some z) : Pw (CellV S w) i.zero.cells.toList z := by
  unfold zeroV at h
  split at h
  · rename_i ds hd
    have h0 : SR S [] w [] := ⟨rfl, fun i e h => by simp at h, fun i j g h => by simp [blkAt] at h, hst⟩
    have hp : Pw (fun u d => u.oneCell' = true ∧ RepC S [] [] w u d) i.zero.cells.toList ds := RepD.cells (ofVal_rep i.zero) hd
    obtain ⟨l1, l2⟩ := viewL_rep h0 _ ds z hp.1 (fun j u d hu hd => (hp.2 j u d hu hd).2) h
    refine ⟨l1, fun j u c hu hcc => ⟨?_, l2 j u c hu hcc⟩⟩
    have hlt := (List.getElem?_eq_some_iff.1 hu).1
    exact (hp.2 j u _ hu (List.getElem?_eq_getElem (by rw [← hp.1]; exact hlt))).1
  · cases h
theorem repl_get {α : Type} (z : List α) (hz : 0 < z.length) : ∀ (n j : Nat), j < n * z.length → ((List.replicate n z).flatten)[j]? = z[j % z.length]?
  | 0, j, h => by simp at h
  | n + 1, j, h => by
    rw [List.replicate_succ, List.flatten_cons]
    by_cases hj : j < z.length
    · rw [List.getElem?_append_left hj, Nat.mod_eq_of_lt hj]
    · rw [List.getElem?_append_right (by omega), repl_get z hz n (j - z.length) (by rw [Nat.succ_mul] at h; omega), ← Nat.mod_eq_sub_mod (by omega)]
theorem repl_len {α : Type} (z : List α) (n : Nat) : ((List.replicate n z).flatten).length = n * z.length := by
  induction n with
  | zero => simp
  | succ n ih => rw [List.replicate_succ, List.flatten_cons, List.length_append, ih, Nat.succ_mul]; omega
theorem made_rep {zs : Array Value} {z : List V} (h : Pw (CellV S w) zs.toList z) (hz : 0 < z.length) (n : Nat) (arr : Array Value) (ha : arr = (Array.range (n * zs.size)).map (zs[· % zs.size]!)) : Pw (CellV S w) arr.toList (repl n z) := by
  have hsz : zs.size = z.length := by rw [← Array.length_toList]; exact h.1
  subst ha
  refine ⟨by unfold repl; rw [repl_len]; simp [hsz], fun j u c hu hc => ?_⟩
  have hj : j < n * z.length := by have := (List.getElem?_eq_some_iff.1 hu).1; simpa [hsz] using this
  unfold repl at hc
  rw [repl_get z hz n j hj] at hc
  have hm : j % zs.size < zs.size := Nat.mod_lt _ (by omega)
  have hu' : zs.toList[j % z.length]? = some u := by
    rw [Array.getElem?_toList, ← hsz, Array.getElem?_eq_getElem hm]
    rw [Array.getElem?_toList] at hu
    simpa [hsz, hj, getElem!_pos, Nat.mod_lt _ hz] using hu
  exact h.2 _ u c hu' hc
/-- Cells of a block, none of which is frozen, written one by one. -/
theorem run_storeCells_fr (g o : Nat) (t : TypeId) (fr : Nat × Nat) : ∀ (vs : List Value) (i : Nat) (cur : Array Value) (w : World), w.heap[g]? = some (.cells cur t fr) → (fr = (0, 0) ∨ cur.size ≤ fr.1) → o + i + vs.length ≤ cur.size → (∀ v ∈ vs, v.oneCell' = true) →
    (storeCells ⟨g, o, none⟩ vs i).run P w = .ok () (w.setRow g (cur.toList.take (o + i) ++ vs ++ cur.toList.drop (o + i + vs.length)).toArray)
  | [], i, cur, w, hg, _, _, _ => by
    simp only [storeCells, List.append_nil, List.length_nil, Nat.add_zero, List.take_append_drop, Array.toArray_toList]
    rw [setRow_self w g cur t fr hg]
    rfl
  | v :: rest, i, cur, w, hg, hfr, hl, h1 => by
    have hi : o + i < cur.size := by simp at hl; omega
    have hadd : (⟨g, o, none⟩ : Addr).add i = ⟨g, o + i, none⟩ := by unfold Addr.add; split <;> simp_all
    have hcell : w.cell? ⟨g, o + i, none⟩ = some cur[o + i] := by simp [World.cell?, hg, hi]
    have hfro : w.frozen? ⟨g, o + i, none⟩ = false := by
      obtain ⟨f1, f2⟩ := fr
      simp only [World.frozen?, hg]
      rcases hfr with h | h
      · simp only [Prod.mk.injEq] at h
        simp [h.1, h.2]
      · simp only at h
        simp; omega
    have hst : (store ((⟨g, o, none⟩ : Addr).add i) v).run P w = .ok () (w.setRow g (cur.setIfInBounds (o + i) v)) := by
      rw [hadd, run_store P w _ v _ (h1 v (by simp)), hcell]
      simp [hfro, setCell_eq_setRow w g (o + i) cur t fr v hg]
    have ih := run_storeCells_fr g o t fr rest (i + 1) (cur.setIfInBounds (o + i) v) (w.setRow g (cur.setIfInBounds (o + i) v)) (setRow_heap w g cur _ t _ hg) (by simpa using hfr) (by simp at hl ⊢; omega) (fun x hx => h1 x (by simp [hx]))
    simp only [storeCells, Sem.run_bind, hst, Result.andThen_ok, ih, setRow_setRow]
    congr 3
    have e := list_seg_step cur.toList (o + i) v rest (by simp at hl ⊢; omega)
    simpa [Array.toList_setIfInBounds, Nat.add_assoc] using e
/-- A store into a box. -/
theorem store_box {lo id g : Nat} {cs ds : List D} {vs : List Value} {off : Nat} (hs : SR S gh w sto) (hes : sto[id]? = some (.cells cs)) (hg : gh[id]? = some (.pointer (some ⟨g, 0, none⟩))) (hlid : lo ≤ id) (hv : Pw (fun u d => u.oneCell' = true ∧ RepC S gh sto w u d) vs ds) (hfit : off + ds.length ≤ cs.length) :
    ∃ gh' w', (storeCells ⟨g, off, none⟩ vs).run P w = .ok () w' ∧ SR S gh' w' (sto.set id (.cells (cs.take off ++ ds ++ cs.drop (off + ds.length)))) ∧ Fr sto.length lo S gh w sto S gh' w' (sto.set id (.cells (cs.take off ++ ds ++ cs.drop (off + ds.length)))) := by
  obtain ⟨gv, hgv, hE⟩ := hs.ent id _ hes
  rw [hg] at hgv
  cases hgv
  obtain ⟨g', cur, ty, h0, hh, h1, h2, h3⟩ := hE
  cases h0
  have hone : ∀ u ∈ vs, u.oneCell' = true := by
    intro u hu
    obtain ⟨k, hk⟩ := List.mem_iff_getElem?.1 hu
    have hlt := (List.getElem?_eq_some_iff.1 hk).1
    exact (hv.2 k u _ hk (List.getElem?_eq_getElem (by rw [← hv.1]; exact hlt))).1
  have hrun := run_storeCells_fr (P := P) g off ty.1 ty.2 vs 0 cur w hh h1.1 (by rw [← Array.length_toList, hv.1]; omega) hone
  obtain ⟨l2, hl2⟩ : ∃ l2, l2 = cur.toList.take off ++ vs ++ cur.toList.drop (off + ds.length) := ⟨_, rfl⟩
  have hcl := h1.2
  have hl2len : l2.length = cur.size := by
    rw [hl2]
    simp only [List.length_append, List.length_take, List.length_drop, hv.1]
    rw [← Array.length_toList]
    omega
  have hall : ∀ (k : Nat) (u : Value) (d : D), l2[k]? = some u → (cs.take off ++ ds ++ cs.drop (off + ds.length))[k]? = some d → u.oneCell' = true ∧ RepC S gh sto w u d := by
    have hp1 : Pw (fun u d => u.oneCell' = true ∧ RepC S gh sto w u d) (cur.toList.take off) (cs.take off) := by
      refine ⟨by simp only [List.length_take]; omega, fun k u c hu hc => ?_⟩
      have hk : k < off := by have := (List.getElem?_eq_some_iff.1 hu).1; simp only [List.length_take] at this; omega
      rw [List.getElem?_take_of_lt hk] at hu hc
      exact h3 k u c hu hc
    have hp2 := hp1.append hv
    intro k u c hu hc
    by_cases hk : k < (cs.take off ++ ds).length
    · rw [List.getElem?_append_left hk] at hc
      rw [hl2, List.getElem?_append_left (by rw [hp2.1]; exact hk)] at hu
      exact hp2.2 k u c hu hc
    · have hkk : (cs.take off ++ ds).length ≤ k := by omega
      rw [List.getElem?_append_right hkk, List.getElem?_drop] at hc
      rw [hl2, List.getElem?_append_right (by rw [hp2.1]; exact hkk), List.getElem?_drop, hp2.1] at hu
      exact h3 _ u c hu hc
  have hblock : ∀ b, b < w.heap.size → blk (.pointer (some ⟨g, 0, none⟩)) ≠ some b → (w.setRow g l2.toArray).heap[b]? = w.heap[b]? := fun b _ hne => setRow_other w g b _ (fun e => hne (by rw [e]; rfl))
  have hst : ∀ b o, S b o → S b o ∧ (w.setRow g l2.toArray).cell? ⟨b, o, none⟩ = w.cell? ⟨b, o, none⟩ := fun b o h => ⟨h, World.cell?_of_block (w := w) (setRow_other w g b _ (fun e => h2 o (by rw [← e]; exact h)))⟩
  have hlen : (cs.take off ++ ds ++ cs.drop (off + ds.length)).length = cs.length := by
    simp only [List.length_append, List.length_take, List.length_drop]; omega
  have hf : Fr sto.length lo S gh w sto S (gh.set id (.pointer (some ⟨g, 0, none⟩))) (w.setRow g l2.toArray) (sto.set id (.cells (cs.take off ++ ds ++ cs.drop (off + ds.length)))) := upd_fr hes hg hlid rfl rfl rfl (by simp) hblock hst (fun g hg => .inl hg) ⟨rfl, hlen⟩
  refine ⟨_, _, ?_, upd_sr hs hes hg hf hblock (fun b o h => .inl h) (fun g hg => .inl hg) ⟨g, l2.toArray, ty, rfl, setRow_heap w g cur _ ty.1 _ hh, ⟨by have := h1.1; rw [show l2.toArray.size = cur.size from hl2len]; exact this, by rw [hlen]; show cs.length ≤ l2.length; rw [hl2len, ← Array.length_toList]; exact hcl⟩, h2, fun k u d hu hd => ?_⟩, hf⟩
  · rw [hrun, hl2, Nat.add_zero, hv.1]
  · have := hall k u d hu hd
    exact ⟨this.1, RepC.mono hs hf this.2⟩
/-- A store into a slice of the call's own. -/
theorem store_arr {lo id g n : Nat} {es : Option (TypeId × Nat)} {cs xs : List V} {vs : List Value} {off : Nat} (hs : SR S gh w sto) (hes : sto[id]? = some (.arr es true n cs)) (hg : blkAt gh id = some g) (hlid : lo ≤ id) (hv : Pw (CellV S w) vs xs) (hfit : off + xs.length ≤ cs.length) :
    ∃ gh' w', (storeCells ⟨g, off, none⟩ vs).run P w = .ok () w' ∧ SR S gh' w' (sto.set id (.arr es true n (cs.take off ++ xs ++ cs.drop (off + xs.length)))) ∧ Fr sto.length lo S gh w sto S gh' w' (sto.set id (.arr es true n (cs.take off ++ xs ++ cs.drop (off + xs.length)))) := by
  obtain ⟨gv, hgv, hE⟩ := hs.ent id _ hes
  unfold blkAt at hg
  rw [hgv] at hg
  cases es with
  | none => obtain ⟨rfl, _⟩ := hE; simp [blk] at hg
  | some es =>
    obtain ⟨e, s⟩ := es
    obtain ⟨g', cap, cur, rfl, hh, q1, q2, q3, q4, q5, q6⟩ := hE
    simp only [Option.bind_some, blk, Option.some.injEq] at hg
    subst hg
    simp only [if_true] at q6
    have hone : ∀ u ∈ vs, u.oneCell' = true := by
      intro u hu
      obtain ⟨k, hk⟩ := List.mem_iff_getElem?.1 hu
      have hlt := (List.getElem?_eq_some_iff.1 hk).1
      exact (hv.2 k u _ hk (List.getElem?_eq_getElem (by rw [← hv.1]; exact hlt))).1
    have hcl : cs.length ≤ cur.size := by rw [q3, q4]; exact Nat.mul_le_mul_right _ q1
    have hrun := run_storeCells_at (P := P) g' off e vs 0 cur w hh (by rw [hv.1]; omega) hone
    obtain ⟨l2, hl2⟩ : ∃ l2, l2 = cur.toList.take off ++ vs ++ cur.toList.drop (off + xs.length) := ⟨_, rfl⟩
    have hl2len : l2.length = cur.size := by
      rw [hl2]
      simp only [List.length_append, List.length_take, List.length_drop, Array.length_toList, hv.1]
      omega
    have hall : ∀ (k : Nat) (u : Value) (c : V), l2[k]? = some u → (cs.take off ++ xs ++ cs.drop (off + xs.length))[k]? = some c → u.oneCell' = true ∧ RepV S w u c := by
      have hp1 : Pw (CellV S w) (cur.toList.take off) (cs.take off) := by
        refine ⟨by simp only [List.length_take, Array.length_toList]; omega, fun k u c hu hc => ?_⟩
        have hk : k < off := by have := (List.getElem?_eq_some_iff.1 hu).1; simp only [List.length_take] at this; omega
        rw [List.getElem?_take_of_lt hk] at hu hc
        exact q5 k u c hu hc
      have hp2 := hp1.append hv
      intro k u c hu hc
      by_cases hk : k < (cs.take off ++ xs).length
      · rw [List.getElem?_append_left hk] at hc
        rw [hl2, List.getElem?_append_left (by rw [hp2.1]; exact hk)] at hu
        exact hp2.2 k u c hu hc
      · have hkk : (cs.take off ++ xs).length ≤ k := by omega
        rw [List.getElem?_append_right hkk, List.getElem?_drop] at hc
        rw [hl2, List.getElem?_append_right (by rw [hp2.1]; exact hkk), List.getElem?_drop, hp2.1] at hu
        exact q5 _ u c hu hc
    have hblock : ∀ b, b < w.heap.size → blk (.slice (some ⟨g', 0, none⟩) n cap) ≠ some b → (w.setRow g' l2.toArray).heap[b]? = w.heap[b]? := fun b _ hne => setRow_other w g' b _ (fun e => hne (by rw [e]; rfl))
    have hst : ∀ b o, S b o → S b o ∧ (w.setRow g' l2.toArray).cell? ⟨b, o, none⟩ = w.cell? ⟨b, o, none⟩ := fun b o h => ⟨h, World.cell?_of_block (w := w) (setRow_other w g' b _ (fun e => q6 o (by rw [← e]; exact h)))⟩
    have hlen : (cs.take off ++ xs ++ cs.drop (off + xs.length)).length = n * s := by
      simp only [List.length_append, List.length_take, List.length_drop]; omega
    have hf : Fr sto.length lo S gh w sto S (gh.set id (.slice (some ⟨g', 0, none⟩) n cap)) (w.setRow g' l2.toArray) (sto.set id (.arr (some (e, s)) true n (cs.take off ++ xs ++ cs.drop (off + xs.length)))) := upd_fr hes hgv hlid rfl rfl rfl (by simp) hblock hst (fun g hg => .inl hg) ⟨Nat.le_refl _, fun _ => rfl⟩
    refine ⟨_, _, ?_, upd_sr hs hes hgv hf hblock (fun b o h => .inl h) (fun g hg => .inl hg) ⟨g', cap, l2.toArray, rfl, setRow_heap w g' cur _ e _ hh, q1, q2, by rw [← q3, ← hl2len]; rfl, hlen, fun k u c hu hc => ?_, by simpa using q6⟩, hf⟩
    · rw [hrun, hl2, Nat.add_zero, hv.1]
    · have := hall k u c hu hc
      exact ⟨this.1, RepV.mono hf.stable this.2⟩
end
end Go.Proofs.Ytghdanpigohnjaa
namespace Go.Proofs.Ytghdanpigohnjaa
open Go Go.RowKit

section
variable {P : Program} {T : Tab} {S : Stay} {gh : List Value} {sto : Sto} {w : World}
def setO (w : World) (g : Nat) (o : Obj) : World := { w with heap := w.heap.setIfInBounds g o }
theorem setO_same {g : Nat} {o o' : Obj} (h : w.heap[g]? = some o) : (setO w g o').heap[g]? = some o' := by
  have := (Array.getElem?_eq_some_iff.1 h).1
  simp [setO, this]
theorem setO_other {g b : Nat} {o' : Obj} (h : b ≠ g) : (setO w g o').heap[b]? = w.heap[b]? := by
  simp only [setO]
  rw [Array.getElem?_setIfInBounds_ne (fun e => h e.symm)]
abbrev EntR (S : Stay) (w : World) (k : IntKind) : MapEntry → Int × V → Prop := fun e kv => e.key = .int k kv.1 ∧ RepV S w e.val kv.2
theorem map_upd {lo id g clock clock' : Nat} {k : IntKind} {kvs kvs' : List (Int × V)} {es es' : Array MapEntry} (hs : SR S gh w sto) (hes : sto[id]? = some (.map k kvs)) (hg : gh[id]? = some (.map (some g))) (hlid : lo ≤ id) (hb : w.heap[g]? = some (.map es clock)) (hp : Pw (EntR S w k) es'.toList kvs') (hsp : MapKept.Stamped es' clock') :
    ∃ gh', SR S gh' (setO w g (.map es' clock')) (sto.set id (.map k kvs')) ∧ Fr sto.length lo S gh w sto S gh' (setO w g (.map es' clock')) (sto.set id (.map k kvs')) := by
  obtain ⟨gv, hgv, hE⟩ := hs.ent id _ hes
  rw [hg] at hgv
  cases hgv
  obtain ⟨g', es0, c0, h0, hh, h1, _⟩ := hE
  cases h0
  have hblock : ∀ b, b < w.heap.size → blk (.map (some g)) ≠ some b → (setO w g (.map es' clock')).heap[b]? = w.heap[b]? := fun b _ hne => setO_other (fun e => hne (by rw [e]; rfl))
  have hst : ∀ b o, S b o → S b o ∧ (setO w g (.map es' clock')).cell? ⟨b, o, none⟩ = w.cell? ⟨b, o, none⟩ := fun b o h => ⟨h, World.cell?_of_block (w := w) (setO_other (fun e => h1 o (by rw [← e]; exact h)))⟩
  have hf : Fr sto.length lo S gh w sto S (gh.set id (.map (some g))) (setO w g (.map es' clock')) (sto.set id (.map k kvs')) := upd_fr hes hg hlid rfl rfl rfl (by simp [setO]) hblock hst (fun g hg => .inl hg) ⟨rfl, rfl⟩
  refine ⟨_, upd_sr hs hes hg hf hblock (fun b o h => .inl h) (fun g hg => .inl hg) ⟨g, es', clock', rfl, setO_same hb, h1, hsp, hp.1, fun j e kv he hk => ?_⟩, hf⟩
  have := hp.2 j e kv he hk
  exact ⟨this.1, RepV.mono hf.stable this.2⟩
theorem findNow_shift {d : TypeDesc} {x : Value} : ∀ (l : List MapEntry) (i : Nat) (r : Nat × Value), Instr.findNow d x l i = some (some r) → i ≤ r.1 ∧ ∀ i', Instr.findNow d x l i' = some (some (r.1 - i + i', r.2))
  | [], i, r, h => by simp [Instr.findNow] at h
  | e :: l, i, r, h => by
    unfold Instr.findNow at h
    cases hs : Instr.sameNow d x e.key with
    | none => rw [hs] at h; cases h
    | some b =>
      rw [hs] at h
      cases b with
      | true =>
        simp only [Option.some.injEq] at h
        subst h
        refine ⟨Nat.le_refl _, fun i' => ?_⟩
        unfold Instr.findNow
        rw [hs]
        simp
      | false =>
        obtain ⟨a, b⟩ := findNow_shift l (i + 1) r h
        refine ⟨by omega, fun i' => ?_⟩
        unfold Instr.findNow
        rw [hs]
        simp only
        rw [b (i' + 1)]
        congr 3
        omega
theorem mput_hit {k : IntKind} {n : Int} {y : V} {v : Value} (hv : RepV S w v y) : ∀ (es : List MapEntry) (kvs : List (Int × V)) (j : Nat) (e : MapEntry), Pw (EntR S w k) es kvs → (∀ i, Instr.findNow (.int k) (.int k n) es i = some (some (i + j, e.val))) → es[j]? = some e → e.key = .int k n →
    Pw (EntR S w k) (es.modify j fun e => { e with key := .int k n, val := v }) (mput kvs n y)
  | [], kvs, j, e, _, _, hj, _ => by simp at hj
  | e0 :: es, [], j, e, h, _, _, _ => by have := h.1; simp at this
  | e0 :: es, (k0, u) :: kvs, j, e, h, hf, hj, hk => by
    have h0 : e0.key = .int k k0 ∧ RepV S w e0.val u := h.2 0 e0 (k0, u) rfl rfl
    have h' : Pw (EntR S w k) es kvs := by have := h.drop 1; simpa using this
    have h1 := h0.1
    by_cases hn : n = k0
    · subst hn
      have : j = 0 := by
        have := hf 0
        simp [Instr.findNow, Instr.sameNow, h1] at this
        omega
      subst this
      simp only [List.modify_zero_cons, mput, if_true]
      exact Pw.cons ⟨rfl, hv⟩ h'
    · have hb : (n == k0) = false := by simp [hn]
      have step : ∀ i, Instr.findNow (.int k) (.int k n) (e0 :: es) i = Instr.findNow (.int k) (.int k n) es (i + 1) := by
        intro i
        simp [Instr.findNow, Instr.sameNow, h1, hb]
      cases j with
      | zero =>
        simp only [List.getElem?_cons_zero, Option.some.injEq] at hj
        subst hj
        rw [h1] at hk
        simp only [Value.int.injEq, true_and] at hk
        exact absurd hk.symm hn
      | succ j =>
        simp only [List.modify_succ_cons, mput, if_neg hn]
        refine Pw.cons h0 (mput_hit hv es kvs j e h' (fun i => ?_) (by simpa using hj) hk)
        cases i with
        | zero =>
          -- the index is told by the one that is one further
          have := hf 0
          rw [step] at this
          have := (findNow_shift es 1 _ this).2 0
          simpa using this
        | succ i =>
          have := hf i
          rw [step] at this
          rw [this]
          congr 3
          omega
theorem mput_miss {k : IntKind} {n : Int} {y : V} {v : Value} {b : Nat} (hv : RepV S w v y) : ∀ (es : List MapEntry) (kvs : List (Int × V)), Pw (EntR S w k) es kvs → mget kvs n = none → Pw (EntR S w k) (es ++ [{ key := .int k n, val := v, born := b }]) (mput kvs n y)
  | [], [], _, _ => Pw.cons ⟨rfl, hv⟩ Pw.nil
  | [], _ :: _, h, _ => by have := h.1; simp at this
  | _ :: _, [], h, _ => by have := h.1; simp at this
  | e0 :: es, (k0, u) :: kvs, h, hm => by
    have h' : Pw (EntR S w k) es kvs := by have := h.drop 1; simpa using this
    unfold mget at hm
    split at hm
    · cases hm
    · rename_i hn
      simp only [mput, if_neg hn, List.cons_append]
      exact Pw.cons (h.2 0 _ _ rfl rfl) (mput_miss hv es kvs h' hm)
theorem mget_none {n : Int} : ∀ {kvs : List (Int × V)}, mget kvs n = none → ∀ kv ∈ kvs, kv.1 ≠ n
  | (k0, u) :: kvs, hm, kv, h => by
    unfold mget at hm
    split at hm
    · cases hm
    · rename_i hn
      rcases List.mem_cons.1 h with rfl | h
      · exact fun e => hn e.symm
      · exact mget_none hm kv h
theorem mdel_miss {n : Int} : ∀ (kvs : List (Int × V)), mget kvs n = none → mdel kvs n = kvs
  | [], _ => rfl
  | (k0, u) :: kvs, hm => by
    unfold mget at hm
    split at hm
    · cases hm
    · rename_i hn
      simp only [mdel, if_neg hn, mdel_miss kvs hm]
theorem mdel_hit {k : IntKind} {n : Int} : ∀ (es : List MapEntry) (kvs : List (Int × V)) (i : Nat) (r : Nat × Value), Pw (EntR S w k) es kvs → Instr.findNow (.int k) (.int k n) es i = some (some r) → i ≤ r.1 ∧ Pw (EntR S w k) (es.eraseIdx (r.1 - i)) (mdel kvs n)
  | [], kvs, i, r, _, h => by simp [Instr.findNow] at h
  | e0 :: es, [], i, r, h, _ => by have := h.1; simp at this
  | e0 :: es, (k0, u) :: kvs, i, r, h, hf => by
    have h0 : e0.key = .int k k0 ∧ RepV S w e0.val u := h.2 0 e0 (k0, u) rfl rfl
    have h1 := h0.1
    have h' : Pw (EntR S w k) es kvs := by have := h.drop 1; simpa using this
    by_cases hn : n = k0
    · subst hn
      simp [Instr.findNow, Instr.sameNow, h1] at hf
      subst hf
      simp only [Nat.sub_self, List.eraseIdx_zero, List.tail_cons, mdel, if_true]
      exact ⟨Nat.le_refl _, h'⟩
    · have hb : (n == k0) = false := by simp [hn]
      have step : Instr.findNow (.int k) (.int k n) (e0 :: es) i = Instr.findNow (.int k) (.int k n) es (i + 1) := by
        simp [Instr.findNow, Instr.sameNow, h1, hb]
      rw [step] at hf
      obtain ⟨a, b⟩ := mdel_hit es kvs (i + 1) r h' hf
      refine ⟨by omega, ?_⟩
      rw [show r.1 - i = (r.1 - (i + 1)) + 1 from by omega, List.eraseIdx_cons_succ]
      simp only [mdel, if_neg hn]
      exact Pw.cons h0 b
theorem setObj_run {g : Nat} {o : Obj} {es : Array MapEntry} {clock : Nat} (hb : w.heap[g]? = some (.map es clock)) : (setObj g o).run P w = .ok () (setO w g o) := MapKept.run_setObj_map o hb
variable (hT : T.OK P)
include hT
theorem evMakeMap_eff {lo : Nat} (hlo : lo ≤ sto.length) (hs : SR S gh w sto) {t : TypeId} {r : Option D} {vr : Option Value} {d : D} {sto' : Sto} (hr : ∀ x, r = some x → ∃ v, vr = some v ∧ RepD S gh sto w v x) (hr0 : r = none → vr = none) (he : evMakeMap T sto t r = some (d, sto')) : Eff P lo S gh w sto (Instr.makeMap t vr) d sto' := by
  unfold evMakeMap at he
  split at he
  · rename_i kt et ht
    have hu := kd_map hT ht
    have go : ∀ k : IntKind, (Instr.makeMap t vr).run P w = .ok (.map (some w.heap.size)) (w.alloc (.map #[] 0)) → Eff P lo S gh w sto (Instr.makeMap t vr) (.map sto.length) (sto ++ [.map k []]) := by
      intro k hrun
      have hb := below_new w (.map #[] 0)
      have hnew : ∀ g, blk (.map (some w.heap.size)) = some g → w.heap.size ≤ g := by
        intro g hg
        simp only [blk, Option.some.injEq] at hg
        omega
      have hf : Fr sto.length lo S gh w sto S (gh ++ [.map (some w.heap.size)]) (w.alloc (.map #[] 0)) (sto ++ [.map k []]) := push_fr hs hlo hb (fun _ _ h => h) hnew
      refine ⟨_, S, _, _, hrun, ⟨by simp, w.heap.size, ?_, rfl⟩, push_sr hs hf hb (fun b o h => .inl h) hnew ⟨w.heap.size, #[], 0, rfl, heap_alloc_new w _, fun o ho => ?_, MapKept.stamped_empty 0, rfl, fun j e kv he _ => by simp at he⟩, hf⟩
      · rw [← hs.len]; simp
      · have := hs.stay _ _ ho; omega
    split at he
    · rename_i k hk
      simp only [Option.some.injEq, Prod.mk.injEq] at he
      obtain ⟨rfl, rfl⟩ := he
      obtain rfl := hr0 rfl
      exact go k rfl
    · rename_i k k2 n hk
      simp only [Option.some.injEq, Prod.mk.injEq] at he
      obtain ⟨rfl, rfl⟩ := he
      obtain ⟨v, rfl, hv⟩ := hr _ rfl
      obtain rfl := RepV.int_inv hv
      refine go k ?_
      simp [Instr.makeMap, run_underlying hu, asInt, asIntOf]
    · cases he
  · cases he
omit hT in
theorem map_at (hs : SR S gh w sto) {id : Nat} {k : IntKind} {kvs : List (Int × V)} {v : Value} (hx : RepC S gh sto w v (.map id)) (hes : sto[id]? = some (.map k kvs)) : ∃ g es clock, v = .map (some g) ∧ gh[id]? = some (.map (some g)) ∧ w.heap[g]? = some (.map es clock) ∧ Pw (EntR S w k) es.toList kvs ∧ MapKept.Stamped es clock := by
  obtain ⟨_, g, hg, rfl⟩ := hx
  obtain ⟨gv, hgv, hE⟩ := hs.ent id _ hes
  rw [hg] at hgv
  cases hgv
  obtain ⟨g', es, clock, h1, h2, h3, hsp, h4, h5⟩ := hE
  cases h1
  exact ⟨g, es, clock, rfl, hg, h2, ⟨h4, h5⟩, hsp⟩
theorem evUpdate_eff {lo : Nat} (hs : SR S gh w sto) {t : TypeId} {m key val d : D} {vm vk vv : Value} {sto' : Sto} (hm : RepD S gh sto w vm m) (hk : RepD S gh sto w vk key) (hv : RepD S gh sto w vv val) (he : evUpdate T lo sto t m key val = some (d, sto')) :
    d = .undef ∧ ∃ gh' w', (Instr.mapUpdate t vm vk vv).run P w = .ok () w' ∧ SR S gh' w' sto' ∧ Fr sto.length lo S gh w sto S gh' w' sto' := by
  unfold evUpdate at he
  split at he
  · rename_i kt et id k' n y ht hy
    have hu := kd_map hT ht
    obtain rfl := RepV.int_inv hk
    have hvr := view_rep hs hv hy
    split at he
    · rename_i k k2 kvs hkt hes
      have hku := kd_int hT hkt
      split at he
      · rename_i hc
        obtain ⟨rfl, rfl, hlid⟩ := hc
        simp only [Option.some.injEq, Prod.mk.injEq] at he
        obtain ⟨rfl, rfl⟩ := he
        refine ⟨rfl, ?_⟩
        obtain ⟨g, es, clock, rfl, hg, hb, hp, hsp⟩ := map_at hs hm hes
        have fnd := fun i => findNow_rep (S := S) (w := w) n es.toList kvs i hp.1 hp.2
        rcases fnd 0 with ⟨a, b⟩ | ⟨j, e, v, a, b, c, c2, c3⟩
        · obtain ⟨gh', q1, q2⟩ := map_upd (es' := es.push { key := .int k2 n, val := vv, born := clock }) (clock' := clock + 1) hs hes hg hlid hb (kvs' := mput kvs n y) (by
            rw [Array.toList_push]; exact mput_miss hvr _ _ hp a) (MapKept.stamped_push hsp fun x hx e => by
              obtain ⟨i, hi⟩ := List.getElem?_of_mem hx
              obtain ⟨kv, hkv⟩ : ∃ kv, kvs[i]? = some kv := ⟨_, List.getElem?_eq_getElem (by rw [← hp.1]; exact (List.getElem?_eq_some_iff.1 hi).1)⟩
              have h1 := (hp.2 i x kv hi hkv).1
              rw [h1] at e
              simp only [Value.int.injEq, true_and] at e
              exact mget_none a kv (List.mem_of_getElem? hkv) e)
          refine ⟨gh', _, ?_, q1, q2⟩
          simp only [Instr.mapUpdate, Sem.run_bind, run_underlying hu, Result.andThen_ok, getObj_map hb, checkKey_int hku, findKey_int hku b, setObj_run hb]
        · rw [Nat.zero_add] at b
          have hall : ∀ i, Instr.findNow (.int k2) (.int k2 n) es.toList i = some (some (i + j, e.val)) := by
            intro i
            have := (findNow_shift es.toList 0 _ b).2 i
            rw [this]
            congr 3
            simp only
            omega
          obtain ⟨gh', q1, q2⟩ := map_upd (es' := es.modify j fun e => { e with key := .int k2 n, val := vv }) (clock' := clock) hs hes hg hlid hb (kvs' := mput kvs n y) (by
            rw [Array.toList_modify]; exact mput_hit hvr _ _ j e hp hall c c2) (MapKept.stamped_modify hsp j _ (fun _ _ => rfl) fun x _ hx => by
              have hej : es[j]? = some e := by rw [← Array.getElem?_toList]; exact c
              rw [hej] at hx
              cases hx
              exact c2.symm)
          refine ⟨gh', _, ?_, q1, q2⟩
          have hej : es[j]? = some e := by rw [← Array.getElem?_toList]; exact c
          have hks : (Instr.keyThatStays (.int k2 n) (.int k2 n)).run P w = .ok (.int k2 n) w := by
            simp [Instr.keyThatStays, Instr.sameBits]
          simp only [Instr.mapUpdate, Sem.run_bind, run_underlying hu, Result.andThen_ok, getObj_map hb, checkKey_int hku, findKey_int hku b, hej, Option.map_some, Option.getD_some, c2, hks, setObj_run hb]
      · cases he
    · cases he
  · cases he
theorem evDelete_eff {lo : Nat} (hs : SR S gh w sto) {t t2 ty : TypeId} {m key d : D} {vm vk : Value} {sto' : Sto} (hm : RepD S gh sto w vm m) (hk : RepD S gh sto w vk key) (he : evDelete T lo sto t m key = some (d, sto')) : Eff P lo S gh w sto (Builtin.delete_ #[t, t2] ty #[vm, vk]) d sto' := by
  unfold evDelete at he
  split at he
  · rename_i kt et id k' n ht
    have hu := kd_map hT ht
    obtain rfl := RepV.int_inv hk
    split at he
    · rename_i k k2 kvs hkt hes
      have hku := kd_int hT hkt
      split at he
      · rename_i hc
        obtain ⟨rfl, rfl, hlid⟩ := hc
        simp only [Option.some.injEq, Prod.mk.injEq] at he
        obtain ⟨rfl, rfl⟩ := he
        obtain ⟨g, es, clock, rfl, hg, hb, hp, hsp⟩ := map_at hs hm hes
        have tup : ∀ S' gh' sto' w', RepD S' gh' sto' w' (.tuple #[]) (.v (.tup [])) := fun _ _ _ _ => RepV.tup [] [] rfl fun j u c hu _ => by simp at hu
        rcases findNow_rep (S := S) (w := w) n es.toList kvs 0 hp.1 hp.2 with ⟨a, b⟩ | ⟨j, e, v, a, b, c, c2, c3⟩
        · rw [mdel_miss kvs a]
          obtain ⟨gh', q1, q2⟩ := map_upd (es' := es) (clock' := clock) hs hes hg hlid hb hp hsp
          refine ⟨_, S, gh', _, ?_, tup _ _ _ _, q1, q2⟩
          simp [Builtin.delete_, run_underlying hu, getObj_map hb, checkKey_int hku, findKey_int hku b, setObj_run hb]
        · rw [Nat.zero_add] at b
          obtain ⟨_, hd⟩ := mdel_hit es.toList kvs 0 _ hp b
          obtain ⟨gh', q1, q2⟩ := map_upd (es' := es.eraseIdxIfInBounds j) (clock' := clock) hs hes hg hlid hb (kvs' := mdel kvs n) (by
            rw [Array.toList_eraseIdxIfInBounds]; exact hd) (MapKept.stamped_erase hsp j)
          refine ⟨_, S, gh', _, ?_, tup _ _ _ _, q1, q2⟩
          simp [Builtin.delete_, run_underlying hu, getObj_map hb, checkKey_int hku, findKey_int hku b, setObj_run hb]
      · cases he
    · cases he
  · cases he
theorem evClear_eff {lo : Nat} (hs : SR S gh w sto) {t ty : TypeId} {x d : D} {vx : Value} {sto' : Sto} (hx : RepD S gh sto w vx x) (he : evClear T lo sto t x = some (d, sto')) : Eff P lo S gh w sto (Builtin.clear_ #[t] ty #[vx]) d sto' := by
  unfold evClear at he
  split at he
  · rename_i e id n o m ht hw
    have hu := kd_slice hT ht
    obtain ⟨es, wr, cs, g, o', c, q1, q2, rfl, q3, q4, q5⟩ := ownWin_rep hs hx hw
    simp only at q1 q2 q3 q5
    split at he
    · rename_i j hj
      obtain ⟨ti, hi, hz1, hz2, hz3, hz4⟩ := tab_full hT hj
      split at he
      · rename_i z es2 k cs2 hz hes
        rw [q1] at hes
        cases hes
        split at he
        · rename_i hc
          obtain ⟨c1, _, c2, c3, c4⟩ := hc
          have tup : ∀ S' gh' sto' w', RepD S' gh' sto' w' (.tuple #[]) (.v (.tup [])) := fun _ _ _ _ => RepV.tup [] [] rfl fun j u c hu _ => by simp at hu
          simp only [Option.some.injEq, Prod.mk.injEq] at he
          obtain ⟨rfl, rfl⟩ := he
          by_cases hm : m = 0
          · subst hm
            rw [if_pos rfl]
            refine ⟨.tuple #[], S, gh, w, ?_, tup _ _ _ _, hs, Fr.refl _ _ _ _ _ _⟩
            simp [Builtin.clear_, run_underlying hu]
          · rw [if_neg hm]
            obtain rfl := q5 (by omega)
            have hzr := zeroV_rep hs.stay hz
            have hmr := made_rep (S := S) (w := w) hzr (by omega) m ((Array.range (m * j.zero.cells.size)).map (j.zero.cells[· % j.zero.cells.size]!)) rfl
            have hlen : (repl m z).length = m * j.size := by unfold repl; rw [repl_len, c2]
            obtain ⟨gh', w', r1, r2, r3⟩ := store_arr (P := P) hs q1 q2 c1 hmr (by rw [hlen]; exact c4)
            rw [hlen] at r2 r3
            refine ⟨.tuple #[], S, gh', w', ?_, tup _ _ _ _, r2, r3⟩
            obtain ⟨m', rfl⟩ : ∃ m', m = m' + 1 := ⟨m - 1, by omega⟩
            have hzc : (Builtin.zeroCells j.zero.cells (m' + 1)).toList = ((Array.range ((m' + 1) * j.zero.cells.size)).map (j.zero.cells[· % j.zero.cells.size]!)).toList := by
              rfl
            simp only [Builtin.clear_, List.getElem?_toArray, List.getElem?_cons_zero, Sem.run_bind, run_underlying hu, Result.andThen_ok, run_zero hT hj, hzc, r1, Sem.run_pure]
        · cases he
      · cases he
    · cases he
  · cases he
end
end Go.Proofs.Ytghdanpigohnjaa
namespace Go.Proofs.Ytghdanpigohnjaa
open Go Go.RowKit
theorem run_append_room_zeros {P : Program} (w : World) (t tn ty e : TypeId) (i : TypeInfo) (z : Value) (kq kn : IntKind) (ht : P.underlying t = some (.slice e)) (htn : P.underlying tn = some (.int kn)) (hi : P.info? e = some i) (hz : i.zero = some z)
    (g sLen sCap : Nat) (cur : Array Value) (hg : w.heap[g]? = some (.cells cur e (0, 0))) (k : Nat) (h0 : 0 < k) (hs : 0 < i.size) (hzs : z.cells.size = i.size) (h1 : ∀ u ∈ (Builtin.zeroCells z.cells k).toList, u.oneCell' = true)
    (hroom : sLen + k ≤ sCap) (hfit : (sLen + k) * i.size ≤ cur.size) (h63 : k ≤ 9223372036854775807) (h48 : k * i.bytes ≤ 281474976710656) :
    (Builtin.append_ #[t, tn] ty #[.slice (some ⟨g, 0, none⟩) sLen sCap, .int kq k]).run P w =
      .ok (.slice (some ⟨g, 0, none⟩) (sLen + k) sCap) (w.setRow g (cur.toList.take (sLen * i.size) ++ (Builtin.zeroCells z.cells k).toList ++ cur.toList.drop (sLen * i.size + k * i.size)).toArray) := by
  have hzl : (Builtin.zeroCells z.cells k).toList.length = k * i.size := by rw [Array.length_toList, size_zeroCells, hzs]
  have hst := run_storeCells_at (P := P) g (sLen * i.size) e (Builtin.zeroCells z.cells k).toList 0 cur w hg (by rw [hzl]; rw [Nat.add_mul] at hfit; simpa using hfit) h1
  simp only [Nat.add_zero, hzl] at hst
  have hk : k ≠ 0 := by omega
  have hw : IntKind.i64.wrap (k : Int) = k := by rw [IntKind.wrap_i64]; omega
  have h48i : ¬ (281474976710656 < (k : Int) * (i.bytes : Int)) := by
    rw [← Int.natCast_mul]
    omega
  have hneg : ¬ ((k : Int) < 0) := by omega
  have hns : ¬ (k * i.size = 0) := Nat.mul_ne_zero hk (by omega)
  simp [Builtin.append_, run_underlying ht, run_underlying htn, sizeOf, typeInfo, zeroValue, hi, hz, asInt, asIntOf, hw, hneg, hns, h48i, hroom, Addr.add_lit, hst]
section
variable {P : Program} {T : Tab} (hT : T.OK P) {S : Stay} {gh : List Value} {w : World} {sto : Sto}
include hT
theorem evAppendZ_eff {lo : Nat} (hs : SR S gh w sto) {t tn : TypeId} {kn : IntKind} (hkn : kd T tn = some (.int kn)) (ty : TypeId) {x y d : D} {sto' : Sto} {vx vy : Value} (hx : RepC S gh sto w vx x) (hy : RepD S gh sto w vy y) (he : evAppendZ T lo sto t x y = some (d, sto')) :
    Eff P lo S gh w sto (Builtin.append_ #[t, tn] ty #[vx, vy]) d sto' := by
  have hun := kd_int hT hkn
  unfold evAppendZ at he
  split at he
  · rename_i e id n kq k hk
    have hu := kd_slice hT hk
    split at he
    · rename_i j es wr n' cs hj hes
      obtain ⟨ti, hi, hz1, hz2, hz3, hz4⟩ := tab_full hT hj
      split at he
      · rename_i z hz
        split at he
        · rename_i hc
          obtain ⟨rfl, hlid, hk0, hk1, hn1, rfl, hpos, hzl, hby⟩ := hc
          simp only [Option.some.injEq, Prod.mk.injEq] at he
          obtain ⟨rfl, rfl⟩ := he
          obtain ⟨k, rfl⟩ := Int.eq_ofNat_of_zero_le (by omega : 0 ≤ k)
          have hy' := RepV.int_inv hy
          subst hy'
          obtain ⟨hid, ⟨a0, c0, rfl⟩, h3⟩ := hx
          have hgv := (h3 _ wr n' cs hes).2 rfl
          obtain ⟨gv, hgv', hE⟩ := hs.ent id _ hes
          rw [hgv] at hgv'
          cases hgv'
          obtain ⟨g, cap, cur, h0, hh, q1, q2, q3, q4, q5, q6⟩ := hE
          simp only [Value.slice.injEq, true_and] at h0
          obtain ⟨rfl, rfl⟩ := h0
          have hzr := zeroV_rep hs.stay hz
          have n4 := made_rep (S := S) (w := w) hzr (by omega) k (Builtin.zeroCells j.zero.cells k) rfl
          have n1 : (Builtin.zeroCells j.zero.cells k).toList.length = k * j.size := by rw [Array.length_toList, size_zeroCells, hz4]
          have n3 : ∀ u ∈ (Builtin.zeroCells j.zero.cells k).toList, u.oneCell' = true := fun u hu => by
            obtain ⟨o, ho⟩ := List.mem_iff_getElem?.1 hu
            have hlt := (List.getElem?_eq_some_iff.1 ho).1
            exact (n4.2 o u _ ho (List.getElem?_eq_getElem (by rw [← n4.1]; exact hlt))).1
          have hlen : (repl k z).length = k * j.size := by unfold repl; rw [repl_len, hzl]
          have hxl : (cur.toList.take (n' * j.size)).length = n' * j.size := by
            have : n' * j.size ≤ c0 * j.size := Nat.mul_le_mul_right _ q1
            simp only [List.length_take, Array.length_toList, q3]
            omega
          have hold : Pw (CellV S w) (cur.toList.take (n' * j.size)) cs := by
            refine ⟨by rw [hxl, q4], fun k u c hu hcc => ?_⟩
            have hk : k < n' * j.size := by have := (List.getElem?_eq_some_iff.1 hu).1; omega
            rw [List.getElem?_take_of_lt hk] at hu
            exact q5 k u c hu hcc
          have hall := hold.append n4
          simp only [Int.toNat_natCast] at *
          have hcsl : (cs ++ repl k z).length = (n' + k) * j.size := by rw [List.length_append, q4, hlen, Nat.add_mul]
          have hkb : k * j.bytes ≤ 1000000 * 100000 := Nat.mul_le_mul (by omega) hby
          by_cases hroom : n' + k ≤ c0
          · have hfit : (n' + k) * j.size ≤ cur.size := by rw [q3]; exact Nat.mul_le_mul_right _ hroom
            have hrun := run_append_room_zeros (P := P) w t tn ty e ti j.zero kq kn hu hun hi hz1 g n' c0 cur hh k (by omega) (by rw [hz2]; exact hpos) (by rw [hz4, hz2]) n3 hroom (by rw [hz2]; exact hfit) (by omega) (by rw [hz3]; omega)
            rw [hz2] at hrun
            obtain ⟨l2, hl2⟩ : ∃ l2, l2 = cur.toList.take (n' * j.size) ++ (Builtin.zeroCells j.zero.cells k).toList ++ cur.toList.drop (n' * j.size + k * j.size) := ⟨_, rfl⟩
            rw [← hl2] at hrun
            rw [Nat.add_mul] at hfit
            have hl2len : l2.length = c0 * j.size := by
              rw [hl2]
              simp only [List.length_append, hxl, List.length_drop, n1]
              rw [Array.length_toList]
              omega
            have hl2k : ∀ (o : Nat), o < (n' + k) * j.size → l2[o]? = (cur.toList.take (n' * j.size) ++ (Builtin.zeroCells j.zero.cells k).toList)[o]? := by
              intro o ho
              rw [hl2, List.getElem?_append_left (by rw [List.length_append, hxl, n1, ← Nat.add_mul]; exact ho)]
            refine arr_upd (P := P) (w' := w.setRow g l2.toArray) (n2 := n' + k) (cur2 := l2.toArray) hs hes hgv hlid (by omega) (.inr rfl) rfl rfl rfl (by simp) (fun b hb hne => setRow_other w g b _ (fun e => hne (by rw [e]; rfl))) (setRow_heap w g cur _ e _ hh) hroom q2 (by rw [← hl2len]; rfl) hcsl (fun o u c hu hcc => ?_) (.inl ⟨rfl, fun o ho => ?_⟩) hrun
            · have ho : o < (n' + k) * j.size := by have := (List.getElem?_eq_some_iff.1 hcc).1; omega
              have hu' : l2[o]? = some u := hu
              rw [hl2k o ho] at hu'
              exact hall.2 o u c hu' hcc
            · rw [cell_setRow_same w g o cur _ e _ hh, cell_heap hh]
              have hk : o < (n' + k) * j.size := Nat.lt_of_lt_of_le ho (Nat.mul_le_mul_right _ (by omega))
              rw [List.getElem?_toArray, hl2k o hk, List.getElem?_append_left (by rw [hxl]; exact ho), List.getElem?_take_of_lt ho]
          · have holds : (Builtin.firstCells ti.size n' (.slice (some ⟨g, 0, none⟩) n' c0)).run P w.drew = .ok (cur.toList.take (n' * j.size)).toArray w.drew := by
              refine run_firstCells_some w.drew ti.size n' ⟨g, 0, none⟩ n' c0 _ (by rw [hz2]; exact hxl) fun o u hu => ?_
              have hk : o < n' * j.size := by have := (List.getElem?_eq_some_iff.1 hu).1; omega
              rw [List.getElem?_take_of_lt hk] at hu
              rw [addr_add, Nat.zero_add]
              simpa [cell_heap hh] using hu
            have hby2 : (n' + k) * ti.bytes ≤ 140737488355328 := by
              rw [hz3]
              have : (n' + k) * j.bytes ≤ 101000000 * 100000 := Nat.mul_le_mul (by omega) hby
              omega
            have hrun := Lib.run_append_grow_zeros (P := P) w t tn ty e ti j.zero kq kn hu hun hi hz1 (some ⟨g, 0, none⟩) n' c0 (cur.toList.take (n' * j.size)) holds k (by omega) (by rw [hz2]; exact hpos) (by omega) (by omega) (by rw [hz3]; omega) (growslice_fits (by omega) hby2)
            have hge := grownCap_ge w (n' + k) c0 e
            have hcm : grownCap w (n' + k) c0 e ≤ maxLen := grownCap_le_maxLen w (n' + k) c0 e (by unfold maxLen; omega)
            refine arr_upd (P := P) (w' := w.drew.alloc (.cells ((cur.toList.take (n' * j.size)).toArray ++ Builtin.zeroCells j.zero.cells k ++ Builtin.zeroCells j.zero.cells (grownCap w (n' + k) c0 e - (n' + k))) e)) (n2 := n' + k) hs hes hgv hlid (by omega) (.inr rfl) rfl rfl rfl (by simp) (fun b hb _ => heap_alloc_old w.drew _ hb) (heap_alloc_new w.drew _) hge hcm ?_ hcsl (fun o u c hu hcc => ?_) (.inr ⟨Nat.le_refl _, fun b hb => heap_alloc_old w.drew _ hb⟩) hrun
            · simp only [Array.size_append, List.size_toArray, size_zeroCells, hz4, hxl, ← Nat.add_mul]
              congr 1
              omega
            · have hk : o < (n' + k) * j.size := by have := (List.getElem?_eq_some_iff.1 hcc).1; omega
              simp only [Array.toList_append] at hu
              rw [List.getElem?_append_left (by rw [List.length_append, hxl, n1, ← Nat.add_mul]; exact hk)] at hu
              exact hall.2 o u c hu hcc
        · cases he
      · cases he
    · cases he
  · cases he
end
end Go.Proofs.Ytghdanpigohnjaa
namespace Go.Proofs.Ytghdanpigohnjaa
open Go Go.RowKit
section
variable {P : Program} {T : Tab} {S : Stay} {gh : List Value} {sto : Sto} {w : World}
theorem srcCells_run {v : Value} {m s : Nat} {news : List V} (h : SrcOK S w v m news) (hl : news.length = m * s) (n : Nat) (hn : n ≤ m) : ∃ us : List Value, (Builtin.firstCells s n v).run P w = .ok us.toArray w ∧ Pw (CellV S w) us (news.take (n * s)) := by
  obtain ⟨a, cap, rfl, h1, h2, h3, h4⟩ := h
  have hns : n * s ≤ m * s := Nat.mul_le_mul_right _ hn
  cases a with
  | none =>
    have := h3 rfl
    obtain rfl : m = 0 := by omega
    obtain rfl : n = 0 := by omega
    exact ⟨[], rfl, by simpa using Pw.nil⟩
  | some a =>
    by_cases hne : news = []
    · subst hne
      simp only [List.length_nil] at hl
      have h0 : n * s = 0 := by omega
      refine ⟨[], ?_, by simpa using Pw.nil⟩
      simp only [Builtin.firstCells, h0]
      have := run_loadCells_list (P := P) w a [] (fun j v hj => by simp at hj)
      simpa using this
    · obtain ⟨b, off, us, h5, k1, k2⟩ := h4 hne
      cases h5
      have hget : ∀ (j : Nat) (u : Value), ((List.range (n * s)).map us)[j]? = some u → j < n * s ∧ us j = u := by
        intro j u hu
        have hj : j < n * s := by simpa using (List.getElem?_eq_some_iff.1 hu).1
        rw [List.getElem?_map, List.getElem?_range hj] at hu
        exact ⟨hj, by simpa using hu⟩
      refine ⟨(List.range (n * s)).map us, ?_, by simp only [List.length_map, List.length_range, List.length_take]; omega, fun j u c hu hc => ?_⟩
      · have := run_loadCells_list (P := P) w ⟨b, off, none⟩ ((List.range (n * s)).map us) (fun j v hj => by
          obtain ⟨hj1, rfl⟩ := hget j v hj
          rw [addr_add]
          exact (k1 j (by omega)).2)
        simpa [Builtin.firstCells] using this
      · obtain ⟨hj1, rfl⟩ := hget j u hu
        rw [List.getElem?_take_of_lt hj1] at hc
        exact ⟨(k1 j (by omega)).1, k2 j c hc⟩
variable (hT : T.OK P)
include hT
theorem evCopy_eff {lo : Nat} (hs : SR S gh w sto) {t : TypeId} (ty : TypeId) {x y d : D} {sto' : Sto} {vx vy : Value} (hx : RepD S gh sto w vx x) (hy : RepD S gh sto w vy y) (he : evCopy T lo sto t x y = some (d, sto')) :
    Eff P lo S gh w sto (Builtin.copy_ #[t, t] ty #[vx, vy]) d sto' := by
  unfold evCopy at he
  split at he
  · rename_i e hk
    have hu := kd_slice hT hk
    split at he
    · rename_i j hj
      split at he
      · rename_i m news hv
        split at he
        · rename_i hc
          obtain ⟨hl, hpos⟩ := hc
          have hsrc := srcV_sl hs hy hv
          have hlen : (Builtin.lenOf vy).run P w = .ok m w := by
            obtain ⟨a, cap, rfl, _⟩ := hsrc
            rfl
          have run : ∀ (g o k c : Nat) (us : List Value) (w' : World), vx = .slice (some ⟨g, o, none⟩) k c → (Builtin.firstCells j.size (min m k) vy).run P w = .ok us.toArray w → (storeCells ⟨g, o, none⟩ us).run P w = .ok () w' → (Builtin.copy_ #[t, t] ty #[vx, vy]).run P w = .ok (.int .i64 (min m k : Nat)) w' := by
            intro g o k c us w' hvx h1 h2
            subst hvx
            have h1' : (Builtin.firstCells j.size (Nat.min m k) vy).run P w = .ok us.toArray w := h1
            simp only [Builtin.copy_, List.getElem?_toArray, List.getElem?_cons_zero, List.getElem?_cons_succ, Sem.run_bind, run_underlying hu, Result.andThen_ok, hlen, run_size hT hj, h1', h2, goInt, Sem.run_pure]
          split at he
          · rename_i id o k
            split at he
            · rename_i ds hes
              split at he
              · rename_i hcc
                obtain ⟨hlid, hfit⟩ := hcc
                simp only [Option.some.injEq, Prod.mk.injEq] at he
                obtain ⟨rfl, rfl⟩ := he
                obtain ⟨hid, g, c, hg, hvx, _⟩ := hx
                obtain ⟨us, r1, r2⟩ := srcCells_run (P := P) hsrc hl (min m k) (Nat.min_le_left _ _)
                have hml : min m k * j.size ≤ m * j.size := Nat.mul_le_mul_right _ (Nat.min_le_left _ _)
                have hkl : min m k * j.size ≤ k * j.size := Nat.mul_le_mul_right _ (Nat.min_le_right _ _)
                have htl : (news.take (min m k * j.size)).length = min m k * j.size := by rw [List.length_take]; omega
                have hpd : Pw (fun u d => u.oneCell' = true ∧ RepC S gh sto w u d) us ((news.take (min m k * j.size)).map .v) := by
                  refine ⟨by rw [List.length_map]; exact r2.1, fun q u d hu hd => ?_⟩
                  rw [List.getElem?_map] at hd
                  cases hq : (news.take (min m k * j.size))[q]? with
                  | none => rw [hq] at hd; cases hd
                  | some cc =>
                    rw [hq] at hd
                    simp only [Option.map_some, Option.some.injEq] at hd
                    subst hd
                    exact r2.2 q u cc hu hq
                obtain ⟨gh', w', s1, s2, s3⟩ := store_box (P := P) (off := o) hs hes hg hlid hpd (by rw [List.length_map, htl]; omega)
                rw [List.length_map, htl] at s2 s3
                exact ⟨_, S, gh', w', run g o k c us w' hvx r1 s1, RepV.int _ _, s2, s3⟩
              · cases he
            · cases he
          · rename_i id n o k
            split at he
            · rename_i es n' cs hes
              split at he
              · rename_i hcc
                obtain ⟨hlid, rfl, hfit⟩ := hcc
                simp only [Option.some.injEq, Prod.mk.injEq] at he
                obtain ⟨rfl, rfl⟩ := he
                obtain ⟨hid, _, h3⟩ := hx
                obtain ⟨g, o', c, hg, hvx, _, _, ho⟩ := (h3 es true _ cs hes).2 rfl
                obtain ⟨us, r1, r2⟩ := srcCells_run (P := P) hsrc hl (min m k) (Nat.min_le_left _ _)
                have hml : min m k * j.size ≤ m * j.size := Nat.mul_le_mul_right _ (Nat.min_le_left _ _)
                have hkl : min m k * j.size ≤ k * j.size := Nat.mul_le_mul_right _ (Nat.min_le_right _ _)
                have htl : (news.take (min m k * j.size)).length = min m k * j.size := by rw [List.length_take]; omega
                obtain ⟨gh', w', s1, s2, s3⟩ := store_arr (P := P) (off := o) hs hes hg hlid r2 (by rw [htl]; omega)
                rw [htl] at s2 s3
                refine ⟨_, S, gh', w', run g o' k c us w' hvx r1 ?_, RepV.int _ _, s2, s3⟩
                rcases Nat.eq_zero_or_pos k with h0 | h0
                · subst h0
                  have : us = [] := List.length_eq_zero_iff.1 (by rw [r2.1, htl]; simp)
                  subst this
                  exact s1
                · rw [ho h0]; exact s1
              · cases he
            · cases he
          · cases he
        · cases he
      · cases he
    · cases he
  · cases he
theorem evBytes_eff {lo : Nat} (hlo : lo ≤ sto.length) (hs : SR S gh w sto) {src dst : TypeId} {x d : D} {sto' : Sto} {v : Value} (hx : RepD S gh sto w v x) (he : evBytes T sto src dst x = some (d, sto')) : Eff P lo S gh w sto (convert src dst v) d sto' := by
  unfold evBytes at he
  split at he
  · rename_i e s k1 k2
    have u1 := kd_str hT k1
    have u2 := kd_slice hT k2
    split at he
    · rename_i k3
      have u3 := kd_int hT k3
      split at he
      · rename_i hsz
        simp only [Option.some.injEq, Prod.mk.injEq] at he
        obtain ⟨rfl, rfl⟩ := he
        have h0 : RepV S w v (.str s) := hx
        obtain rfl := RepV.str_inv h0
        have hrun := Lib.run_convert_string_bytes (P := P) w src dst e s u1 u2 u3
        have hb : Below w.heap.size w (Lib.bytesWorld w e s) := ⟨rfl, rfl, rfl, by rw [Lib.bytesWorld_size]; omega, fun k hk => Lib.bytesWorld_at_old w e s k hk⟩
        have hat := Lib.bytesWorld_at_new w e s
        have hge := grownCap_ge w s.size 0 e
        have hcm : grownCap w s.size 0 e ≤ maxLen := grownCap_le_maxLen w s.size 0 e (by unfold maxLen; omega)
        have hnew : ∀ b, blk (.pointer (some ⟨w.heap.size, 0, none⟩)) = some b → w.heap.size ≤ b := by
          intro g hg
          simp only [blk, Option.some.injEq] at hg
          omega
        have hcells : ∀ (k : Nat) (u : Value) (d : D), (Lib.bytesCells w e s).toList[k]? = some u → ((bytesV s).map D.v)[k]? = some d → ∃ b : UInt8, u = .int .u8 b.toNat ∧ d = .v (.int .u8 b.toNat) := by
          intro k u d hu hd
          simp only [bytesV, List.map_map, List.getElem?_map] at hd
          cases hq : s.data.toList[k]? with
          | none => rw [hq] at hd; cases hd
          | some b =>
            rw [hq] at hd
            simp only [Option.map_some, Option.some.injEq, Function.comp_apply] at hd
            refine ⟨b, ?_, hd.symm⟩
            have hk : k < s.data.size := by simpa using (List.getElem?_eq_some_iff.1 hq).1
            simp only [Lib.bytesCells, Array.toList_append, Array.toList_map] at hu
            rw [List.getElem?_append_left (by simpa using hk), List.getElem?_map, hq] at hu
            simpa using hu.symm
        have hf : Fr sto.length lo S gh w sto S (gh ++ [.pointer (some ⟨w.heap.size, 0, none⟩)]) (Lib.bytesWorld w e s) (sto ++ [.cells ((bytesV s).map .v)]) := push_fr hs hlo hb (fun _ _ h => h) hnew
        refine ⟨_, S, _, _, hrun, ?_, push_sr hs hf hb (fun b o h => .inl h) hnew ?_, hf⟩
        · refine ⟨by simp, w.heap.size, grownCap w s.size 0 e, ?_, rfl, by omega, hcm⟩
          rw [← hs.len]
          simp
        · refine ⟨w.heap.size, Lib.bytesCells w e s, (e, (Lib.bytesCells w e s).size, (Lib.bytesCells w e s).size + 1), rfl, hat, ⟨.inr (Nat.le_refl _), ?_⟩, fun o ho => ?_, fun k u d hu hd => ?_⟩
          · simp [bytesV, Lib.bytesCells]
          · have := hs.stay _ _ ho; omega
          · obtain ⟨b, rfl, rfl⟩ := hcells k u d hu hd
            exact ⟨rfl, RepV.int _ _⟩
      · cases he
    · cases he
  · cases he
end
end Go.Proofs.Ytghdanpigohnjaa
namespace Go.Proofs.Ytghdanpigohnjaa
open Go Go.RowKit

section
variable {P : Program} {T : Tab} {S : Stay} {gh : List Value} {sto : Sto} {w : World}
/-- What an operation leaves, as the walk's step meets it. -/
def EffN (P : Program) (lo : Nat) (S : Stay) (gh : List Value) (w : World) (sto : Sto) (x : Sem Next) (d : D) (sto' : Sto) : Prop :=
  ∃ nx v S' gh' w', x.run P w = .ok nx w' ∧ (nx = .value v ∨ (nx = .skip ∧ v = undef)) ∧ RepD S' gh' sto' w' v d ∧ SR S' gh' w' sto' ∧ Fr sto.length lo S gh w sto S' gh' w' sto'
theorem Eff.next {lo : Nat} {x : Sem Value} {d : D} {sto' : Sto} (h : Eff P lo S gh w sto x d sto') : EffN P lo S gh w sto (do pure (.value (← x))) d sto' := by
  obtain ⟨v, S', gh', w', h1, h2, h3, h4⟩ := h
  exact ⟨.value v, v, S', gh', w', by simp only [Sem.run_bind, h1, Result.andThen_ok, Sem.run_pure], .inl rfl, h2, h3, h4⟩
theorem storeVar_run {t : TypeId} {i : TyI} (hT : T.OK P) (hi : T t = some i) {a : Addr} {v : Value} {w' : World} (hsz : v.cells.size = i.size) (h : (storeCells a v.cells.toList).run P w = .ok () w') : (storeVar t a v).run P w = .ok () w' := by
  simp only [storeVar, Sem.run_bind, run_size hT hi, Result.andThen_ok, hsz, ne_eq, not_true_eq_false, if_false, h]
variable (hT : T.OK P)
include hT
/-- A composite slice: its cells in a new block. -/
theorem sliceLit_run (hs : SR S gh w sto) {e : Operand → Value} {ρ : Operand → D} (hρ : ∀ x, RepD S gh sto w (e x) (ρ x)) {t : TypeId} {len : Nat} {parts : Array (Nat × Operand)} {x : TypeId × Nat × List V} (h : evSliceLit T sto t len (parts.toList.map fun p => (p.1, ρ p.2)) = some x) :
    ∃ arr : Array Value, (Instr.buildSlice t len (parts.map fun (i, x) => (i, e x))).run P w = .ok (.slice (some ⟨w.heap.size, 0, none⟩) len len) (w.alloc (.cells arr x.1)) ∧ len ≤ maxLen ∧ arr.size = len * x.2.1 ∧ x.2.2.length = len * x.2.1 ∧ ∀ (j : Nat) (u : Value) (c : V), arr.toList[j]? = some u → x.2.2[j]? = some c → u.oneCell' = true ∧ RepV S w u c := by
  unfold evSliceLit at h
  split at h
  · rename_i e0 hk
    have hu := kd_slice hT hk
    split at h
    · rename_i j hj
      obtain ⟨ti, hi, hz1, hz2, hz3, hz4⟩ := tab_full hT hj
      split at h
      · rename_i z hz
        split at h
        · rename_i hc
          obtain ⟨c1, c2, c3⟩ := hc
          cases hf : fillV sto j.size (repl len z) (parts.toList.map fun p => (p.1, ρ p.2)) with
          | none => rw [hf] at h; cases h
          | some cs =>
            rw [hf] at h
            simp only [Option.map_some, Option.some.injEq] at h
            subst h
            have hzr := zeroV_rep hs.stay hz
            have hp : Pw (fun (u : Nat × Value) (d : Nat × D) => u.1 = d.1 ∧ RepD S gh sto w u.2 d.2) (parts.map fun (i, x) => (i, e x)).toList (parts.toList.map fun p => (p.1, ρ p.2)) := by
              refine ⟨by simp, fun j u d hu hd => ?_⟩
              simp only [Array.toList_map, List.getElem?_map] at hu hd
              cases hx : parts.toList[j]? with
              | none => rw [hx] at hu; cases hu
              | some p =>
                rw [hx] at hu hd
                simp only [Option.map_some, Option.some.injEq] at hu hd
                subst hu; subst hd
                exact ⟨rfl, hρ p.2⟩
            have hm := made_rep hzr (by omega) len _ rfl
            obtain ⟨arr, e1, e2⟩ := fillV_sound hs j.size _ _ _ _ cs hp hm hf
            have hzsz : j.zero.cells.size = j.size := hz4
            have hlen : arr.size = len * j.size := by
              have h1 : arr.toList.length = cs.length := e2.1
              have h2 : ∀ (parts : List (Nat × D)) (cs out : List V), fillV sto j.size cs parts = some out → out.length = cs.length := by
                intro parts
                induction parts with
                | nil => intro cs out h; simp only [fillV, Option.some.injEq] at h; rw [h]
                | cons p parts ih =>
                  intro cs out h
                  simp only [fillV] at h
                  split at h
                  · split at h
                    · rename_i hq
                      rw [ih _ _ h]
                      simp only [List.length_append, List.length_take, List.length_drop]
                      omega
                    · cases h
                  · cases h
              rw [← Array.length_toList, h1, h2 _ _ _ hf]
              unfold repl
              rw [repl_len, c2]
            have hrun : (Instr.buildSlice t len (parts.map fun (i, x) => (i, e x))).run P w = .ok (.slice (some ⟨w.heap.size, 0, none⟩) len len) (w.alloc (.cells arr e0)) := by
              by_cases h0 : len * j.size = 0
              · have hl0 : len = 0 := by
                  rcases Nat.mul_eq_zero.1 h0 with h | h
                  · exact h
                  · omega
                subst hl0
                have hr0 : Array.range 0 = #[] := rfl
                have e1' : Instr.fill (fun i => some (i * j.size, j.size)) #[] (parts.map fun (i, x) => (i, e x)).toList = some arr := by simpa [hr0] using e1
                simp [Instr.buildSlice, run_underlying hu, sizeOf, typeInfo, hi, hz2, newRow, hr0]
                have e1'' : Instr.fill (fun i => some (i * j.size, j.size)) #[] (List.map (fun x => (x.fst, e x.snd)) parts.toList) = some arr := by simpa using e1'
                rw [e1'']
                rfl
              · refine run_buildSlice w t e0 len _ arr ti j.zero hu hi hz1 (by rw [hz2]; omega) (by rw [hz2]; exact h0) ?_
                rw [hz2]
                rw [hzsz] at e1
                rw [hzsz]
                exact e1
            exact ⟨arr, hrun, by unfold maxLen; have : len * 1 ≤ len * j.size := Nat.mul_le_mul_left _ c3; omega, hlen, by rw [← e2.1, Array.length_toList]; exact hlen, e2.2⟩
        · cases h
      · cases h
    · cases h
  · cases h
theorem evEff_sound {n0 lo : Nat} {wr : Bool} (hlo : lo ≤ sto.length) (hs : SR S gh w sto) {e : Operand → Value} {ρ : Operand → D} (hρ : ∀ x, RepD S gh sto w (e x) (ρ x)) {o : Oper} {d : D} {sto' : Sto} (h : evEff T n0 lo wr ρ sto o = some (d, sto')) : EffN P lo S gh w sto (execOp e o) d sto' := by
  unfold evEff at h
  unfold execOp
  split at h <;> rename_i hop <;> simp only [hop]
  · rename_i t x
    cases hc : (ρ x).cells with
    | none => rw [hc] at h; cases h
    | some ds =>
      rw [hc] at h
      simp only [Option.map_some, Option.some.injEq, Prod.mk.injEq] at h
      obtain ⟨rfl, rfl⟩ := h
      exact (box_eff hlo hs t (RepD.cells (hρ x) hc)).next
  · rename_i t
    split at h
    · rename_i i hi
      cases hc : zeroD i with
      | none => rw [hc] at h; cases h
      | some ds =>
        rw [hc] at h
        simp only [Option.map_some, Option.some.injEq, Prod.mk.injEq] at h
        obtain ⟨rfl, rfl⟩ := h
        have hb := box_eff (P := P) hlo hs t (RepD.cells (ofVal_rep i.zero) hc)
        have : (Instr.alloc t true (.tuple #[])) = (do let z ← zeroValue t; pure (.pointer (some (← newVar t z)))) := by
          unfold Instr.alloc; rfl
        refine Eff.next ?_
        obtain ⟨v, S', gh', w', h1, h2, h3, h4⟩ := hb
        refine ⟨v, S', gh', w', ?_, h2, h3, h4⟩
        rw [this, Sem.run_bind, run_zero hT hi, Result.andThen_ok]
        exact h1
    · cases h
  · rename_i t len parts
    cases hl : evSliceLit T sto t len (parts.toList.map fun p => (p.1, ρ p.2)) with
    | none => rw [hl] at h; cases h
    | some x =>
      rw [hl] at h
      simp only [Option.map_some, Option.some.injEq, Prod.mk.injEq] at h
      obtain ⟨rfl, rfl⟩ := h
      obtain ⟨arr, h1, h2, h3, h4, h5⟩ := sliceLit_run (P := P) hT hs hρ hl
      exact (arr_eff hlo hs (below_new w _) (heap_alloc_new w _) (Nat.le_refl _) h2 h3 h4 h5 h1).next
  · rename_i t l c
    split at h
    · rename_i e0 k a k' b hk hl hc
      have hu := kd_slice hT hk
      split at h
      · rename_i j hj
        obtain ⟨ti, hi, hz1, hz2, hz3, hz4⟩ := tab_full hT hj
        split at h
        · rename_i z hz
          split at h
          · rename_i hcc
            obtain ⟨rfl, c1, c2, c3, c4, c5⟩ := hcc
            simp only [Option.some.injEq, Prod.mk.injEq] at h
            obtain ⟨rfl, rfl⟩ := h
            have h1 := hρ l
            have h2 := hρ c
            rw [hl] at h1
            rw [hc] at h2
            have h1' := RepV.int_inv h1
            have h2' := RepV.int_inv h2
            obtain ⟨n, rfl⟩ := Int.eq_ofNat_of_zero_le c1
            have hzr := zeroV_rep hs.stay hz
            obtain ⟨w', q1, q2, q3⟩ := run_make_full (P := P) w 0 t e0 ti j.zero j.size hu hi hz1 hz2 k k' n (by rw [hz3]; have : j.bytes * n ≤ 100000 * 1000000000 := Nat.mul_le_mul c3 (by omega); omega) (by unfold maxLen; omega) (Nat.zero_le _)
            refine Eff.next ?_
            rcases q2.2 with ⟨h0, _⟩ | ⟨g', cap', cur, h0, _, hh, hn, hcm, hcs, htk⟩
            · cases h0
            · simp only [Value.slice.injEq, Option.some.injEq, Addr.mk.injEq, and_true, true_and] at h0
              obtain ⟨rfl, rfl⟩ := h0
              have hb : Below w.heap.size w w' := ⟨q3.os, q3.tape, q3.output, q3.size, fun k hk => q3.block k hk (by simp)⟩
              have hcur : cur.toList = (madeCells j.zero.cells (n * j.size)).toList := by
                rw [← htk, List.take_of_length_le (by rw [Array.length_toList, hcs]; exact Nat.le_refl _)]
              have hm := made_rep (S := S) (w := w) hzr (by omega) n ((Array.range (n * j.zero.cells.size)).map (j.zero.cells[· % j.zero.cells.size]!)) rfl
              have hmk : (madeCells j.zero.cells (n * j.size)) = (Array.range (n * j.zero.cells.size)).map (j.zero.cells[· % j.zero.cells.size]!) := by
                rw [hz4]; unfold madeCells; rw [hz4]
              rw [← hmk, ← hcur] at hm
              refine arr_eff hlo hs hb hh hn hcm hcs ?_ hm.2 ?_
              · unfold repl; rw [repl_len, c4]
              · rw [h1', h2']; exact q1
          · cases h
        · cases h
      · cases h
    · cases h
  · rename_i t p x
    split at h
    · rename_i i ds hi hc
      split at h
      · rename_i hsz
        have hcells := RepD.cells (hρ x) hc
        have hsz' : (e x).cells.size = i.size := by rw [← Array.length_toList, hcells.1]; exact hsz
        split at h
        · rename_i id off hp
          have h0 := hρ p
          rw [hp] at h0
          obtain ⟨hid, g, hg, hv⟩ := h0
          split at h
          · rename_i cs hes
            split at h
            · rename_i hcc
              obtain ⟨c1, c2, _⟩ := hcc
              simp only [Option.some.injEq, Prod.mk.injEq] at h
              obtain ⟨rfl, rfl⟩ := h
              obtain ⟨gh', w', r1, r2, r3⟩ := store_box (P := P) hs hes hg c1 hcells (by rw [hsz]; exact c2)
              rw [hsz] at r2 r3
              refine ⟨.skip, undef, S, gh', w', ?_, .inr ⟨rfl, rfl⟩, rfl, r2, r3⟩
              rw [hv]
              simp only [Instr.storeAt, Instr.sureAddr, Sem.run_bind, Sem.run_pure, Result.andThen_ok, storeVar_run hT hi hsz' r1]
            · cases h
          · cases h
        · rename_i id n off hp
          have h0 := hρ p
          rw [hp] at h0
          obtain ⟨hid, ⟨a0, ha0⟩, h3⟩ := h0
          split at h
          · rename_i es n' cs xs hes hxs
            split at h
            · rename_i hcc
              obtain ⟨c1, rfl, c2⟩ := hcc
              simp only [Option.some.injEq, Prod.mk.injEq] at h
              obtain ⟨rfl, rfl⟩ := h
              obtain ⟨g, hg, hv⟩ := (h3 es true n' cs hes).2 rfl
              obtain ⟨l1, l2⟩ := viewL_rep hs _ ds xs hcells.1 (fun j u d hu hd => (hcells.2 j u d hu hd).2) hxs
              have hpv : Pw (CellV S w) (e x).cells.toList xs := by
                refine ⟨l1, fun j u c hu hcc => ⟨?_, l2 j u c hu hcc⟩⟩
                have hlt := (List.getElem?_eq_some_iff.1 hu).1
                exact (hcells.2 j u _ hu (List.getElem?_eq_getElem (by rw [← hcells.1]; exact hlt))).1
              have hxl : xs.length = i.size := by rw [← l1, hcells.1]; exact hsz
              obtain ⟨gh', w', r1, r2, r3⟩ := store_arr (P := P) hs hes hg c1 hpv (by rw [hxl]; exact c2)
              rw [hxl] at r2 r3
              refine ⟨.skip, undef, S, gh', w', ?_, .inr ⟨rfl, rfl⟩, rfl, r2, r3⟩
              rw [hv]
              simp only [Instr.storeAt, Instr.sureAddr, Sem.run_bind, Sem.run_pure, Result.andThen_ok, storeVar_run hT hi hsz' r1]
            · cases h
          · cases h
        · cases h
      · cases h
    · cases h
  · rename_i t r
    have ha := evMakeMap_eff (P := P) hT hlo hs (vr := r.map e) (fun x hx => by
      cases r with
      | none => cases hx
      | some y => simp only [Option.map_some, Option.some.injEq] at hx; subst hx; exact ⟨_, rfl, hρ y⟩) (fun h0 => by cases r with | none => rfl | some y => cases h0) h
    exact ha.next
  · rename_i t m x v
    obtain ⟨rfl, gh', w', r1, r2, r3⟩ := evUpdate_eff (P := P) hT hs (hρ m) (hρ x) (hρ v) h
    exact ⟨.skip, undef, S, gh', w', by simp only [Sem.run_bind, r1, Result.andThen_ok, Sem.run_pure], .inr ⟨rfl, rfl⟩, rfl, r2, r3⟩
  · rename_i c
    split at h
    · rename_i x y t t' hb hargs hts
      split at h
      · rename_i htt
        subst htt
        have hx : RepC S gh sto w (e x) (ρ x) := (hρ x).toC fun ds h0 => by
          rcases h0 with h0 | h0 <;> rw [h0] at h <;> unfold evAppend at h <;> (repeat' split at h) <;> first | (cases h; done) | contradiction
        have ha := evAppend_eff hT hlo hs o.type hx (hρ y) h
        obtain ⟨v, S', gh', w', r1, r2, r3, r4⟩ := ha
        refine ⟨.value v, v, S', gh', w', ?_, .inl rfl, r2, r3, r4⟩
        have hargs' : c.args = #[x, y] := Array.ext' (by simpa using hargs)
        have hts' : c.argTypes = #[t, t] := Array.ext' (by simpa using hts)
        simp only [resolve, hb, Sem.run_bind, Sem.run_pure, Result.andThen_ok, invoke, builtin, hargs', hts', List.map_toArray, List.map_cons, List.map_nil, r1]
      · split at h
        · rename_i kn hkn
          have hx : RepC S gh sto w (e x) (ρ x) := (hρ x).toC fun ds h0 => by
            rcases h0 with h0 | h0 <;> rw [h0] at h <;> unfold evAppendZ at h <;> (repeat' split at h) <;> first | (cases h; done) | contradiction
          have ha := evAppendZ_eff hT hs hkn o.type hx (hρ y) h
          obtain ⟨v, S', gh', w', r1, r2, r3, r4⟩ := ha
          refine ⟨.value v, v, S', gh', w', ?_, .inl rfl, r2, r3, r4⟩
          have hargs' : c.args = #[x, y] := Array.ext' (by simpa using hargs)
          have hts' : c.argTypes = #[t, t'] := Array.ext' (by simpa using hts)
          simp only [resolve, hb, Sem.run_bind, Sem.run_pure, Result.andThen_ok, invoke, builtin, hargs', hts', List.map_toArray, List.map_cons, List.map_nil, r1]
        · cases h
    · rename_i x t hb hargs hts
      obtain ⟨v, S', gh', w', r1, r2, r3, r4⟩ := evClear_eff (P := P) (ty := o.type) hT hs (hρ x) h
      refine ⟨.value v, v, S', gh', w', ?_, .inl rfl, r2, r3, r4⟩
      have hargs' : c.args = #[x] := Array.ext' (by simpa using hargs)
      have hts' : c.argTypes = #[t] := Array.ext' (by simpa using hts)
      simp only [resolve, hb, Sem.run_bind, Sem.run_pure, Result.andThen_ok, invoke, builtin, hargs', hts', List.map_toArray, List.map_cons, List.map_nil, r1]
    · rename_i x y t t' hb hargs hts
      split at h
      · rename_i htt
        subst htt
        obtain ⟨v, S', gh', w', r1, r2, r3, r4⟩ := evCopy_eff (P := P) hT hs o.type (hρ x) (hρ y) h
        refine ⟨.value v, v, S', gh', w', ?_, .inl rfl, r2, r3, r4⟩
        have hargs' : c.args = #[x, y] := Array.ext' (by simpa using hargs)
        have hts' : c.argTypes = #[t, t] := Array.ext' (by simpa using hts)
        simp only [resolve, hb, Sem.run_bind, Sem.run_pure, Result.andThen_ok, invoke, builtin, hargs', hts', List.map_toArray, List.map_cons, List.map_nil, r1]
      · cases h
    · rename_i m x t t2 hb hargs hts
      obtain ⟨v, S', gh', w', r1, r2, r3, r4⟩ := evDelete_eff (P := P) (ty := o.type) (t2 := t2) hT hs (hρ m) (hρ x) h
      refine ⟨.value v, v, S', gh', w', ?_, .inl rfl, r2, r3, r4⟩
      have hargs' : c.args = #[m, x] := Array.ext' (by simpa using hargs)
      have hts' : c.argTypes = #[t, t2] := Array.ext' (by simpa using hts)
      simp only [resolve, hb, Sem.run_bind, Sem.run_pure, Result.andThen_ok, invoke, builtin, hargs', hts', List.map_toArray, List.map_cons, List.map_nil, r1]
    · cases h
  · rename_i src dst x
    exact (evBytes_eff (P := P) hT hlo hs (hρ x) h).next
  · cases h
end
end Go.Proofs.Ytghdanpigohnjaa
namespace Go.Proofs.Ytghdanpigohnjaa
open Go Go.RowKit

/-- What the evaluator says of a call, said of the model's. -/
def CallOK (P : Program) : CallP := fun f args sto lo r sto' =>
  callable P f = true ∧ ∀ S gh w vals, lo ≤ sto.length → SR S gh w sto → GlobOK S w → Pw (RepD S gh sto w) vals args →
    Calls P f vals.toArray w fun e w' => ∃ v S' gh', e = .returned v ∧ RepD S' gh' sto' w' v r ∧ SR S' gh' w' sto' ∧ Fr sto.length lo S gh w sto S' gh' w' sto' ∧ sto.length ≤ sto'.length
section
variable {P : Program} {T : Tab} {S : Stay} {gh : List Value} {w : World} {a : Act} {st : St} {n0 lo : Nat} {wt : List Tmp} {draw : Bool} {ops : Array Oper}
theorem RS.put {S' : Stay} {gh' : List Value} {w' : World} {sto' : Sto} (h : RS S gh w a st) (hs : SR S' gh' w' sto') (hf : Fr st.sto.length lo S gh w st.sto S' gh' w' sto') {v : Value} {d : D} (hd : RepD S' gh' sto' w' v d) (dst : Option Tmp) : RS S' gh' w' (a.put dst v) (St.put { st with sto := sto' } dst d) := by
  have henv : ∀ (t : Nat) (u : Value) (e : D), a.tmps.toList[t]? = some u → st.env[t]? = some e → RepD S' gh' sto' w' u e := fun t u e hu he => RepD.mono h.sto hf (h.env t u e hu he)
  cases dst with
  | none => exact ⟨h.size, henv, hs, h.defers, h.glob.mono hf.stable⟩
  | some t =>
    refine ⟨?_, fun t' u e hu he => ?_, hs, h.defers, h.glob.mono hf.stable⟩
    · simp only [Act.put, St.put, Array.toList_setIfInBounds, List.length_set]; exact h.size
    · simp only [Act.put, St.put, Array.toList_setIfInBounds] at hu he
      rcases Nat.decEq t t' with hne | heq
      · rw [List.getElem?_set_ne hne] at hu he
        exact henv t' u e hu he
      · subst heq
        have h1 : t < a.tmps.toList.length := by have := (List.getElem?_eq_some_iff.1 hu).1; simpa using this
        rw [List.getElem?_set_self h1] at hu
        rw [List.getElem?_set_self (by rw [← h.size]; exact h1)] at he
        cases hu; cases he
        exact hd
theorem RS.opd (h : RS S gh w a st) (x : Operand) : RepD S gh st.sto w (a.eval x) (opd st.env x) := opd_rep h.glob h.size h.env x
theorem guard_sound (h : RS S gh w a st) {o : Oper} {b : Bool} (hg : guardD ops o st.env = some b) : Region.wanted o (yielded ops a.tmps) = b := by
  unfold guardD at hg
  unfold Region.wanted
  split at hg
  · rename_i h0
    simp only [h0]
    simpa using hg
  · rename_i j want h0
    simp only [h0]
    split at hg
    · rename_i hd
      simp only [Option.some.injEq] at hg
      subst hg
      simp [yielded, hd]
    · rename_i d hd
      have key : ∀ v, a.tmps[d]? = some v ↔ a.tmps.toList[d]? = some v := fun v => by rw [Array.getElem?_toList]
      split at hg
      · rename_i he
        simp only [Option.some.injEq] at hg
        subst hg
        have : a.tmps[d]? = none := by
          rw [← Array.getElem?_toList, List.getElem?_eq_none_iff]
          rw [List.getElem?_eq_none_iff] at he
          rw [h.size]; exact he
        simp [yielded, hd, this]
      · rename_i b' he
        simp only [Option.some.injEq] at hg
        subst hg
        have hlt : d < a.tmps.toList.length := by rw [h.size]; exact (List.getElem?_eq_some_iff.1 he).1
        have hv := List.getElem?_eq_getElem hlt
        have hr := h.env d _ _ hv he
        have hb := RepV.bool_inv hr
        rw [hb] at hv
        have hv' : a.tmps[d]? = some (.bool b') := (key _).2 hv
        simp only [yielded, hd, Option.bind_some, hv']
        cases b' <;> cases want <;> rfl
      · rename_i he
        simp only [Option.some.injEq] at hg
        subst hg
        have hlt : d < a.tmps.toList.length := by rw [h.size]; exact (List.getElem?_eq_some_iff.1 he).1
        have hv := List.getElem?_eq_getElem hlt
        have hr : a.tmps.toList[d] = undef := h.env d _ _ hv he
        rw [hr] at hv
        have hv' : a.tmps[d]? = some undef := (key _).2 hv
        simp [yielded, hd, hv', undef]
      · cases hg
theorem argD_sound {sto : Sto} (hs : SR S gh w sto) {v : Value} {d d' : D} (h : RepD S gh sto w v d) (ha : argD sto d = some d') : RepD S gh sto w v d' := by
  unfold argD at ha
  split at ha
  · simp only [Option.some.injEq] at ha; subst ha; exact h
  · simp only [Option.some.injEq] at ha; subst ha; exact h
  · simp only [Option.some.injEq] at ha; subst ha; exact h
  · simp only [Option.some.injEq] at ha; subst ha; exact h
  · simp only [Option.some.injEq] at ha; subst ha; exact h
  · simp only [Option.some.injEq] at ha; subst ha; exact h
  · simp only [Option.some.injEq] at ha; subst ha; exact h
  · simp only [Option.some.injEq] at ha; subst ha; exact h
  · simp only [Option.some.injEq] at ha; subst ha; exact h
  · simp only [Option.some.injEq] at ha; subst ha; exact h
  · rename_i id n
    split at ha
    · split at ha
      · simp only [Option.some.injEq] at ha; subst ha; exact h
      · cases ha
    · cases hv : view sto (.arr id n) with
      | none => rw [hv] at ha; cases ha
      | some x =>
        rw [hv] at ha
        simp only [Option.map_some, Option.some.injEq] at ha
        subst ha
        exact view_rep hs h hv
  · cases hv : view sto d with
    | none => rw [hv] at ha; cases ha
    | some x =>
      rw [hv] at ha
      simp only [Option.map_some, Option.some.injEq] at ha
      subst ha
      exact view_rep hs h hv
theorem argsD_sound {sto : Sto} (hs : SR S gh w sto) : ∀ (vs : List Value) (ds ds' : List D), Pw (RepD S gh sto w) vs ds → argsD sto ds = some ds' → Pw (RepD S gh sto w) vs ds'
  | [], [], ds', _, h => by simp only [argsD, Option.some.injEq] at h; subst h; exact Pw.nil
  | [], _ :: _, _, h, _ => by have := h.1; simp at this
  | _ :: _, [], _, h, _ => by have := h.1; simp at this
  | v :: vs, d :: ds, ds', hp, h => by
    simp only [argsD] at h
    split at h
    · rename_i x xs h1 h2
      simp only [Option.some.injEq] at h
      subst h
      exact Pw.cons (argD_sound hs (hp.2 0 v d rfl rfl) h1) (argsD_sound hs vs ds xs (by have := hp.drop 1; simpa using this) h2)
    · cases h
theorem evCallee_sound {sto : Sto} (hs : SR S gh w sto) {e : Operand → Value} {ρ : Operand → D} (hρ : ∀ x, RepD S gh sto w (e x) (ρ x)) {o : Oper} {f : FuncId} {args : List D} (h : evCallee ρ sto o = some (f, args)) (hc : callable P f = true) :
    ∃ vals : List Value, (execOp e o).run P w = .ok (.enter f vals.toArray) w ∧ Pw (RepD S gh sto w) vals args := by
  unfold evCallee at h
  split at h
  · rename_i c hop
    have go : ∀ (f0 : Operand), c.callee = .value f0 → ∀ (fid : FuncId) (vs : List Value), e f0 = .func (.func fid) #[] vs.toArray → ∀ (l : List D), argsD sto (c.args.toList.map ρ) = some l → ∀ (ds : List D), Pw (RepD S gh sto w) vs ds → callable P fid = true →
        ∃ vals : List Value, (execOp e o).run P w = .ok (.enter fid vals.toArray) w ∧ Pw (RepD S gh sto w) vals (l ++ ds) := by
      intro f0 hcal fid vs hv l hl ds hds hc
      have ha := argsD_sound hs _ _ _ (argsRep hρ c.args.toList) hl
      refine ⟨c.args.toList.map e ++ vs, ?_, ha.append hds⟩
      have hcal' : (callFunc fid ((c.args.map e) ++ vs.toArray)).run P w = .ok (.enter fid ((c.args.map e) ++ vs.toArray)) w := by
        unfold callable at hc
        split at hc
        · rename_i fn hfn
          simp only [Bool.and_eq_true, bne_iff_ne, ne_eq] at hc
          obtain ⟨b1, b2⟩ := hc
          cases hb : fn.body with
          | none => rw [hb] at b1; cases b1
          | some body => simp [callFunc, hfn, b2, hb]
        · cases hc
      unfold execOp
      simp only [hop, resolve, hcal, hv, Deferred.ofValue, Sem.run_bind, Sem.run_pure, Result.andThen_ok, invoke, Array.empty_append, hcal']
      congr 3
      apply Array.ext'
      simp
    split at h
    · rename_i f0 hcal
      split at h
      · rename_i fid caps hf
        cases hl : argsD sto (c.args.toList.map ρ) with
        | none => rw [hl] at h; cases h
        | some l =>
          rw [hl] at h
          simp only [Option.map_some, Option.some.injEq, Prod.mk.injEq] at h
          obtain ⟨rfl, rfl⟩ := h
          have h0 := hρ f0
          rw [hf] at h0
          obtain ⟨vs, hv, h1, h2⟩ := h0
          exact go f0 hcal fid vs hv l hl (caps.map (.ptr · 0)) ⟨by simp [h1], fun j u d hu hd => by
            rw [List.getElem?_map] at hd
            cases hx : caps[j]? with
            | none => rw [hx] at hd; cases hd
            | some id =>
              rw [hx] at hd
              simp only [Option.map_some, Option.some.injEq] at hd
              subst hd
              obtain ⟨a1, g, a2, a3⟩ := h2 j id hx
              rw [a3] at hu
              cases hu
              exact ⟨a1, g, a2, rfl⟩⟩ hc
      · rename_i fid hf
        cases hl : argsD sto (c.args.toList.map ρ) with
        | none => rw [hl] at h; cases h
        | some l =>
          rw [hl] at h
          simp only [Option.map_some, Option.some.injEq, Prod.mk.injEq] at h
          obtain ⟨rfl, rfl⟩ := h
          have h0 := hρ f0
          rw [hf] at h0
          have h0' : RepV S w (e f0) (.fn fid) := h0
          have hv : e f0 = .func (.func fid) #[] ([] : List Value).toArray := by
            generalize e f0 = v at h0'
            cases h0'; rfl
          have := go f0 hcal fid [] hv l hl [] Pw.nil hc
          rw [List.append_nil] at this
          exact this
      · cases h
    · cases h
  · cases h
/-- A composite slice that stays. -/
theorem lit_stay (hT : T.OK P) {sto : Sto} (hs : SR S gh w sto) {e : Operand → Value} {ρ : Operand → D} (hρ : ∀ x, RepD S gh sto w (e x) (ρ x)) {o : Oper} {t : TypeId} {len : Nat} {ps : Array (Nat × Operand)} (ho : o.op = .buildSlice t len ps) {d : D} (h : evPure T ρ sto o = some d) (lo : Nat) : EffN P lo S gh w sto (execOp e o) d sto := by
  unfold evPure at h
  simp only [ho] at h
  cases hl : evSliceLit T sto t len (ps.toList.map fun p => (p.1, ρ p.2)) with
  | none => rw [hl] at h; cases h
  | some x =>
    rw [hl] at h
    simp only [Option.map_some, Option.some.injEq] at h
    subst h
    obtain ⟨arr, h1, h2, h3, h4, h5⟩ := sliceLit_run (P := P) hT hs hρ hl
    have hb := below_new w (.cells arr x.1)
    obtain ⟨S', hS'⟩ : ∃ S' : Stay, S' = fun b o => S b o ∨ (b = w.heap.size ∧ o < x.2.2.length) := ⟨_, rfl⟩
    have hf : Fr sto.length lo S gh w sto S' gh (w.alloc (.cells arr x.1)) sto := by
      refine ⟨rfl, rfl, rfl, hb.size, fun b o h => ⟨by rw [hS']; exact .inl h, hb.cell (p := ⟨b, o, none⟩) (hs.stay b o h)⟩, fun b hlt _ => hb.block b hlt, fun i _ => ⟨rfl, rfl⟩, fun i g hi hg => .inl ⟨i, hi, hg⟩, fun i e gv _ a1 a2 => ⟨e, gv, a1, a2, KeepE.refl gv e⟩⟩
    refine ⟨_, .slice (some ⟨w.heap.size, 0, none⟩) len len, S', gh, w.alloc (.cells arr x.1), ?_, .inl rfl, ?_, ?_, hf⟩
    · unfold execOp
      simp only [ho, Sem.run_bind, h1, Result.andThen_ok, Sem.run_pure]
    · by_cases hl0 : len = 0
      · rw [if_pos hl0, hl0]
        exact ⟨_, rfl⟩
      rw [if_neg hl0]
      show RepV S' _ _ _
      have hcell : ∀ j, j < x.2.2.length → ∃ u, arr.toList[j]? = some u := fun j hj => ⟨_, List.getElem?_eq_getElem (by rw [Array.length_toList, h3, ← h4]; exact hj)⟩
      refine .sl w.heap.size 0 len len (fun j => (arr.toList[j]?).getD undef) x.2.2 (Nat.le_refl _) h2 (fun j hj => ?_) (fun j c hc => ?_)
      · obtain ⟨u, hu⟩ := hcell j hj
        have hc : x.2.2[j]? = some x.2.2[j] := List.getElem?_eq_getElem hj
        refine ⟨by rw [hS']; exact .inr ⟨rfl, by omega⟩, ?_, ?_⟩
        · rw [hu]; exact (h5 j u _ hu hc).1
        · rw [Nat.zero_add, cell_heap (heap_alloc_new w _), hu]; rfl
      · obtain ⟨u, hu⟩ := hcell j (List.getElem?_eq_some_iff.1 hc).1
        simp only [hu, Option.getD_some]
        exact RepV.mono hf.stable (h5 j u c hu hc).2
    · refine ⟨hs.len, fun i en hi => ?_, hs.inj, fun b o h => ?_⟩
      · obtain ⟨gv, q1, q2⟩ := hs.ent i en hi
        refine ⟨gv, q1, RepE.mono hs hf q2 fun g hg => ?_⟩
        have hlt := q2.lt hg
        refine ⟨hb.block g hlt, fun o => ⟨fun ho => ?_, fun ho => (hf.stable g o ho).1⟩⟩
        rw [hS'] at ho
        rcases ho with ho | ⟨ho, _⟩
        · exact ho
        · omega
      · rw [hS'] at h
        rcases h with h | ⟨rfl, _⟩
        · exact Nat.lt_of_lt_of_le (hs.stay b o h) hb.size
        · simp
/-- A string's bytes that stay. -/
theorem conv_stay (hT : T.OK P) {sto : Sto} (hs : SR S gh w sto) {e : Operand → Value} {ρ : Operand → D} (hρ : ∀ x, RepD S gh sto w (e x) (ρ x)) {o : Oper} {src dst : TypeId} {x : Operand} {s : ByteArray} (ho : o.op = .convert src dst x) (hx : ρ x = .v (.str s)) {d : D} (h : evPure T ρ sto o = some d) (lo : Nat) : EffN P lo S gh w sto (execOp e o) d sto := by
  unfold evPure at h
  simp only [ho, hx] at h
  split at h
  · rename_i q; cases q
  · rename_i i j q1 q2 q3
    have k1 : kd T src = some i.kind := by unfold kd; rw [q1]
    have k2 : kd T dst = some j.kind := by unfold kd; rw [q2]
    unfold evConv at h
    split at h
    · rename_i g1 g2
      split at h
      · rename_i m cs g3 g4
        simp [srcV, view, viewC] at g4
      · cases h
    · rename_i e0 g1 g2
      rw [g1] at k1
      rw [g2] at k2
      have u1 := kd_str hT k1
      have u2 := kd_slice hT k2
      split at h
      · rename_i s' k3 hs'
        cases hs'
        have u3 := kd_int hT k3
        split at h
        · rename_i hsz
          simp only [Option.some.injEq] at h
          subst h
          have hv := hρ x
          rw [hx] at hv
          have hv' := RepV.str_inv hv
          have hrun := Lib.run_convert_string_bytes (P := P) w src dst e0 s u1 u2 u3
          have hb : Below w.heap.size w (Lib.bytesWorld w e0 s) := ⟨rfl, rfl, rfl, by rw [Lib.bytesWorld_size]; omega, fun k hk => Lib.bytesWorld_at_old w e0 s k hk⟩
          have hat := Lib.bytesWorld_at_new w e0 s
          have hge := grownCap_ge w s.size 0 e0
          have hcm : grownCap w s.size 0 e0 ≤ maxLen := grownCap_le_maxLen w s.size 0 e0 (by unfold maxLen; omega)
          obtain ⟨S', hS'⟩ : ∃ S' : Stay, S' = fun b o => S b o ∨ (b = w.heap.size ∧ o < s.size) := ⟨_, rfl⟩
          have hf : Fr sto.length lo S gh w sto S' gh (Lib.bytesWorld w e0 s) sto := by
            refine ⟨rfl, rfl, rfl, hb.size, fun b o h => ⟨by rw [hS']; exact .inl h, hb.cell (p := ⟨b, o, none⟩) (hs.stay b o h)⟩, fun b hlt _ => hb.block b hlt, fun i _ => ⟨rfl, rfl⟩, fun i g hi hg => .inl ⟨i, hi, hg⟩, fun i e gv _ a1 a2 => ⟨e, gv, a1, a2, KeepE.refl gv e⟩⟩
          have hlen : (bytesV s).length = s.size := by unfold bytesV; rw [List.length_map, Array.length_toList]; rfl
          refine ⟨_, .slice (some ⟨w.heap.size, 0, none⟩) s.size (grownCap w s.size 0 e0), S', gh, Lib.bytesWorld w e0 s, ?_, .inl rfl, ?_, ?_, hf⟩
          · unfold execOp
            simp only [ho, hv', Sem.run_bind, hrun, Result.andThen_ok, Sem.run_pure]
          · show RepV S' _ _ _
            refine .sl w.heap.size 0 s.size _ (fun j => .int .u8 (s.data.toList.getD j 0).toNat) (bytesV s) hge hcm (fun j hj => ?_) (fun j c hc => ?_)
            · rw [hlen] at hj
              exact ⟨by rw [hS']; exact .inr ⟨rfl, by omega⟩, rfl, by rw [Nat.zero_add]; exact Lib.bytesWorld_cell w e0 s j hj⟩
            · simp only [bytesV, List.getElem?_map] at hc
              cases hq : s.data.toList[j]? with
              | none => rw [hq] at hc; cases hc
              | some b =>
                rw [hq] at hc
                simp only [Option.map_some, Option.some.injEq] at hc
                subst hc
                simp only [List.getD, hq, Option.getD_some]
                exact .int _ _
          · refine ⟨hs.len, fun i en hi => ?_, hs.inj, fun b o h => ?_⟩
            · obtain ⟨gv, q1, q2⟩ := hs.ent i en hi
              refine ⟨gv, q1, RepE.mono hs hf q2 fun g hg => ?_⟩
              have hlt := q2.lt hg
              refine ⟨hb.block g hlt, fun o => ⟨fun ho => ?_, fun ho => (hf.stable g o ho).1⟩⟩
              rw [hS'] at ho
              rcases ho with ho | ⟨ho, _⟩
              · exact ho
              · omega
            · rw [hS'] at h
              rcases h with h | ⟨rfl, _⟩
              · exact Nat.lt_of_lt_of_le (hs.stay b o h) hb.size
              · rw [Lib.bytesWorld_size]; omega
        · cases h
      · cases h
    · cases h
  · cases h
/-- A new slice of zeros that stays. -/
theorem make_stay (hT : T.OK P) {sto : Sto} (hs : SR S gh w sto) {e : Operand → Value} {ρ : Operand → D} (hρ : ∀ x, RepD S gh sto w (e x) (ρ x)) {o : Oper} {d : D} (h : evMakeP T ρ o = some d) (lo : Nat) : EffN P lo S gh w sto (execOp e o) d sto := by
  unfold evMakeP at h
  split at h
  · rename_i t l c hop
    split at h
    · rename_i e0 k a k' b hk hl hc
      have hu := kd_slice hT hk
      split at h
      · rename_i j hj
        obtain ⟨ti, hi, hz1, hz2, hz3, hz4⟩ := tab_full hT hj
        split at h
        · rename_i z hz
          split at h
          · rename_i hcc
            obtain ⟨rfl, c1, c2, c3, c4, c5⟩ := hcc
            simp only [Option.some.injEq] at h
            subst h
            have h1 := hρ l
            have h2 := hρ c
            rw [hl] at h1
            rw [hc] at h2
            have h1' := RepV.int_inv h1
            have h2' := RepV.int_inv h2
            obtain ⟨n, rfl⟩ := Int.eq_ofNat_of_zero_le c1
            simp only [Int.toNat_natCast]
            have hzr := zeroV_rep hs.stay hz
            obtain ⟨w', q1, q2, q3⟩ := run_make_full (P := P) w 0 t e0 ti j.zero j.size hu hi hz1 hz2 k k' n (by rw [hz3]; have : j.bytes * n ≤ 100000 * 1000000000 := Nat.mul_le_mul c3 (by omega); omega) (by unfold maxLen; omega) (Nat.zero_le _)
            rcases q2.2 with ⟨h0, _⟩ | ⟨g', cap', cur, h0, hge, hh, hn, hcm, hcs, htk⟩
            · cases h0
            · simp only [Value.slice.injEq, Option.some.injEq, Addr.mk.injEq, and_true, true_and] at h0
              obtain ⟨rfl, rfl⟩ := h0
              have hb : Below w.heap.size w w' := ⟨q3.os, q3.tape, q3.output, q3.size, fun k hk => q3.block k hk (by simp)⟩
              have hcur : cur.toList = (madeCells j.zero.cells (n * j.size)).toList := by
                rw [← htk, List.take_of_length_le (by rw [Array.length_toList, hcs]; exact Nat.le_refl _)]
              have hm := made_rep (S := S) (w := w) hzr (by omega) n ((Array.range (n * j.zero.cells.size)).map (j.zero.cells[· % j.zero.cells.size]!)) rfl
              have hmk : (madeCells j.zero.cells (n * j.size)) = (Array.range (n * j.zero.cells.size)).map (j.zero.cells[· % j.zero.cells.size]!) := by
                rw [hz4]; unfold madeCells; rw [hz4]
              rw [← hmk, ← hcur] at hm
              have hgl : w.heap.size < w'.heap.size := (Array.getElem?_eq_some_iff.1 hh).1
              obtain ⟨S', hS'⟩ : ∃ S' : Stay, S' = fun b o => S b o ∨ (b = w.heap.size ∧ o < (repl n z).length) := ⟨_, rfl⟩
              have hf : Fr sto.length lo S gh w sto S' gh w' sto := by
                refine ⟨hb.os, hb.tape, hb.output, hb.size, fun b o h => ⟨by rw [hS']; exact .inl h, hb.cell (p := ⟨b, o, none⟩) (hs.stay b o h)⟩, fun b hlt _ => hb.block b hlt, fun i _ => ⟨rfl, rfl⟩, fun i g hi hg => .inl ⟨i, hi, hg⟩, fun i e gv _ a1 a2 => ⟨e, gv, a1, a2, KeepE.refl gv e⟩⟩
              refine ⟨_, .slice (some ⟨w.heap.size, 0, none⟩) n n, S', gh, w', ?_, .inl rfl, ?_, ?_, hf⟩
              · unfold execOp
                simp only [hop, h1', h2', Sem.run_bind, q1, Result.andThen_ok, Sem.run_pure]
              · show RepV S' _ _ _
                have hcell : ∀ j, j < (repl n z).length → ∃ u, cur.toList[j]? = some u := fun j hj => ⟨_, List.getElem?_eq_getElem (by rw [hm.1]; exact hj)⟩
                refine .sl w.heap.size 0 n n (fun j => (cur.toList[j]?).getD undef) (repl n z) (Nat.le_refl _) hcm (fun j hj => ?_) (fun j c hc => ?_)
                · obtain ⟨u, hu⟩ := hcell j hj
                  have hc : (repl n z)[j]? = some (repl n z)[j] := List.getElem?_eq_getElem hj
                  refine ⟨by rw [hS']; exact .inr ⟨rfl, by omega⟩, ?_, ?_⟩
                  · rw [hu]; exact (hm.2 j u _ hu hc).1
                  · rw [Nat.zero_add, cell_heap hh, hu]; rfl
                · obtain ⟨u, hu⟩ := hcell j (List.getElem?_eq_some_iff.1 hc).1
                  simp only [hu, Option.getD_some]
                  exact RepV.mono hf.stable (hm.2 j u c hu hc).2
              · refine ⟨hs.len, fun i en hi => ?_, hs.inj, fun b o h => ?_⟩
                · obtain ⟨gv, q1, q2⟩ := hs.ent i en hi
                  refine ⟨gv, q1, RepE.mono hs hf q2 fun g hg => ?_⟩
                  have hlt := q2.lt hg
                  refine ⟨hb.block g hlt, fun o => ⟨fun ho => ?_, fun ho => (hf.stable g o ho).1⟩⟩
                  rw [hS'] at ho
                  rcases ho with ho | ⟨ho, _⟩
                  · exact ho
                  · omega
                · rw [hS'] at h
                  rcases h with h | ⟨rfl, _⟩
                  · exact Nat.lt_of_lt_of_le (hs.stay b o h) hb.size
                  · exact hgl
          · cases h
        · cases h
      · cases h
    · cases h
  · cases h
/-- The entries that are older than the call name none of its own. -/
def OutSc (n0 : Nat) (sto : Sto) : Prop := ∀ i ds, i < n0 → sto[i]? = some (.cells ds) → scopedL n0 ds = true
theorem scopedL_iff {m : Nat} : ∀ {ds : List D}, scopedL m ds = true ↔ ∀ d ∈ ds, d.inside m = true
  | [] => by simp [scopedL]
  | d :: ds => by simp [scopedL, scopedL_iff (ds := ds)]
theorem scopedL_app {m : Nat} {as1 bs : List D} : scopedL m (as1 ++ bs) = true ↔ scopedL m as1 = true ∧ scopedL m bs = true := by
  simp only [scopedL_iff, List.mem_append]
  exact ⟨fun h => ⟨fun d hd => h d (.inl hd), fun d hd => h d (.inr hd)⟩, fun h d hd => hd.elim (h.1 d) (h.2 d)⟩
theorem OutSc.push {sto : Sto} (h : OutSc n0 sto) (hn : n0 ≤ sto.length) (e : Ent) : OutSc n0 (sto ++ [e]) := fun i ds hi hd => h i ds hi (by rw [List.getElem?_append_left (by omega)] at hd; exact hd)
theorem OutSc.setArr {sto : Sto} (h : OutSc n0 sto) {id : Nat} {es : Option (TypeId × Nat)} {wr : Bool} {n : Nat} {cs : List V} : OutSc n0 (sto.set id (.arr es wr n cs)) := fun i ds hi hd => by
  rcases Nat.decEq id i with hne | heq
  · rw [List.getElem?_set_ne hne] at hd; exact h i ds hi hd
  · subst heq
    rw [List.getElem?_set] at hd
    split at hd
    · split at hd <;> cases hd
    · exact h _ ds hi hd
theorem OutSc.setMap {sto : Sto} (h : OutSc n0 sto) {id : Nat} {k : IntKind} {kvs : List (Int × V)} : OutSc n0 (sto.set id (.map k kvs)) := fun i ds hi hd => by
  rcases Nat.decEq id i with hne | heq
  · rw [List.getElem?_set_ne hne] at hd; exact h i ds hi hd
  · subst heq
    rw [List.getElem?_set] at hd
    split at hd
    · split at hd <;> cases hd
    · exact h _ ds hi hd
theorem scopedL_v {m : Nat} (xs : List V) : scopedL m (xs.map D.v) = true := scopedL_iff.2 fun d hd => by
  obtain ⟨x, _, rfl⟩ := List.mem_map.1 hd
  rfl
theorem OutSc.setV {sto : Sto} (h : OutSc n0 sto) {id o l : Nat} {ds : List D} {xs : List V} (hes : sto[id]? = some (.cells ds)) : OutSc n0 (sto.set id (.cells (ds.take o ++ xs.map D.v ++ ds.drop l))) := fun i es hi hd => by
  rcases Nat.decEq id i with hne | heq
  · rw [List.getElem?_set_ne hne] at hd; exact h i es hi hd
  · subst heq
    rw [List.getElem?_set_self (List.getElem?_eq_some_iff.1 hes).1] at hd
    simp only [Option.some.injEq, Ent.cells.injEq] at hd
    subst hd
    have h1 := h id ds hi hes
    rw [scopedL_iff] at h1
    rw [scopedL_app, scopedL_app]
    exact ⟨⟨scopedL_iff.2 fun d hd => h1 d (List.mem_of_mem_take hd), scopedL_v xs⟩, scopedL_iff.2 fun d hd => h1 d (List.mem_of_mem_drop hd)⟩
theorem evEff_out {wr : Bool} {ρ : Operand → D} {sto : Sto} {o : Oper} {d : D} {sto' : Sto} (hn : n0 ≤ sto.length) (ho : OutSc n0 sto) (h : evEff T n0 lo wr ρ sto o = some (d, sto')) : OutSc n0 sto' := by
  unfold evEff at h
  split at h
  · rename_i t x _
    cases hc : (ρ x).cells with
    | none => rw [hc] at h; cases h
    | some ds => rw [hc] at h; simp only [Option.map_some, Option.some.injEq, Prod.mk.injEq] at h; rw [← h.2]; exact ho.push hn _
  · split at h
    · rename_i i _
      cases hc : zeroD i with
      | none => rw [hc] at h; cases h
      | some ds => rw [hc] at h; simp only [Option.map_some, Option.some.injEq, Prod.mk.injEq] at h; rw [← h.2]; exact ho.push hn _
    · cases h
  · rename_i t len ps _
    cases hl : evSliceLit T sto t len (ps.toList.map fun p => (p.1, ρ p.2)) with
    | none => rw [hl] at h; cases h
    | some x => rw [hl] at h; simp only [Option.map_some, Option.some.injEq, Prod.mk.injEq] at h; rw [← h.2]; exact ho.push hn _
  · split at h
    · split at h
      · split at h
        · split at h
          · simp only [Option.some.injEq, Prod.mk.injEq] at h; rw [← h.2]; exact ho.push hn _
          · cases h
        · cases h
      · cases h
    · cases h
  · split at h
    · rename_i i ds _ _
      split at h
      · split at h
        · rename_i id off _
          split at h
          · rename_i cs hcs
            split at h
            · rename_i hc
              simp only [Option.some.injEq, Prod.mk.injEq] at h
              rw [← h.2]
              intro k es hk he
              rcases Nat.decEq id k with hne | heq
              · rw [List.getElem?_set_ne hne] at he; exact ho k es hk he
              · subst heq
                rw [List.getElem?_set_self (by omega)] at he
                simp only [Option.some.injEq, Ent.cells.injEq] at he
                subst he
                have h1 := ho id cs hk hcs
                rw [scopedL_iff] at h1
                rw [scopedL_app, scopedL_app]
                refine ⟨⟨scopedL_iff.2 fun d hd => h1 d (List.mem_of_mem_take hd), hc.2.2 hk⟩, scopedL_iff.2 fun d hd => h1 d (List.mem_of_mem_drop hd)⟩
            · cases h
          · cases h
        · split at h
          · split at h
            · simp only [Option.some.injEq, Prod.mk.injEq] at h; rw [← h.2]; exact ho.setArr
            · cases h
          · cases h
        · cases h
      · cases h
    · cases h
  · unfold evMakeMap at h
    split at h
    · split at h
      · simp only [Option.some.injEq, Prod.mk.injEq] at h; rw [← h.2]; exact ho.push hn _
      · simp only [Option.some.injEq, Prod.mk.injEq] at h; rw [← h.2]; exact ho.push hn _
      · cases h
    · cases h
  · unfold evUpdate at h
    split at h
    · split at h
      · split at h
        · simp only [Option.some.injEq, Prod.mk.injEq] at h; rw [← h.2]; exact ho.setMap
        · cases h
      · cases h
    · cases h
  · split at h
    · split at h
      · unfold evAppend at h
        (repeat' split at h) <;> first | (cases h; done) | (simp only [Option.some.injEq, Prod.mk.injEq] at h; rw [← h.2]; first | exact ho | exact ho.push hn _ | exact ho.setArr)
      · split at h
        · unfold evAppendZ at h
          split at h
          · split at h
            · split at h
              · split at h
                · simp only [Option.some.injEq, Prod.mk.injEq] at h; rw [← h.2]; exact ho.setArr
                · cases h
              · cases h
            · cases h
          · cases h
        · cases h
    · unfold evClear at h
      split at h
      · split at h
        · split at h
          · split at h
            · simp only [Option.some.injEq, Prod.mk.injEq] at h
              rw [← h.2]
              split
              · exact ho
              · exact ho.setArr
            · cases h
          · cases h
        · cases h
      · cases h
    · split at h
      · unfold evCopy at h
        (repeat' split at h) <;> first | (cases h; done) | (simp only [Option.some.injEq, Prod.mk.injEq] at h; rw [← h.2]; first | exact ho.setArr | exact ho.setV (by assumption))
      · cases h
    · unfold evDelete at h
      split at h
      · split at h
        · split at h
          · simp only [Option.some.injEq, Prod.mk.injEq] at h; rw [← h.2]; exact ho.setMap
          · cases h
        · cases h
      · cases h
    · cases h
  · unfold evBytes at h
    (repeat' split at h) <;> first | (cases h; done) | (simp only [Option.some.injEq, Prod.mk.injEq] at h; rw [← h.2]; exact ho.push hn _)
  · cases h
/-- One operation. -/
theorem op_step (hT : T.OK P) {Q : St → Prop} {Q' : Exit → Act → World → Prop} {K : Act → World → Prop} {o : Oper} {rest : List Oper} (hn : n0 ≤ st.sto.length) (hlo : lo ≤ n0) (hout : OutSc n0 st.sto) (h : EvOps T (CallOK P) n0 lo wt draw ops Q (o :: rest) st) (hrs : RS S gh w a st)
    (hK : ∀ a' w' st' S' gh', EvOps T (CallOK P) n0 lo wt draw ops Q rest st' → RS S' gh' w' a' st' → Fr n0 lo S gh w st.sto S' gh' w' st'.sto → n0 ≤ st'.sto.length → OutSc n0 st'.sto → K a' w') :
    if Region.wanted o (yielded ops a.tmps) = true then o.wp P a w K Q' else K (a.put o.dst undef) w := by
  have hlen : ∀ {S' : Stay} {gh' : List Value} {w' : World} {sto' : Sto}, Fr st.sto.length lo S gh w st.sto S' gh' w' sto' → n0 ≤ sto'.length := by
    intro S' gh' w' sto' hf
    rcases Nat.eq_zero_or_pos n0 with h0 | h0
    · omega
    · obtain ⟨gv, hg, _⟩ := hrs.sto.ent (n0 - 1) _ (List.getElem?_eq_getElem (by omega))
      obtain ⟨e', gv', h1, _⟩ := hf.keep (n0 - 1) _ gv (by omega) (List.getElem?_eq_getElem (by omega)) hg
      have := (List.getElem?_eq_some_iff.1 h1).1
      omega
  have eff : ∀ {d : D} {sto' : Sto}, EffN P lo S gh w st.sto (execOp a.eval o) d sto' → OutSc n0 sto' → EvOps T (CallOK P) n0 lo wt draw ops Q rest (St.put { st with sto := sto' } o.dst d) → o.wp P a w K Q' := by
    intro d sto' ⟨nx, v, S', gh', w', h1, h2, h3, h4, h5⟩ hos k
    have hrs' := RS.put hrs h4 h5 h3 o.dst
    have hst : (St.put { st with sto := sto' } o.dst d).sto = sto' := by cases o.dst <;> rfl
    have fin := hK (a.put o.dst v) w' _ S' gh' k hrs' (by rw [hst]; exact h5.weaken hn) (by rw [hst]; exact hlen h5) (by rw [hst]; exact hos)
    unfold Oper.wp
    rw [h1]
    rcases h2 with rfl | ⟨rfl, rfl⟩
    · exact fin
    · exact fin
  unfold EvOps at h
  split at h
  · rename_i hg
    rw [if_pos (guard_sound hrs hg)]
    rcases h with ⟨d, h1, _, h2⟩ | ⟨d, sto', h1, _, h2⟩ | ⟨f, args, r, sto', h1, h2, _, hso, h3⟩ | ⟨f, args, r, sto', _, _, h1, h2, _, hso, h3⟩
    · by_cases hmk : evPure T (opd st.env) st.sto o = some d
      case neg =>
        unfold evPureM at h1
        split at h1
        · rename_i d' hd'
          simp only [Option.some.injEq] at h1
          subst h1
          exact absurd hd' hmk
        · exact eff (make_stay hT hrs.sto hrs.opd h1 lo) hout h2
      replace h1 := hmk
      by_cases hb : ∃ t n ps, o.op = .buildSlice t n ps
      · obtain ⟨t, n, ps, ho⟩ := hb
        exact eff (lit_stay hT hrs.sto hrs.opd ho h1 lo) hout h2
      · by_cases hb2 : ∃ src dst x s, o.op = .convert src dst x ∧ opd st.env x = .v (.str s)
        · obtain ⟨src, dst, x, s, ho, hx⟩ := hb2
          exact eff (conv_stay hT hrs.sto hrs.opd ho hx h1 lo) hout h2
        obtain ⟨u, q1, q2⟩ := evPure_sound hT hrs.sto hrs.opd (fun t n ps ho => hb ⟨t, n, ps, ho⟩) (fun src dst x ho s hx => hb2 ⟨src, dst, x, s, ho, hx⟩) h1
        exact eff ⟨.value u, u, S, gh, w, q1, .inl rfl, q2, hrs.sto, Fr.refl _ _ _ _ _ _⟩ hout h2
    · exact eff (evEff_sound hT (by omega) hrs.sto hrs.opd h1) (evEff_out hn hout h1) h2
    · obtain ⟨hc, hcall⟩ := h2
      obtain ⟨vals, q1, q2⟩ := evCallee_sound hrs.sto hrs.opd h1 hc
      unfold Oper.wp
      rw [q1]
      refine Calls.mono (hcall S gh w vals (by cases draw <;> simp <;> omega) hrs.sto hrs.glob q2) ?_
      rintro e w' ⟨v, S', gh', rfl, r1, r2, r3, r4⟩
      have r3' : Fr st.sto.length lo S gh w st.sto S' gh' w' sto' := by
        cases draw with
        | false => simpa using r3
        | true =>
          simp only [if_true] at r3
          refine { r3 with block := fun b hb hn => r3.block b hb fun i hi hg => hn i (by omega) hg, low := fun i hi => r3.low i (by omega), new := fun i g hi hg => ?_ }
          rcases Nat.lt_or_ge i st.sto.length with hlt | hge
          · left
            refine ⟨i, hi, ?_⟩
            unfold blkAt at hg ⊢
            rw [(r3.low i hlt).1] at hg
            exact hg
          · rcases r3.new i g hge hg with ⟨j, hj, hg'⟩ | h'
            · exact .inl ⟨j, by omega, hg'⟩
            · exact .inr h'
      have hrs' := RS.put hrs r2 r3' (d := r) r1 o.dst
      have hst : (St.put { st with sto := sto' } o.dst r).sto = sto' := by cases o.dst <;> rfl
      exact hK _ w' _ S' gh' h3 hrs' (by rw [hst]; exact r3'.weaken hn) (by rw [hst]; omega) (by
        rw [hst]
        rcases hso with rfl | hso
        · exact hout
        · intro i ds hi hd
          rcases Nat.lt_or_ge i lo with hl | hl
          · rw [(r3'.low i hl).2] at hd; exact hout i ds hi hd
          · exact (hso i ds hl hi hd).elim (fun h => hout i ds hi h) id)
    · obtain ⟨hc, hcall⟩ := h2
      obtain ⟨vals, q1, q2⟩ := evCallee_sound hrs.sto hrs.opd h1 hc
      unfold Oper.wp
      rw [q1]
      refine Calls.mono (hcall S gh w vals (by omega) hrs.sto hrs.glob q2) ?_
      rintro e w' ⟨v, S', gh', rfl, r1, r2, r3, r4⟩
      have hrs' := RS.put hrs r2 r3 (d := r) r1 o.dst
      have hst : (St.put { st with sto := sto' } o.dst r).sto = sto' := by cases o.dst <;> rfl
      exact hK _ w' _ S' gh' h3 hrs' (by rw [hst]; exact r3.weaken hn) (by rw [hst]; omega) (by
        rw [hst]
        intro i ds hi hd
        rcases Nat.lt_or_ge i lo with hl | hl
        · rw [(r3.low i hl).2] at hd; exact hout i ds hi hd
        · exact (hso i ds hl hi hd).elim (fun h => hout i ds hi h) id)
  · rename_i hg
    rw [if_neg (by rw [guard_sound hrs hg]; simp)]
    exact hK _ w _ S gh h (RS.put hrs hrs.sto (Fr.refl st.sto.length lo _ _ _ _) (d := .undef) rfl o.dst) (by cases o.dst <;> exact Fr.refl _ _ _ _ _ _) (by cases o.dst <;> exact hn) (by cases o.dst <;> exact hout)
  · exact h.elim
def okExit : Exit → Bool
  | .normal => true
  | .exit _ => true
  | .ret => true
  | _ => false
/-- What a piece of code leaves. -/
def PostOK (n0 lo : Nat) (S : Stay) (gh : List Value) (w : World) (sto : Sto) (R : Exit → St → Prop) (e : Exit) (a' : Act) (w' : World) : Prop :=
  okExit e = true ∧ ∃ st' S' gh', R e st' ∧ RS S' gh' w' a' st' ∧ Fr n0 lo S gh w sto S' gh' w' st'.sto ∧ n0 ≤ st'.sto.length ∧ OutSc n0 st'.sto
theorem PostOK.trans {S' : Stay} {gh' : List Value} {w' : World} {sto sto' : Sto} {R : Exit → St → Prop} (hf : Fr n0 lo S gh w sto S' gh' w' sto') {e : Exit} {a2 : Act} {w2 : World} (h : PostOK n0 lo S' gh' w' sto' R e a2 w2) : PostOK n0 lo S gh w sto R e a2 w2 := by
  obtain ⟨h0, st2, S2, gh2, h1, h2, h3, h4⟩ := h
  exact ⟨h0, st2, S2, gh2, h1, h2, hf.trans h3, h4⟩
/-- A region in the order of the text. -/
theorem evOps_list (hT : T.OK P) {R : Exit → St → Prop} {S0 : Stay} {gh0 : List Value} {w0 : World} {sto0 : Sto} (hlo : lo ≤ n0) : ∀ (l : List Oper) (st : St) (S : Stay) (gh : List Value) (a : Act) (w : World), n0 ≤ st.sto.length → OutSc n0 st.sto → EvOps T (CallOK P) n0 lo wt draw ops (R .normal) l st → RS S gh w a st → Fr n0 lo S0 gh0 w0 sto0 S gh w st.sto →
    wpList P ops (PostOK n0 lo S0 gh0 w0 sto0 R) l a w
  | [], st, S, gh, a, w, hn, ho, h, hrs, hf => ⟨rfl, st, S, gh, h, hrs, hf, hn, ho⟩
  | o :: rest, st, S, gh, a, w, hn, ho, h, hrs, hf => by
    refine wpList_step fun K hK => ?_
    exact op_step hT hn hlo ho h hrs fun a' w' st' S' gh' h1 h2 h3 h4 h5 => hK a' w' (evOps_list hT hlo rest st' S' gh' a' w' h4 h5 h1 h2 (hf.trans h3))
end
end Go.Proofs.Ytghdanpigohnjaa
namespace Go.Proofs.Ytghdanpigohnjaa
open Go Go.RowKit

section
variable {T : Tab} {X : CallP} {n0 lo : Nat} {wt : List Tmp} {ops : Array Oper}
theorem evPure_kind {ρ : Operand → D} {sto : Sto} {o : Oper} {d : D} (h : evPure T ρ sto o = some d) : effKind o = 0 := by
  unfold evPure at h
  unfold effKind
  cases hop : o.op <;> rw [hop] at h <;> simp only at h ⊢
  all_goals first | (cases h; done) | skip
  case call c =>
    split at h
    · rename_i b hb
      simp only [hb]
      cases b <;> first | rfl | (simp only [evBuiltin] at h; cases h)
    · cases h
theorem evPureM_kind {ρ : Operand → D} {sto : Sto} {o : Oper} {d : D} (h : evPureM T ρ sto o = some d) : effKind o = 0 := by
  unfold evPureM at h
  split at h
  · rename_i h'; exact evPure_kind h'
  · unfold evMakeP at h
    split at h
    · rename_i hop; unfold effKind; rw [hop]
    · cases h
theorem evEff_kind {wr : Bool} {ρ : Operand → D} {sto : Sto} {o : Oper} {x : D × Sto} (h : evEff T n0 lo wr ρ sto o = some x) : effKind o ≠ 3 := by
  unfold evEff at h
  unfold effKind
  cases hop : o.op <;> rw [hop] at h <;> simp only at h ⊢
  all_goals first | (intro h; cases h; done) | (cases h; done) | skip
  case call c =>
    split at h
    · rename_i hb _ _
      simp only [hb]
      intro h; cases h
    · rename_i hb _ _
      simp only [hb]
      intro h; cases h
    · rename_i hb _ _
      simp only [hb]
      intro h; cases h
    · rename_i hb _ _
      simp only [hb]
      intro h; cases h
    · cases h
theorem evCallee_kind {ρ : Operand → D} {sto : Sto} {o : Oper} {x : FuncId × List D} (h : evCallee ρ sto o = some x) : effKind o = 3 := by
  unfold evCallee at h
  unfold effKind
  split at h
  · rename_i hop
    simp only [hop]
    split at h
    · rename_i hb
      simp only [hb]
    · cases h
  · cases h
theorem map_agree {ρ ρ' : Operand → D} {l : List Operand} (h : ∀ x ∈ l, ρ x = ρ' x) : l.map ρ = l.map ρ' := List.map_congr_left h
theorem parts_agree {ρ ρ' : Operand → D} {ps : Array (Nat × Operand)} (h : ∀ x ∈ (ps.toList.map (·.2)).toArray, ρ x = ρ' x) : (ps.toList.map fun p => (p.1, ρ p.2)) = ps.toList.map fun p => (p.1, ρ' p.2) := by
  apply List.map_congr_left
  intro p hp
  rw [h p.2 (by simp only [List.mem_toArray]; exact List.mem_map.2 ⟨p, hp, rfl⟩)]
theorem opt_agree {ρ ρ' : Operand → D} {m : Option Operand} (h : ∀ x ∈ m.toArray, ρ x = ρ' x) : m.map ρ = m.map ρ' := by
  cases m with
  | none => rfl
  | some x => simp only [Option.map_some]; rw [h x (by simp)]
theorem evPure_congr {ρ ρ' : Operand → D} {sto : Sto} {o : Oper} (h : ∀ x ∈ o.op.operands, ρ x = ρ' x) : evPure T ρ sto o = evPure T ρ' sto o := by
  unfold evPure
  cases hop : o.op <;> rw [hop] at h <;> simp only [Op.operands] at h ⊢
  case move x => rw [h x (by simp)]
  case assign x => rw [h x (by simp)]
  case pick c a b => rw [h c (by simp), h a (by simp), h b (by simp)]
  case build t ps => rw [parts_agree h]
  case buildSlice t n ps => rw [parts_agree h]
  case load t x => rw [h x (by simp)]
  case nilCheck x => rw [h x (by simp)]
  case binOp op t x y ty => rw [h x (by simp), h y (by simp)]
  case unOp op t x => rw [h x (by simp)]
  case convert s t x => rw [h x (by simp)]
  case sliceToArrayPointer t x => rw [h x (by simp)]
  case makeFunc fn f c =>
    have hc : c.toList.map ρ = c.toList.map ρ' := map_agree fun x hx => h x (by simp; exact .inr (by simpa using hx))
    cases fn <;> simp only [hc]
  case slice t x l hi m =>
    rw [h x (by simp), opt_agree (m := l) (fun y hy => h y (by simp at hy ⊢; simp [hy])), opt_agree (m := hi) (fun y hy => h y (by simp at hy ⊢; simp [hy])), opt_agree (m := m) (fun y hy => h y (by simp at hy ⊢; simp [hy]))]
  case fieldAddr t x f => rw [h x (by simp)]
  case field t x f => rw [h x (by simp)]
  case indexAddr t x i => rw [h x (by simp), h i (by simp)]
  case index t x i => rw [h x (by simp), h i (by simp)]
  case extract x i => rw [h x (by simp)]
  case lookup t x i ok => rw [h x (by simp), h i (by simp)]
  case call c =>
    have hc : c.args.toList.map ρ = c.args.toList.map ρ' := map_agree fun x hx => h x (by simp only [Call.operands, Array.mem_append]; exact .inr (by simpa using hx))
    rw [hc]
theorem evPureM_congr {ρ ρ' : Operand → D} {sto : Sto} {o : Oper} (h : ∀ x ∈ o.op.operands, ρ x = ρ' x) : evPureM T ρ sto o = evPureM T ρ' sto o := by
  unfold evPureM
  rw [evPure_congr h]
  have : evMakeP T ρ o = evMakeP T ρ' o := by
    unfold evMakeP
    cases hop : o.op <;> rw [hop] at h <;> simp only [Op.operands] at h ⊢
    case makeSlice t l c => rw [h l (by simp), h c (by simp)]
  rw [this]
theorem evEff_congr {wr : Bool} {ρ ρ' : Operand → D} {sto : Sto} {o : Oper} (h : ∀ x ∈ o.op.operands, ρ x = ρ' x) : evEff T n0 lo wr ρ sto o = evEff T n0 lo wr ρ' sto o := by
  unfold evEff
  cases hop : o.op <;> rw [hop] at h <;> simp only [Op.operands] at h ⊢
  case box t x => rw [h x (by simp)]
  case buildSlice t n ps => rw [parts_agree h]
  case makeSlice t l c => rw [h l (by simp), h c (by simp)]
  case store t p x => rw [h p (by simp), h x (by simp)]
  case makeMap t r => rw [opt_agree h]
  case mapUpdate t m x v => rw [h m (by simp), h x (by simp), h v (by simp)]
  case convert s t x => rw [h x (by simp)]
  case call c =>
    have hc : ∀ x ∈ c.args.toList, ρ x = ρ' x := fun x hx => h x (by simp only [Call.operands, Array.mem_append]; exact .inr (by simpa using hx))
    split
    · rename_i x y t t' hb ha ht
      rw [hc x (by rw [ha]; simp), hc y (by rw [ha]; simp)]
    · rename_i x t hb ha ht
      rw [hc x (by rw [ha]; simp)]
    · rename_i x y t t' hb ha ht
      rw [hc x (by rw [ha]; simp), hc y (by rw [ha]; simp)]
    · rename_i m x t t' hb ha ht
      rw [hc m (by rw [ha]; simp), hc x (by rw [ha]; simp)]
    · rfl
theorem evCallee_congr {ρ ρ' : Operand → D} {sto : Sto} {o : Oper} (h : ∀ x ∈ o.op.operands, ρ x = ρ' x) : evCallee ρ sto o = evCallee ρ' sto o := by
  unfold evCallee
  cases hop : o.op <;> rw [hop] at h <;> simp only [Op.operands] at h ⊢
  case call c =>
    have hc : c.args.toList.map ρ = c.args.toList.map ρ' := map_agree fun x hx => h x (by simp only [Call.operands, Array.mem_append]; exact .inr (by simpa using hx))
    split
    · rename_i f hf
      rw [h f (by simp only [Call.operands, hf, Array.mem_append]; exact .inl (by simp)), hc]
    · rfl
/-- What an operation yields. -/
def ValR (T : Tab) (X : CallP) (n0 lo : Nat) (wt : List Tmp) (ops : Array Oper) (o : Oper) (env : List D) (sto : Sto) (d : D) (sto' : Sto) : Prop :=
  (guardD ops o env = some true ∧ ((evPureM T (opd env) sto o = some d ∧ ((needsFree ops o = true → ∀ s, (aMode wt = true → Own true n0 sto s) → evPureM T (opd env) s o = some d) ∧ (wCall wt = true → besideCall ops o = true → ∀ s, Own (aMode wt) n0 sto s → evPureM T (opd env) s o = some d)) ∧ sto' = sto) ∨
    (evEff T n0 lo (wrOf wt o) (opd env) sto o = some (d, sto') ∧ effKind o ≠ 0 ∧ (aMode wt = true → Own true n0 sto sto')) ∨
    (∃ f args r, d = r ∧ evCallee (opd env) sto o = some (f, args) ∧ X f args sto sto.length r sto ∧ sto' = sto ∧ needsFree ops o = needsFree ops o) ∨
    (∃ f args r, d = r ∧ wCall wt = true ∧ aloneCall ops o = true ∧ evCallee (opd env) sto o = some (f, args) ∧ X f args sto lo r sto' ∧ Own (aMode wt) n0 sto sto' ∧ ∀ i ds, lo ≤ i → i < n0 → sto'[i]? = some (.cells ds) → sto[i]? = some (.cells ds) ∨ scopedL n0 ds = true))) ∨
  (guardD ops o env = some false ∧ d = .undef ∧ sto' = sto)
theorem evOps_cons {Q : St → Prop} {o : Oper} {rest : List Oper} {st : St} : EvOps T X n0 lo wt true ops Q (o :: rest) st ↔ ∃ d sto', ValR T X n0 lo wt ops o st.env st.sto d sto' ∧ EvOps T X n0 lo wt true ops Q rest (St.put ⟨st.env, sto'⟩ o.dst d) := by
  rw [EvOps]
  constructor
  · intro h
    split at h
    · rename_i hg
      rcases h with ⟨d, h1, h2, h3⟩ | ⟨d, sto', h1, h2, h3⟩ | ⟨f, args, r, sto', h1, h2, h3, _, h4⟩ | ⟨f, args, r, sto', hw, ha, h1, h2, h3, h5, h4⟩
      · exact ⟨d, st.sto, .inl ⟨hg, .inl ⟨h1, h2 rfl, rfl⟩⟩, h3⟩
      · exact ⟨d, sto', .inl ⟨hg, .inr (.inl ⟨h1, h2 rfl⟩)⟩, h3⟩
      · obtain rfl := h3 rfl
        exact ⟨r, st.sto, .inl ⟨hg, .inr (.inr (.inl ⟨f, args, r, rfl, h1, h2, rfl, rfl⟩))⟩, h4⟩
      · exact ⟨r, sto', .inl ⟨hg, .inr (.inr (.inr ⟨f, args, r, rfl, hw, ha, h1, h2, h3, h5⟩))⟩, h4⟩
    · rename_i hg
      exact ⟨.undef, st.sto, .inr ⟨hg, rfl, rfl⟩, h⟩
    · exact h.elim
  · rintro ⟨d, sto', ⟨hg, h⟩ | ⟨hg, rfl, rfl⟩, k⟩
    · rw [hg]
      rcases h with ⟨h1, h2, rfl⟩ | ⟨h1, h2⟩ | ⟨f, args, r, rfl, h1, h2, rfl, _⟩ | ⟨f, args, r, rfl, hw, ha, h1, h2, h3, h5⟩
      · exact .inl ⟨d, h1, fun _ => h2, k⟩
      · exact .inr (.inl ⟨d, sto', h1, fun _ => h2, k⟩)
      · exact .inr (.inr (.inl ⟨f, args, d, st.sto, h1, h2, fun _ => rfl, .inl rfl, k⟩))
      · exact .inr (.inr (.inr ⟨f, args, d, sto', hw, ha, h1, h2, h3, h5, k⟩))
    · rw [hg]; exact k
/-- A step that leaves the entries, or a call that writes those that are not the call's own. -/
theorem ValR.same {o : Oper} {env : List D} {sto sto' : Sto} {d : D} (h : ValR T X n0 lo wt ops o env sto d sto') (hk : effKind o = 0 ∨ effKind o = 3) : sto' = sto ∨ (effKind o = 3 ∧ wCall wt = true ∧ aloneCall ops o = true ∧ Own (aMode wt) n0 sto sto') := by
  rcases h with ⟨hg, ⟨h1, h2, rfl⟩ | ⟨h1, h2⟩ | ⟨f, args, r, rfl, h1, h2, rfl, _⟩ | ⟨f, args, r, rfl, hw, ha, h1, h2, h3, h5⟩⟩ | ⟨hg, rfl, rfl⟩
  · exact .inl rfl
  · rcases hk with hk | hk
    · exact absurd hk h2.1
    · exact absurd hk (evEff_kind h1)
  · exact .inl rfl
  · exact .inr ⟨evCallee_kind h1, hw, ha, h3⟩
  · exact .inl rfl
theorem ValR.same0 {o : Oper} {env : List D} {sto sto' : Sto} {d : D} (h : ValR T X n0 lo wt ops o env sto d sto') (hk : effKind o = 0) : sto' = sto :=
  (h.same (.inl hk)).resolve_right fun h => by rw [hk] at h; cases h.1
theorem ValR.free {o : Oper} {env : List D} {sto sto' : Sto} {d : D} (h : ValR T X n0 lo wt ops o env sto d sto') (hk : effKind o = 0) (hn : needsFree ops o = true) (s : Sto) (hs : aMode wt = true → Own true n0 sto s) : ValR T X n0 lo wt ops o env s d s := by
  rcases h with ⟨hg, ⟨h1, h2, rfl⟩ | ⟨h1, h2⟩ | ⟨f, args, r, rfl, h1, h2, rfl, _⟩ | ⟨f, args, r, rfl, hw, ha, h1, h2, h3, h5⟩⟩ | ⟨hg, rfl, rfl⟩
  · exact .inl ⟨hg, .inl ⟨h2.1 hn s hs, ⟨fun _ s' hs' => h2.1 hn s' fun ha => (hs ha).trans (hs' ha), fun _ _ s' hs' => h2.1 hn s' fun ha => (hs ha).trans (by rw [ha] at hs'; exact hs')⟩, rfl⟩⟩
  · exact absurd hk h2.1
  · rw [evCallee_kind h1] at hk; cases hk
  · rw [evCallee_kind h1] at hk; cases hk
  · exact .inr ⟨hg, rfl, rfl⟩
theorem ValR.own {o : Oper} {env : List D} {sto sto' : Sto} {d : D} (h : ValR T X n0 lo wt ops o env sto d sto') (hk : effKind o = 0) (hw : wCall wt = true) (hb : besideCall ops o = true) {s : Sto} (hs : Own (aMode wt) n0 sto s) : ValR T X n0 lo wt ops o env s d s := by
  rcases h with ⟨hg, ⟨h1, h2, rfl⟩ | ⟨h1, h2⟩ | ⟨f, args, r, rfl, h1, h2, rfl, _⟩ | ⟨f, args, r, rfl, _, ha, h1, h2, h3, h5⟩⟩ | ⟨hg, rfl, rfl⟩
  · exact .inl ⟨hg, .inl ⟨h2.2 hw hb s hs, ⟨fun hn s' hs' => h2.1 hn s' fun ha => Own.trans (by rw [ha] at hs; exact hs) (hs' ha), fun _ _ s' hs' => h2.2 hw hb s' (hs.trans hs')⟩, rfl⟩⟩
  · exact absurd hk h2.1
  · rw [evCallee_kind h1] at hk; cases hk
  · rw [evCallee_kind h1] at hk; cases hk
  · exact .inr ⟨hg, rfl, rfl⟩
theorem ValR.ownA {o : Oper} {env : List D} {sto sto' : Sto} {d : D} (h : ValR T X n0 lo wt ops o env sto d sto') (ha : aMode wt = true) : Own true n0 sto sto' := by
  rcases h with ⟨hg, ⟨h1, h2, rfl⟩ | ⟨h1, h2⟩ | ⟨f, args, r, rfl, h1, h2, rfl, _⟩ | ⟨f, args, r, rfl, _, _, h1, h2, h3, h5⟩⟩ | ⟨hg, rfl, rfl⟩
  · exact fun _ _ => rfl
  · exact h2.2 ha
  · exact fun _ _ => rfl
  · rw [ha] at h3; exact h3
  · exact fun _ _ => rfl
theorem opd_agree {env : List D} {d : Tmp} {u : D} {x : Operand} (h : x ≠ .tmp d) : opd (env.set d u) x = opd env x := by
  cases x with
  | tmp t =>
    have : d ≠ t := fun e => h (by rw [e])
    simp only [opd, List.getElem?_set_ne this]
  | _ => rfl
theorem looks_op {o : Oper} {d : Tmp} (h : d ∉ o.looksAt ops) : ∀ x ∈ o.op.operands, x ≠ .tmp d := by
  intro x hx e
  subst e
  apply h
  unfold Oper.looksAt
  refine List.mem_append_left _ (List.mem_filterMap.2 ⟨.tmp d, by simpa using hx, rfl⟩)
theorem looks_guard {o : Oper} {d : Tmp} {env : List D} {u : D} (h : d ∉ o.looksAt ops) : guardD ops o (env.set d u) = guardD ops o env := by
  unfold guardD
  cases hg : o.guard with
  | none => rfl
  | some p =>
    obtain ⟨j, want⟩ := p
    cases hd : (ops[j]?).bind (·.dst) with
    | none => simp only [hd]
    | some e =>
      have hne : d ≠ e := by
        intro heq
        subst heq
        apply h
        unfold Oper.looksAt
        refine List.mem_append_right _ ?_
        simp [hg, hd]
      simp only [hd, List.getElem?_set_ne hne]
theorem ValR.congr {o : Oper} {env : List D} {sto sto' : Sto} {d : D} {t : Option Tmp} {u : D} (ht : ∀ x, t = some x → x ∉ o.looksAt ops) : ValR T X n0 lo wt ops o (St.put ⟨env, sto⟩ t u).env sto d sto' ↔ ValR T X n0 lo wt ops o env sto d sto' := by
  cases t with
  | none => exact Iff.rfl
  | some x =>
    have h := ht x rfl
    have hop : ∀ y ∈ o.op.operands, opd (env.set x u) y = opd env y := fun y hy => opd_agree (looks_op h y hy)
    show ValR T X n0 lo wt ops o (env.set x u) sto d sto' ↔ _
    unfold ValR
    rw [looks_guard h, evEff_congr hop, evCallee_congr hop]
    simp only [fun s => evPureM_congr (T := T) (sto := s) hop]
theorem put_comm {env : List D} {sto : Sto} {x y : Option Tmp} {u v : D} (h : ∀ d, x = some d → y ≠ some d) : St.put (St.put ⟨env, sto⟩ x u) y v = St.put (St.put ⟨env, sto⟩ y v) x u := by
  cases x with
  | none => rfl
  | some a =>
    cases y with
    | none => rfl
    | some b =>
      have hne : a ≠ b := fun e => h a rfl (by rw [e])
      simp only [St.put]
      rw [List.set_comm _ _ hne]
theorem put_env {env : List D} {sto s2 : Sto} {x : Option Tmp} {u : D} : (St.put ⟨env, sto⟩ x u).env = (St.put ⟨env, s2⟩ x u).env := by cases x <;> rfl
theorem put_sto {env : List D} {sto : Sto} {x : Option Tmp} {u : D} : (St.put ⟨env, sto⟩ x u).sto = sto := by cases x <;> rfl
/-- Two neighbours change places. -/
theorem evOps_swap {Q : St → Prop} {x y : Oper} {rest : List Oper} {st : St} (ha : x.apart ops y = true) (hk : kindsOk (effKind x) (effKind y) = true) (hx : effKind x = 0 → (effKind y = 1 ∨ effKind y = 2) → needsFree ops x = true) (hy : effKind y = 0 → (effKind x = 1 ∨ effKind x = 2) → needsFree ops y = true)
    (bx : effKind y = 3 → besideCall ops x = true) (by' : effKind x = 3 → besideCall ops y = true) (ax : effKind y = 3 → aloneCall ops x = false) (ay : effKind x = 3 → aloneCall ops y = false)
    (h : EvOps T X n0 lo wt true ops Q (x :: y :: rest) st) : EvOps T X n0 lo wt true ops Q (y :: x :: rest) st := by
  obtain ⟨a1, a2, a3⟩ := Oper.apart_spec ha
  obtain ⟨dx, sx, hvx, h'⟩ := evOps_cons.1 h
  obtain ⟨dy, sy, hvy, hrest⟩ := evOps_cons.1 h'
  rw [put_sto] at hvy
  have hvy' : ValR T X n0 lo wt ops y st.env sx dy sy := (ValR.congr a1).1 hvy
  have fin : ∀ s1, ValR T X n0 lo wt ops y st.env st.sto dy s1 → ValR T X n0 lo wt ops x st.env s1 dx sy → EvOps T X n0 lo wt true ops Q (y :: x :: rest) st := by
    intro s1 q1 q2
    refine evOps_cons.2 ⟨dy, s1, q1, evOps_cons.2 ⟨dx, sy, ?_, ?_⟩⟩
    · rw [put_sto]
      exact (ValR.congr a3).2 q2
    · have e1 : St.put ⟨(St.put ⟨st.env, sx⟩ x.dst dx).env, sy⟩ y.dst dy = St.put (St.put ⟨st.env, sy⟩ x.dst dx) y.dst dy := by cases x.dst <;> rfl
      have e2 : St.put ⟨(St.put ⟨st.env, s1⟩ y.dst dy).env, sy⟩ x.dst dx = St.put (St.put ⟨st.env, sy⟩ y.dst dy) x.dst dx := by cases y.dst <;> rfl
      rw [e2, ← put_comm a2, ← e1]
      exact hrest
  simp only [kindsOk, Bool.or_eq_true, Bool.and_eq_true, beq_iff_eq] at hk
  rcases hk with (⟨k1, k2⟩ | ⟨k1, k2⟩) | ⟨k1, k2⟩
  · rcases hvx.same k1 with rfl | ⟨e3, hw, ha, ho⟩
    · rcases hvy'.same k2 with rfl | ⟨e3, hw, ha, ho⟩
      · exact fin _ hvy' hvx
      · have k1' : effKind x = 0 := k1.resolve_right fun e => by rw [ay e] at ha; cases ha
        exact fin _ hvy' (hvx.own k1' hw (bx e3) ho)
    · have k2' : effKind y = 0 := k2.resolve_right fun e => by rw [ax e] at ha; cases ha
      obtain rfl := hvy'.same0 k2'
      exact fin _ (hvy'.own k2' hw (by' e3) ho.symm) hvx
  · obtain rfl := hvx.same0 k1
    exact fin _ hvy' (hvx.free k1 (hx k1 k2) sy hvy'.ownA)
  · obtain rfl := hvy'.same0 k2
    exact fin _ (hvy'.free k2 (hy k2 k1) st.sto fun ha => (hvx.ownA ha).symm) hvx
end
end Go.Proofs.Ytghdanpigohnjaa
namespace Go.Proofs.Ytghdanpigohnjaa
open Go Go.RowKit

theorem anc_fold (acc : List Nat) (i : Nat) : ∀ (l : List Edge) (s : Nat), (l.foldl (fun s e => if Region.binds .any e then s ||| 2 ^ e.on ||| acc.getD e.on 0 else s) s).testBit i = true → s.testBit i = true ∨ ∃ e ∈ l, Region.binds .any e = true ∧ (e.on = i ∨ (acc.getD e.on 0).testBit i = true)
  | [], s, h => .inl h
  | e :: l, s, h => by
    rw [List.foldl_cons] at h
    rcases anc_fold acc i l _ h with h | ⟨e', he, h⟩
    · by_cases hb : Region.binds .any e = true
      · rw [if_pos hb, Nat.testBit_or, Nat.testBit_or, Nat.testBit_two_pow] at h
        simp only [Bool.or_eq_true, decide_eq_true_eq] at h
        rcases h with (h | h) | h
        · exact .inl h
        · exact .inr ⟨e, by simp, hb, .inl h⟩
        · exact .inr ⟨e, by simp, hb, .inr h⟩
      · rw [if_neg hb] at h
        exact .inl h
    · exact .inr ⟨e', List.mem_cons_of_mem _ he, h⟩
theorem ancs_get : ∀ (l : List Oper) (acc : List Nat), ∃ tail, ancs l acc = acc ++ tail ∧ tail.length = l.length ∧ ∀ (m : Nat) (o : Oper), l[m]? = some o → tail[m]? = some (ancOf (acc ++ tail.take m) o)
  | [], acc => ⟨[], by simp [ancs], rfl, fun m o h => by simp at h⟩
  | o :: l, acc => by
    obtain ⟨tail, h1, h2, h3⟩ := ancs_get l (acc ++ [ancOf acc o])
    refine ⟨ancOf acc o :: tail, by rw [ancs, h1, List.append_assoc]; rfl, by simp [h2], fun m o' hm => ?_⟩
    cases m with
    | zero =>
      simp only [List.getElem?_cons_zero, Option.some.injEq] at hm
      subst hm
      simp
    | succ m =>
      have := h3 m o' (by simpa using hm)
      simp only [List.getElem?_cons_succ, List.take_succ_cons]
      rw [this, List.append_assoc]
      rfl
section
variable {ops : Array Oper}
/-- Who comes before whom. -/
theorem anc_step {j i : Nat} {o : Oper} (ho : ops[j]? = some o) (h : ((ancs ops.toList []).getD j 0).testBit i = true) : ∃ e ∈ o.after, Region.binds .any e = true ∧ (e.on = i ∨ (e.on < j ∧ ((ancs ops.toList []).getD e.on 0).testBit i = true)) := by
  obtain ⟨tail, h1, h2, h3⟩ := ancs_get ops.toList []
  rw [List.nil_append] at h1
  have hj : ops.toList[j]? = some o := by rw [Array.getElem?_toList]; exact ho
  have ht := h3 j o hj
  rw [h1, List.getD_eq_getElem?_getD, ht, Option.getD_some, List.nil_append] at h
  rcases anc_fold _ i _ _ h with h | ⟨e, he, hb, h⟩
  · simp at h
  · refine ⟨e, by simpa using he, hb, ?_⟩
    rcases h with h | h
    · exact .inl h
    · right
      rw [List.getD_eq_getElem?_getD] at h
      rcases Nat.lt_or_ge e.on j with hlt | hge
      · refine ⟨hlt, ?_⟩
        rw [List.getElem?_take_of_lt hlt] at h
        rw [h1, List.getD_eq_getElem?_getD]; exact h
      · rw [List.getElem?_eq_none (by simp; omega)] at h
        simp at h
/-- What is listed: with each operation those that it waits for. -/
def Closed (ops : Array Oper) (L : Nat → Prop) : Prop := ∀ k o, ops[k]? = some o → L k → ∀ e ∈ o.after, Region.binds .any e = true → L e.on
theorem anc_listed {L : Nat → Prop} (hc : Closed ops L) : ∀ (j : Nat) (o : Oper), ops[j]? = some o → (∀ e ∈ o.after, Region.binds .any e = true → L e.on) → ∀ i, ((ancs ops.toList []).getD j 0).testBit i = true → L i := by
  intro j
  induction j using Nat.strongRecOn with
  | _ j ih =>
    intro o ho hp i hi
    obtain ⟨e, he, hb, h⟩ := anc_step ho hi
    rcases h with h | ⟨hlt, h⟩
    · rw [← h]; exact hp e he hb
    · have hl := hp e he hb
      cases ho2 : ops[e.on]? with
      | none =>
        exfalso
        obtain ⟨tail, h1, h2, _⟩ := ancs_get ops.toList []
        rw [List.nil_append] at h1
        rw [h1, List.getD_eq_getElem?_getD, List.getElem?_eq_none (by rw [h2, Array.length_toList]; simpa using ho2)] at h
        simp at h
      | some o2 => exact ih e.on hlt o2 ho2 (hc e.on o2 ho2 hl) i h
theorem drawOk_spec (h : drawOk ops = true) : (∀ j o, ops[j]? = some o → ∀ e ∈ o.after, Region.binds .any e = true → e.on < j) ∧ ∀ i j x y, i < j → ops[i]? = some x → ops[j]? = some y → ((ancs ops.toList []).getD j 0).testBit i = true ∨ (x.apart ops y = true ∧ kindsOk (effKind x) (effKind y) = true) := by
  unfold drawOk at h
  simp only [List.all_eq_true, List.mem_range, Bool.and_eq_true, Bool.or_eq_true] at h
  have lt : ∀ j o, ops[j]? = some o → j < ops.size := fun j o ho => (Array.getElem?_eq_some_iff.1 ho).1
  refine ⟨fun j o ho e he hb => ?_, fun i j x y hij hx hy => ?_⟩
  · have := (h j (lt j o ho)).1
    rw [ho] at this
    simp only [List.all_eq_true, Bool.or_eq_true, Bool.not_eq_true', decide_eq_true_eq] at this
    rcases this e (by simpa using he) with h | h
    · rw [hb] at h; cases h
    · exact h
  · have := (h j (lt j y hy)).2 i hij
    rw [hx, hy] at this
    simpa using this
theorem needsFree_of {i j : Nat} {x y : Oper} (hij : i ≠ j) (hx : ops[i]? = some x) (hy : ops[j]? = some y) (ht : ((ancs ops.toList []).getD (max j i) 0).testBit (min j i) = false) (hk : effKind y = 1 ∨ effKind y = 2) : needsFree ops x = true := by
  have lt : ∀ j o, ops[j]? = some o → j < ops.size := fun j o ho => (Array.getElem?_eq_some_iff.1 ho).1
  unfold needsFree
  simp only [List.any_eq_true, List.mem_range]
  refine ⟨i, lt i x hx, ?_⟩
  rw [hx]
  simp only [beq_self_eq_true, Bool.true_and, List.any_eq_true, List.mem_range]
  refine ⟨j, lt j y hy, ?_⟩
  rw [hy]
  simp only [Bool.and_eq_true, bne_iff_ne, ne_eq, Bool.not_eq_true', Bool.or_eq_true, beq_iff_eq]
  exact ⟨⟨fun e => hij e.symm, ht⟩, hk⟩
theorem besideCall_of {i j : Nat} {x y : Oper} (hij : i ≠ j) (hx : ops[i]? = some x) (hy : ops[j]? = some y) (ht : ((ancs ops.toList []).getD (max j i) 0).testBit (min j i) = false) (hk : effKind y = 3) : besideCall ops x = true := by
  have lt : ∀ j o, ops[j]? = some o → j < ops.size := fun j o ho => (Array.getElem?_eq_some_iff.1 ho).1
  unfold besideCall
  simp only [List.any_eq_true, List.mem_range]
  refine ⟨i, lt i x hx, ?_⟩
  rw [hx]
  simp only [beq_self_eq_true, Bool.true_and, List.any_eq_true, List.mem_range]
  refine ⟨j, lt j y hy, ?_⟩
  rw [hy]
  simp only [Bool.and_eq_true, bne_iff_ne, ne_eq, Bool.not_eq_true', beq_iff_eq]
  exact ⟨⟨fun e => hij e.symm, ht⟩, hk⟩
theorem aloneCall_of {i j : Nat} {x y : Oper} (hij : i ≠ j) (hx : ops[i]? = some x) (hy : ops[j]? = some y) (ht : ((ancs ops.toList []).getD (max j i) 0).testBit (min j i) = false) (hk : effKind y = 3) : aloneCall ops x = false := by
  have lt : ∀ j o, ops[j]? = some o → j < ops.size := fun j o ho => (Array.getElem?_eq_some_iff.1 ho).1
  rw [← Bool.not_eq_true]
  intro h
  unfold aloneCall at h
  simp only [List.all_eq_true, List.mem_range] at h
  have h1 := h i (lt i x hx)
  rw [hx] at h1
  simp only [beq_self_eq_true, Bool.not_true, Bool.false_or, List.all_eq_true, List.mem_range] at h1
  have h2 := h1 j (lt j y hy)
  rw [hy] at h2
  simp only [Bool.or_eq_true, beq_iff_eq, Bool.not_eq_true', ht, hk] at h2
  rcases h2 with (h2 | h2) | h2
  · exact hij h2.symm
  · cases h2
  · simp at h2
def opsOf (ops : Array Oper) (l : List Nat) : List Oper := l.map fun i => ops.getD i default
variable {T : Tab} {X : CallP} {n0 lo : Nat} {wt : List Tmp}
/-- An operation that may come up now, taken first. -/
theorem bubble (hd : drawOk ops = true) {Q : St → Prop} {i : Nat} {y : Oper} (hy : ops[i]? = some y) (l2 : List Nat) : ∀ (l1 : List Nat) (st : St), (∀ k ∈ l1, k < i ∧ ((ancs ops.toList []).getD i 0).testBit k = false) →
    EvOps T X n0 lo wt true ops Q (opsOf ops (l1 ++ i :: l2)) st → EvOps T X n0 lo wt true ops Q (y :: opsOf ops (l1 ++ l2)) st
  | [], st, _, h => by
    have : ops.getD i default = y := by rw [Array.getD_eq_getD_getElem?, hy]; rfl
    have h' : EvOps T X n0 lo wt true ops Q (ops.getD i default :: opsOf ops l2) st := h
    rw [this] at h'; exact h'
  | k :: l1, st, hl, h => by
    obtain ⟨hk, ht⟩ := hl k (by simp)
    have hsz : i < ops.size := (Array.getElem?_eq_some_iff.1 hy).1
    have hx : ops[k]? = some (ops[k]'(by omega)) := Array.getElem?_eq_getElem (by omega)
    have hxd : ops.getD k default = ops[k]'(by omega) := by rw [Array.getD_eq_getD_getElem?, hx]; rfl
    have h1 : EvOps T X n0 lo wt true ops Q (ops[k]'(by omega) :: opsOf ops (l1 ++ i :: l2)) st := by
      have h' : EvOps T X n0 lo wt true ops Q (ops.getD k default :: opsOf ops (l1 ++ i :: l2)) st := h
      rw [hxd] at h'; exact h'
    obtain ⟨d, sto', hv, hr⟩ := evOps_cons.1 h1
    have hr' := bubble hd hy l2 l1 _ (fun k' hk' => hl k' (List.mem_cons_of_mem _ hk')) hr
    have h2 : EvOps T X n0 lo wt true ops Q (ops[k]'(by omega) :: y :: opsOf ops (l1 ++ l2)) st := evOps_cons.2 ⟨d, sto', hv, hr'⟩
    have hok := ((drawOk_spec hd).2 k i _ y hk hx hy).resolve_left (by rw [ht]; simp)
    have hmm : max i k = i ∧ min i k = k := ⟨by omega, by omega⟩
    have h3 := evOps_swap hok.1 hok.2 (fun _ hk2 => needsFree_of (by omega) hx hy (by rw [hmm.1, hmm.2]; exact ht) hk2) (fun _ hk2 => needsFree_of (by omega) hy hx (by rw [Nat.max_comm, Nat.min_comm, hmm.1, hmm.2]; exact ht) hk2)
      (fun e => besideCall_of (by omega) hx hy (by rw [hmm.1, hmm.2]; exact ht) e) (fun e => besideCall_of (by omega) hy hx (by rw [Nat.max_comm, Nat.min_comm, hmm.1, hmm.2]; exact ht) e)
      (fun e => aloneCall_of (by omega) hx hy (by rw [hmm.1, hmm.2]; exact ht) e) (fun e => aloneCall_of (by omega) hy hx (by rw [Nat.max_comm, Nat.min_comm, hmm.1, hmm.2]; exact ht) e) h2
    have : opsOf ops (k :: l1 ++ l2) = (ops[k]'(by omega)) :: opsOf ops (l1 ++ l2) := by rw [← hxd]; rfl
    rw [this]; exact h3
end
section
variable {P : Program} {T : Tab} {n0 lo : Nat} {wt : List Tmp} {ops : Array Oper}
theorem RS.drew {S : Stay} {gh : List Value} {w : World} {a : Act} {st : St} (h : RS S gh w a st) : RS S gh w.drew a st ∧ Fr st.sto.length lo S gh w st.sto S gh w.drew st.sto := by
  have hf : Fr st.sto.length lo S gh w st.sto S gh w.drew st.sto := ⟨rfl, rfl, rfl, Nat.le_refl _, fun b o h => ⟨h, rfl⟩, fun b _ _ => rfl, fun i _ => ⟨rfl, rfl⟩, fun i g hi hg => .inl ⟨i, hi, hg⟩, fun i e gv _ h1 h2 => ⟨e, gv, h1, h2, KeepE.refl gv e⟩⟩
  refine ⟨⟨h.size, fun t v d hv hd => RepD.mono h.sto hf (h.env t v d hv hd), ⟨h.sto.len, fun i e hi => ?_, h.sto.inj, h.sto.stay⟩, h.defers, h.glob.mono hf.stable⟩, hf⟩
  obtain ⟨gv, h1, h2⟩ := h.sto.ent i e hi
  exact ⟨gv, h1, RepE.mono h.sto hf h2 fun g _ => ⟨rfl, fun o => Iff.rfl⟩⟩
/-- A region, whatever its order. -/
theorem evOps_any (hT : T.OK P) (hd : drawOk ops = true) {R : Exit → St → Prop} {S0 : Stay} {gh0 : List Value} {w0 : World} {sto0 : Sto} (hlo : lo ≤ n0) : ∀ (l : List Nat) (listed : Array Bool) (st : St) (S : Stay) (gh : List Value) (a : Act) (w : World), l.Pairwise (· < ·) → (∀ k, k ∈ l ↔ k < ops.size ∧ listed.getD k true = false) → listed.size = ops.size → Closed ops (fun k => listed.getD k false = true) →
    n0 ≤ st.sto.length → OutSc n0 st.sto → EvOps T (CallOK P) n0 lo wt true ops (R .normal) (opsOf ops l) st → RS S gh w a st → Fr n0 lo S0 gh0 w0 sto0 S gh w st.sto → wpAny P .any ops (PostOK n0 lo S0 gh0 w0 sto0 R) l.length listed a w := by
  intro l
  generalize hn : l.length = n
  induction n generalizing l with
  | zero =>
    intro listed st S gh a w hp hm hsz hc hn0 hos h hrs hf
    have hl : l = [] := List.length_eq_zero_iff.1 hn
    subst hl
    refine ⟨?_, ⟨rfl, st, S, gh, h, hrs, hf, hn0, hos⟩⟩
    rw [Region.ready, List.filter_eq_nil_iff]
    intro k hk
    have hk' : k < ops.size := by simpa using hk
    have : listed.getD k true = true := by
      have := (not_congr (hm k)).1 (by simp)
      simpa [hk'] using this
    simp [this]
  | succ n ih =>
    intro listed st S gh a w hp hm hsz hc hn0 hos h hrs hf
    have rdy : ∀ i, i ∈ Region.ready .any ops listed ↔ ∃ o, ops[i]? = some o ∧ listed.getD i true = false ∧ ∀ e ∈ o.after, Region.binds .any e = true → listed.getD e.on false = true := by
      intro i
      rw [Region.ready, List.mem_filter, List.mem_range]
      constructor
      · rintro ⟨h1, h2⟩
        have ho : ops[i]? = some ops[i] := Array.getElem?_eq_getElem h1
        simp only [ho, Option.map_some, Option.getD_some, Bool.and_eq_true, Bool.not_eq_true'] at h2
        refine ⟨_, ho, h2.1, fun e he hb => ?_⟩
        have h3 := Array.all_eq_true'.1 h2.2 e he
        simp only [hb, Bool.not_true, Bool.false_or] at h3
        exact h3
      · rintro ⟨o, ho, h1, h2⟩
        refine ⟨(Array.getElem?_eq_some_iff.1 ho).1, ?_⟩
        simp only [ho, Option.map_some, Option.getD_some, h1, Bool.not_false, Bool.true_and]
        refine Array.all_eq_true'.2 fun e he => ?_
        by_cases hb : Region.binds .any e = true
        · simp [h2 e he hb]
        · simp [hb]
    refine ⟨fun hnil => ?_, fun i hi => ?_⟩
    · -- somebody is ready
      exfalso
      cases l with
      | nil => simp at hn
      | cons i l =>
        obtain ⟨hi1, hi2⟩ := (hm i).1 (by simp)
        have ho : ops[i]? = some ops[i] := Array.getElem?_eq_getElem hi1
        have : i ∈ Region.ready .any ops listed := (rdy i).2 ⟨_, ho, hi2, fun e he hb => by
          have hlt := (drawOk_spec hd).1 i _ ho e he hb
          have hnot : e.on ∉ i :: l := by
            intro hmem
            rcases List.mem_cons.1 hmem with h | h
            · omega
            · have := (List.pairwise_cons.1 hp).1 e.on h; omega
          have := (not_congr (hm e.on)).1 hnot
          have hes : e.on < ops.size := by omega
          have hlt2 : e.on < listed.size := by omega
          simp only [hes, true_and, Array.getD_eq_getD_getElem?, Array.getElem?_eq_getElem hlt2, Option.getD_some] at this ⊢
          simpa using this⟩
        rw [hnil] at this
        cases this
    · obtain ⟨o, ho, hi2, hpre⟩ := (rdy i).1 hi
      have hisz : i < ops.size := (Array.getElem?_eq_some_iff.1 ho).1
      have hil : i ∈ l := (hm i).2 ⟨hisz, hi2⟩
      obtain ⟨l1, l2, rfl⟩ := List.append_of_mem hil
      have hpw := List.pairwise_append.1 hp
      have hl1 : ∀ k ∈ l1, k < i := fun k hk => hpw.2.2 k hk i (by simp)
      have hanc : ∀ k ∈ l1, k < i ∧ ((ancs ops.toList []).getD i 0).testBit k = false := by
        intro k hk
        refine ⟨hl1 k hk, ?_⟩
        cases hb : ((ancs ops.toList []).getD i 0).testBit k with
        | false => rfl
        | true =>
          exfalso
          have h1 : listed.getD k false = true := anc_listed hc i o ho hpre k hb
          have h2 := ((hm k).1 (by simp [hk])).2
          have hk2 : k < listed.size := by have := hl1 k hk; omega
          simp only [Array.getD_eq_getD_getElem?, Array.getElem?_eq_getElem hk2, Option.getD_some] at h1 h2
          rw [h1] at h2; cases h2
      have hb := bubble hd ho l2 l1 st hanc h
      unfold wpOp
      simp only [ho]
      have hstep := op_step (Q' := PostOK n0 lo S0 gh0 w0 sto0 R) (K := wpAny P .any ops (PostOK n0 lo S0 gh0 w0 sto0 R) n (listed.setIfInBounds i true)) hT hn0 hlo hos hb hrs fun a' w' st' S' gh' h1 h2 h3 h4 h5 => by
        have hisz2 : i < listed.size := by omega
        have look : ∀ k d, (listed.setIfInBounds i true).getD k d = if k = i then true else listed.getD k d := by
          intro k d
          simp only [Array.getD_eq_getD_getElem?]
          by_cases hk : k = i
          · subst hk
            rw [if_pos rfl, Array.getElem?_setIfInBounds_self_of_lt hisz2]; rfl
          · rw [if_neg hk, Array.getElem?_setIfInBounds_ne (fun e => hk e.symm)]
        have hni : i ∉ l1 ++ l2 := by
          intro hmem
          rcases List.mem_append.1 hmem with h | h
          · have := hl1 i h; omega
          · have := (List.pairwise_cons.1 hpw.2.1).1 i h; omega
        refine ih (l1 ++ l2) (by simp at hn ⊢; omega) (listed.setIfInBounds i true) st' S' gh' a' w' ?_ ?_ (by simp [hsz]) ?_ h4 h5 h1 h2 (hf.trans h3)
        · exact List.pairwise_append.2 ⟨hpw.1, (List.pairwise_cons.1 hpw.2.1).2, fun x hx y hy => hpw.2.2 x hx y (by simp [hy])⟩
        · intro k
          rw [look]
          by_cases hk : k = i
          · subst hk
            simp [hni]
          · rw [if_neg hk, ← hm k]
            simp [hk]
        · intro k o' ho' hk e he hb'
          rw [look] at hk ⊢
          by_cases hki : k = i
          · subst hki
            rw [ho] at ho'
            cases ho'
            have := hpre e he hb'
            split
            · rfl
            · exact this
          · rw [if_neg hki] at hk
            have := hc k o' ho' hk e he hb'
            split
            · rfl
            · exact this
      by_cases hw : Region.wanted o (yielded ops a.tmps) = true
      · rw [if_pos hw] at hstep ⊢
        exact .inl hstep
      · rw [if_neg hw] at hstep ⊢
        exact hstep
theorem evOps_draw (hT : T.OK P) (hm : P.follows .mixedOrders = true) (hd : drawOk ops = true) {R : Exit → St → Prop} (hlo : lo ≤ n0) {st : St} {S : Stay} {gh : List Value} {a : Act} {w : World} (hn : n0 ≤ st.sto.length) (hos : OutSc n0 st.sto) (h : EvOps T (CallOK P) n0 lo wt true ops (R .normal) ops.toList st) (hrs : RS S gh w a st) (id : Nat) :
    (Code.region id ops true).wp P (PostOK n0 lo S gh w st.sto R) a w := by
  refine wp_region_any hm ?_
  obtain ⟨hrs', hf⟩ := RS.drew (lo := lo) hrs
  have hl : opsOf ops (List.range ops.size) = ops.toList := by
    apply List.ext_getElem?
    intro k
    simp only [opsOf, List.getElem?_map]
    rcases Nat.lt_or_ge k ops.size with hk | hk
    · rw [List.getElem?_range hk, Array.getElem?_toList, Array.getElem?_eq_getElem hk]
      simp [Array.getD_eq_getD_getElem?, hk]
    · rw [List.getElem?_eq_none (by simpa using hk), List.getElem?_eq_none (by simpa using hk)]; rfl
  have := evOps_any (P := P) hT hd (R := R) (S0 := S) (gh0 := gh) (w0 := w) (sto0 := st.sto) hlo (List.range ops.size) (Array.replicate ops.size false) st S gh a w.drew List.pairwise_lt_range (fun k => by
    simp only [List.mem_range, Array.getD_eq_getD_getElem?]
    constructor
    · intro hk; exact ⟨hk, by simp [hk]⟩
    · exact fun h => h.1) (by simp) (fun k o ho hk => by
    exfalso
    simp only [Array.getD_eq_getD_getElem?] at hk
    rcases Nat.lt_or_ge k ops.size with h | h
    · simp [h] at hk
    · simp [h] at hk) hn hos (by rw [hl]; exact h) hrs' (hf.weaken hn)
  rw [List.length_range] at this
  exact this
end
end Go.Proofs.Ytghdanpigohnjaa
namespace Go.Proofs.Ytghdanpigohnjaa
open Go Go.RowKit

section
variable {P : Program} {T : Tab} {S : Stay} {gh : List Value} {sto : Sto} {w : World}
/-- A box in an entry that was laid by. -/
theorem fill_eff {lo id : Nat} (hs : SR S gh w sto) (hes : sto[id]? = some PH) (hlid : lo ≤ id) (t : TypeId) {v : Value} {ds : List D} (h : Pw (fun u d => u.oneCell' = true ∧ RepC S gh sto w u d) v.cells.toList ds) : Eff P lo S gh w sto (do pure (.pointer (some (← newVar t v)))) (.ptr id 0) (sto.set id (.cells ds)) := by
  have hb := below_new w (.cells v.cells t)
  obtain ⟨gv, hg, hE⟩ := hs.ent id _ hes
  obtain ⟨rfl, _, _⟩ : gv = .slice none 0 0 ∧ _ := hE
  have hnew : ∀ g, blk (.pointer (some ⟨w.heap.size, 0, none⟩)) = some g → blk (.slice none 0 0) = some g ∨ w.heap.size ≤ g := by
    intro g hg
    simp only [blk, Option.some.injEq] at hg
    exact .inr (by omega)
  have hblock : ∀ b, b < w.heap.size → blk (.slice none 0 0) ≠ some b → (w.alloc (.cells v.cells t)).heap[b]? = w.heap[b]? := fun b hlt _ => hb.block b hlt
  have hst : ∀ b o, S b o → S b o ∧ (w.alloc (.cells v.cells t)).cell? ⟨b, o, none⟩ = w.cell? ⟨b, o, none⟩ := fun b o h => ⟨h, hb.cell (p := ⟨b, o, none⟩) (hs.stay b o h)⟩
  have hf : Fr sto.length lo S gh w sto S (gh.set id (.pointer (some ⟨w.heap.size, 0, none⟩))) (w.alloc (.cells v.cells t)) (sto.set id (.cells ds)) := upd_fr hes hg hlid hb.os hb.tape hb.output hb.size hblock hst hnew True.intro
  refine ⟨.pointer (some ⟨w.heap.size, 0, none⟩), S, _, _, ?_, ?_, upd_sr hs hes hg hf hblock (fun b o h => .inl h) hnew ?_, hf⟩
  · simp only [Sem.run_bind, newVar_run, Result.andThen_ok, Sem.run_pure]
  · have h1 := (List.getElem?_eq_some_iff.1 hes).1
    refine ⟨by simpa using h1, w.heap.size, ?_, rfl⟩
    rw [List.getElem?_set_self (List.getElem?_eq_some_iff.1 hg).1]
  · refine ⟨w.heap.size, v.cells, (t, 0, 0), rfl, heap_alloc_new w _, ⟨.inl rfl, Nat.le_of_eq h.1.symm⟩, fun o ho => ?_, fun k u d hu hd => ?_⟩
    · have := hs.stay _ _ ho; omega
    · have := h.2 k u d hu hd
      exact ⟨this.1, RepC.mono hs hf this.2⟩
theorem boxCells_sound (hT : T.OK P) {lo id : Nat} (hs : SR S gh w sto) {e : Operand → Value} {ρ : Operand → D} (hρ : ∀ x, RepD S gh sto w (e x) (ρ x)) {o : Oper} {ds : List D} (h : boxCells T ρ o = some ds) (hes : sto[id]? = some PH) (hlid : lo ≤ id) : EffN P lo S gh w sto (execOp e o) (.ptr id 0) (sto.set id (.cells ds)) := by
  unfold boxCells at h
  unfold execOp
  split at h <;> rename_i hop <;> simp only [hop]
  · exact (fill_eff hs hes hlid _ (RepD.cells (hρ _) h)).next
  · rename_i t
    split at h
    · rename_i i hi
      have hb := fill_eff (P := P) hs hes hlid t (RepD.cells (ofVal_rep i.zero) h)
      have : (Instr.alloc t true (.tuple #[])) = (do let z ← zeroValue t; pure (.pointer (some (← newVar t z)))) := by
        unfold Instr.alloc; rfl
      refine Eff.next ?_
      obtain ⟨v, S', gh', w', h1, h2, h3, h4⟩ := hb
      refine ⟨v, S', gh', w', ?_, h2, h3, h4⟩
      rw [this, Sem.run_bind, run_zero hT hi, Result.andThen_ok]
      exact h1
    · cases h
  · cases h
end
section
variable {T : Tab} {X : CallP} {n0 lo m : Nat} {ops : Array Oper}
/-- What an operation yields. -/
def ValQ (T : Tab) (X : CallP) (n0 lo m : Nat) (ops : Array Oper) (o : Oper) (env : List D) (sto : Sto) (d : D) (sto' : Sto) : Prop :=
  (guardD ops o env = some true ∧ ((effKind o = 0 ∧ (∀ s, Agr m sto s → evPure T (opd env) s o = some d) ∧ sto' = sto) ∨
    (∃ id ds, effKind o = 1 ∧ boxCells T (opd env) o = some ds ∧ sto[id]? = some PH ∧ m ≤ id ∧ d = .ptr id 0 ∧ sto' = sto.set id (.cells ds)) ∨
    (effKind o = 2 ∧ evEff T n0 lo false (opd env) sto o = some (d, sto') ∧ Agr m sto sto') ∨
    (∃ f args, effKind o = 3 ∧ (∀ s, Agr m sto s → evCallee (opd env) s o = some (f, args)) ∧ (∀ s, Agr m sto s → X f args s s.length d s) ∧ sto' = sto))) ∨
  (guardD ops o env = some false ∧ d = .undef ∧ sto' = sto)
theorem evOpsR_cons {Q : St → Prop} {o : Oper} {rest : List Oper} {st : St} : EvOpsR T X n0 lo m ops Q (o :: rest) st ↔ ∃ d sto', ValQ T X n0 lo m ops o st.env st.sto d sto' ∧ EvOpsR T X n0 lo m ops Q rest (St.put ⟨st.env, sto'⟩ o.dst d) := by
  rw [EvOpsR]
  constructor
  · intro h
    split at h
    · rename_i hg
      rcases h with ⟨d, h0, h1, h2⟩ | ⟨id, ds, h0, h1, h2, h3, h4⟩ | ⟨d, sto', h0, h1, h2, h3⟩ | ⟨f, args, r, h1, h2, h3⟩
      · exact ⟨d, st.sto, .inl ⟨hg, .inl ⟨h0, h1, rfl⟩⟩, h2⟩
      · exact ⟨_, _, .inl ⟨hg, .inr (.inl ⟨id, ds, h0, h1, h2, h3, rfl, rfl⟩)⟩, h4⟩
      · exact ⟨d, sto', .inl ⟨hg, .inr (.inr (.inl ⟨h0, h1, h2⟩))⟩, h3⟩
      · exact ⟨r, st.sto, .inl ⟨hg, .inr (.inr (.inr ⟨f, args, evCallee_kind (h1 st.sto (Agr.refl _ _)), h1, h2, rfl⟩))⟩, h3⟩
    · rename_i hg
      exact ⟨.undef, st.sto, .inr ⟨hg, rfl, rfl⟩, h⟩
    · exact h.elim
  · rintro ⟨d, sto', ⟨hg, h⟩ | ⟨hg, rfl, rfl⟩, k⟩
    · rw [hg]
      rcases h with ⟨h0, h1, rfl⟩ | ⟨id, ds, h0, h1, h2, h3, rfl, rfl⟩ | ⟨h0, h1, h2⟩ | ⟨f, args, h0, h1, h2, rfl⟩
      · exact .inl ⟨d, h0, h1, k⟩
      · exact .inr (.inl ⟨id, ds, h0, h1, h2, h3, k⟩)
      · exact .inr (.inr (.inl ⟨d, sto', h0, h1, h2, k⟩))
      · exact .inr (.inr (.inr ⟨f, args, d, h1, h2, k⟩))
    · rw [hg]; exact k
theorem ValQ.agr {o : Oper} {env : List D} {sto sto' : Sto} {d : D} (h : ValQ T X n0 lo m ops o env sto d sto') : Agr m sto sto' := by
  rcases h with ⟨hg, ⟨h0, h1, rfl⟩ | ⟨id, ds, h0, h1, h2, h3, rfl, rfl⟩ | ⟨h0, h1, h2⟩ | ⟨f, args, h0, h1, h2, rfl⟩⟩ | ⟨hg, rfl, rfl⟩
  · exact Agr.refl _ _
  · exact ⟨List.length_set, fun i hi => List.getElem?_set_ne (by omega)⟩
  · exact h2
  · exact Agr.refl _ _
  · exact Agr.refl _ _
/-- One that only looks: so in all memories that agree. -/
theorem ValQ.move {o : Oper} {env : List D} {sto sto' : Sto} {d : D} (h : ValQ T X n0 lo m ops o env sto d sto') (hk : effKind o = 0 ∨ effKind o = 3) {s : Sto} (hs : Agr m sto s) : sto' = sto ∧ ValQ T X n0 lo m ops o env s d s := by
  rcases h with ⟨hg, ⟨h0, h1, rfl⟩ | ⟨id, ds, h0, h1, h2, h3, rfl, rfl⟩ | ⟨h0, h1, h2⟩ | ⟨f, args, h0, h1, h2, rfl⟩⟩ | ⟨hg, rfl, rfl⟩
  · exact ⟨rfl, .inl ⟨hg, .inl ⟨h0, fun s' hs' => h1 s' (hs.trans hs'), rfl⟩⟩⟩
  · omega
  · omega
  · exact ⟨rfl, .inl ⟨hg, .inr (.inr (.inr ⟨f, args, h0, fun s' hs' => h1 s' (hs.trans hs'), fun s' hs' => h2 s' (hs.trans hs'), rfl⟩))⟩⟩
  · exact ⟨rfl, .inr ⟨hg, rfl, rfl⟩⟩
theorem boxCells_congr {ρ ρ' : Operand → D} {o : Oper} (h : ∀ x ∈ o.op.operands, ρ x = ρ' x) : boxCells T ρ o = boxCells T ρ' o := by
  unfold boxCells
  cases hop : o.op <;> rw [hop] at h <;> simp only [Op.operands] at h ⊢
  case box t x => rw [h x (by simp)]
theorem ValQ.congr {o : Oper} {env : List D} {sto sto' : Sto} {d : D} {t : Option Tmp} {u : D} (ht : ∀ x, t = some x → x ∉ o.looksAt ops) : ValQ T X n0 lo m ops o (St.put ⟨env, sto⟩ t u).env sto d sto' ↔ ValQ T X n0 lo m ops o env sto d sto' := by
  cases t with
  | none => exact Iff.rfl
  | some x =>
    have h := ht x rfl
    have hop : ∀ y ∈ o.op.operands, opd (env.set x u) y = opd env y := fun y hy => opd_agree (looks_op h y hy)
    show ValQ T X n0 lo m ops o (env.set x u) sto d sto' ↔ _
    unfold ValQ
    rw [looks_guard h, evEff_congr hop, boxCells_congr hop]
    simp only [fun s => evPure_congr (T := T) (sto := s) hop, fun s => evCallee_congr (sto := s) hop]
theorem evOpsR_swap {Q : St → Prop} {x y : Oper} {rest : List Oper} {st : St} (ha : x.apart ops y = true) (hk : kindsOkR (effKind x) (effKind y) = true)
    (h : EvOpsR T X n0 lo m ops Q (x :: y :: rest) st) : EvOpsR T X n0 lo m ops Q (y :: x :: rest) st := by
  obtain ⟨a1, a2, a3⟩ := Oper.apart_spec ha
  obtain ⟨dx, sx, hvx, h'⟩ := evOpsR_cons.1 h
  obtain ⟨dy, sy, hvy, hrest⟩ := evOpsR_cons.1 h'
  rw [put_sto] at hvy
  have hvy' : ValQ T X n0 lo m ops y st.env sx dy sy := (ValQ.congr a1).1 hvy
  have fin : ∀ s1, ValQ T X n0 lo m ops y st.env st.sto dy s1 → ValQ T X n0 lo m ops x st.env s1 dx sy → EvOpsR T X n0 lo m ops Q (y :: x :: rest) st := by
    intro s1 q1 q2
    refine evOpsR_cons.2 ⟨dy, s1, q1, evOpsR_cons.2 ⟨dx, sy, ?_, ?_⟩⟩
    · rw [put_sto]
      exact (ValQ.congr a3).2 q2
    · have e1 : St.put ⟨(St.put ⟨st.env, sx⟩ x.dst dx).env, sy⟩ y.dst dy = St.put (St.put ⟨st.env, sy⟩ x.dst dx) y.dst dy := by cases x.dst <;> rfl
      have e2 : St.put ⟨(St.put ⟨st.env, s1⟩ y.dst dy).env, sy⟩ x.dst dx = St.put (St.put ⟨st.env, sy⟩ y.dst dy) x.dst dx := by cases y.dst <;> rfl
      rw [e2, ← put_comm a2, ← e1]
      exact hrest
  by_cases kx : effKind x = 0 ∨ effKind x = 3
  · -- x only looks
    obtain ⟨rfl, _⟩ := hvx.move kx (Agr.refl _ _)
    exact fin _ hvy' (hvx.move kx hvy'.agr).2
  · by_cases ky : effKind y = 0 ∨ effKind y = 3
    · obtain ⟨rfl, hy⟩ := hvy'.move ky hvx.agr.symm
      exact fin _ hy hvx
    · -- two boxes
      have k1 : effKind x = 1 ∧ effKind y = 1 := by
        simp only [kindsOkR, Bool.or_eq_true, Bool.and_eq_true, beq_iff_eq] at hk
        omega
      rcases hvx with ⟨hg, ⟨h0, h1, rfl⟩ | ⟨id, ds, h0, h1, h2, h3, rfl, rfl⟩ | ⟨h0, h1, h2⟩ | ⟨f, args, h0, h1, h2, rfl⟩⟩ | ⟨hg, rfl, rfl⟩
      · omega
      · rcases hvy' with ⟨hg', ⟨q0, q1, rfl⟩ | ⟨id', ds', q0, q1, q2, q3, rfl, rfl⟩ | ⟨q0, q1, q2⟩ | ⟨f, args, q0, q1, q2, rfl⟩⟩ | ⟨hg', rfl, rfl⟩
        · omega
        · have hne : id ≠ id' := by
            intro e
            subst e
            rw [List.getElem?_set_self (List.getElem?_eq_some_iff.1 h2).1] at q2
            cases q2
          rw [List.getElem?_set_ne hne] at q2
          refine fin (st.sto.set id' (.cells ds')) (.inl ⟨hg', .inr (.inl ⟨id', ds', q0, q1, q2, q3, rfl, rfl⟩)⟩) (.inl ⟨hg, .inr (.inl ⟨id, ds, h0, h1, ?_, h3, rfl, ?_⟩)⟩)
          · rw [List.getElem?_set_ne hne.symm]; exact h2
          · rw [List.set_comm _ _ hne]
        · omega
        · omega
        · exact fin _ (.inr ⟨hg', rfl, rfl⟩) (.inl ⟨hg, .inr (.inl ⟨id, ds, h0, h1, h2, h3, rfl, rfl⟩)⟩)
      · omega
      · omega
      · -- x does not run
        exact fin _ hvy' (.inr ⟨hg, rfl, rfl⟩)
theorem drawOkR_spec (h : drawOkR ops = true) : (∀ j o, ops[j]? = some o → ∀ e ∈ o.after, Region.binds .any e = true → e.on < j) ∧ ∀ i j x y, i < j → ops[i]? = some x → ops[j]? = some y → ((ancs ops.toList []).getD j 0).testBit i = true ∨ (x.apart ops y = true ∧ kindsOkR (effKind x) (effKind y) = true) := by
  unfold drawOkR at h
  simp only [List.all_eq_true, List.mem_range, Bool.and_eq_true, Bool.or_eq_true] at h
  have lt : ∀ j o, ops[j]? = some o → j < ops.size := fun j o ho => (Array.getElem?_eq_some_iff.1 ho).1
  refine ⟨fun j o ho e he hb => ?_, fun i j x y hij hx hy => ?_⟩
  · have := (h j (lt j o ho)).1
    rw [ho] at this
    simp only [List.all_eq_true, Bool.or_eq_true, Bool.not_eq_true', decide_eq_true_eq] at this
    rcases this e (by simpa using he) with h | h
    · rw [hb] at h; cases h
    · exact h
  · have := (h j (lt j y hy)).2 i hij
    rw [hx, hy] at this
    simpa using this
/-- An operation that may come up now, taken first. -/
theorem bubbleR (hd : drawOkR ops = true) {Q : St → Prop} {i : Nat} {y : Oper} (hy : ops[i]? = some y) (l2 : List Nat) : ∀ (l1 : List Nat) (st : St), (∀ k ∈ l1, k < i ∧ ((ancs ops.toList []).getD i 0).testBit k = false) →
    EvOpsR T X n0 lo m ops Q (opsOf ops (l1 ++ i :: l2)) st → EvOpsR T X n0 lo m ops Q (y :: opsOf ops (l1 ++ l2)) st
  | [], st, _, h => by
    have : ops.getD i default = y := by rw [Array.getD_eq_getD_getElem?, hy]; rfl
    have h' : EvOpsR T X n0 lo m ops Q (ops.getD i default :: opsOf ops l2) st := h
    rw [this] at h'; exact h'
  | k :: l1, st, hl, h => by
    obtain ⟨hk, ht⟩ := hl k (by simp)
    have hsz : i < ops.size := (Array.getElem?_eq_some_iff.1 hy).1
    have hx : ops[k]? = some (ops[k]'(by omega)) := Array.getElem?_eq_getElem (by omega)
    have hxd : ops.getD k default = ops[k]'(by omega) := by rw [Array.getD_eq_getD_getElem?, hx]; rfl
    have h1 : EvOpsR T X n0 lo m ops Q (ops[k]'(by omega) :: opsOf ops (l1 ++ i :: l2)) st := by
      have h' : EvOpsR T X n0 lo m ops Q (ops.getD k default :: opsOf ops (l1 ++ i :: l2)) st := h
      rw [hxd] at h'; exact h'
    obtain ⟨d, sto', hv, hr⟩ := evOpsR_cons.1 h1
    have hr' := bubbleR hd hy l2 l1 _ (fun k' hk' => hl k' (List.mem_cons_of_mem _ hk')) hr
    have h2 : EvOpsR T X n0 lo m ops Q (ops[k]'(by omega) :: y :: opsOf ops (l1 ++ l2)) st := evOpsR_cons.2 ⟨d, sto', hv, hr'⟩
    have hok := ((drawOkR_spec hd).2 k i _ y hk hx hy).resolve_left (by rw [ht]; simp)
    have hmm : max i k = i ∧ min i k = k := ⟨by omega, by omega⟩
    have h3 := evOpsR_swap hok.1 hok.2 h2
    have : opsOf ops (k :: l1 ++ l2) = (ops[k]'(by omega)) :: opsOf ops (l1 ++ l2) := by rw [← hxd]; rfl
    rw [this]; exact h3
theorem op_stepR {P : Program} {S : Stay} {gh : List Value} {w : World} {a : Act} {st : St} (hmn : n0 ≤ m) (hT : T.OK P) {Q : St → Prop} {Q' : Exit → Act → World → Prop} {K : Act → World → Prop} {o : Oper} {rest : List Oper} (hn : n0 ≤ st.sto.length) (hlo : lo ≤ n0) (hout : OutSc n0 st.sto) (h : EvOpsR T (CallOK P) n0 lo m ops Q (o :: rest) st) (hrs : RS S gh w a st)
    (hK : ∀ a' w' st' S' gh', EvOpsR T (CallOK P) n0 lo m ops Q rest st' → RS S' gh' w' a' st' → Fr n0 lo S gh w st.sto S' gh' w' st'.sto → n0 ≤ st'.sto.length → OutSc n0 st'.sto → K a' w') :
    if Region.wanted o (yielded ops a.tmps) = true then o.wp P a w K Q' else K (a.put o.dst undef) w := by
  have eff : ∀ {d : D} {sto' : Sto}, EffN P lo S gh w st.sto (execOp a.eval o) d sto' → n0 ≤ sto'.length → OutSc n0 sto' → EvOpsR T (CallOK P) n0 lo m ops Q rest (St.put { st with sto := sto' } o.dst d) → o.wp P a w K Q' := by
    intro d sto' ⟨nx, v, S', gh', w', h1, h2, h3, h4, h5⟩ hl hos k
    have hrs' := RS.put hrs h4 h5 h3 o.dst
    have hst : (St.put { st with sto := sto' } o.dst d).sto = sto' := by cases o.dst <;> rfl
    have fin := hK (a.put o.dst v) w' _ S' gh' k hrs' (by rw [hst]; exact h5.weaken hn) (by rw [hst]; exact hl) (by rw [hst]; exact hos)
    unfold Oper.wp
    rw [h1]
    rcases h2 with rfl | ⟨rfl, rfl⟩
    · exact fin
    · exact fin
  unfold EvOpsR at h
  split at h
  · rename_i hg
    rw [if_pos (guard_sound hrs hg)]
    rcases h with ⟨d, _, h1, h2⟩ | ⟨id, ds, _, h1, h2, h3, h4⟩ | ⟨d, sto', _, h1, h2, h3⟩ | ⟨f, args, r, h1, h2, h3⟩
    · have h1' := h1 st.sto (Agr.refl _ _)
      by_cases hb : ∃ t n ps, o.op = .buildSlice t n ps
      · obtain ⟨t, n, ps, ho⟩ := hb
        exact eff (lit_stay hT hrs.sto hrs.opd ho h1' lo) hn hout h2
      · by_cases hb2 : ∃ src dst x s, o.op = .convert src dst x ∧ opd st.env x = .v (.str s)
        · obtain ⟨src, dst, x, s, ho, hx⟩ := hb2
          exact eff (conv_stay hT hrs.sto hrs.opd ho hx h1' lo) hn hout h2
        obtain ⟨u, q1, q2⟩ := evPure_sound hT hrs.sto hrs.opd (fun t n ps ho => hb ⟨t, n, ps, ho⟩) (fun src dst x ho s hx => hb2 ⟨src, dst, x, s, ho, hx⟩) h1'
        exact eff ⟨.value u, u, S, gh, w, q1, .inl rfl, q2, hrs.sto, Fr.refl _ _ _ _ _ _⟩ hn hout h2
    · refine eff (boxCells_sound hT hrs.sto hrs.opd h1 h2 (by omega)) (by simpa using hn) ?_ h4
      intro i es hi he
      rw [List.getElem?_set_ne (by omega)] at he
      exact hout i es hi he
    · exact eff (evEff_sound hT (by omega) hrs.sto hrs.opd h1) (by rw [h2.1]; exact hn) (evEff_out hn hout h1) h3
    · obtain ⟨hc, hcall⟩ := h2 st.sto (Agr.refl _ _)
      obtain ⟨vals, q1, q2⟩ := evCallee_sound hrs.sto hrs.opd (h1 st.sto (Agr.refl _ _)) hc
      unfold Oper.wp
      rw [q1]
      refine Calls.mono (hcall S gh w vals (Nat.le_refl _) hrs.sto hrs.glob q2) ?_
      rintro e w' ⟨v, S', gh', rfl, r1, r2, r3, r4⟩
      have r3' : Fr st.sto.length lo S gh w st.sto S' gh' w' st.sto := by
        refine { r3 with block := fun b hb hn => r3.block b hb fun i hi hg => hn i (by omega) hg, low := fun i hi => r3.low i (by omega), new := fun i g hi hg => ?_ }
        rcases Nat.lt_or_ge i st.sto.length with hlt | hge
        · left
          refine ⟨i, hi, ?_⟩
          unfold blkAt at hg ⊢
          rw [(r3.low i hlt).1] at hg
          exact hg
        · rcases r3.new i g hge hg with ⟨j, hj, hg'⟩ | h'
          · exact .inl ⟨j, by omega, hg'⟩
          · exact .inr h'
      have hrs' := RS.put hrs r2 r3' (d := r) r1 o.dst
      have hst : (St.put { st with sto := st.sto } o.dst r).sto = st.sto := by cases o.dst <;> rfl
      exact hK _ w' _ S' gh' h3 hrs' (by rw [hst]; exact r3'.weaken hn) (by rw [hst]; exact hn) (by rw [hst]; exact hout)
  · rename_i hg
    rw [if_neg (by rw [guard_sound hrs hg]; simp)]
    exact hK _ w _ S gh h (RS.put hrs hrs.sto (Fr.refl st.sto.length lo _ _ _ _) (d := .undef) rfl o.dst) (by cases o.dst <;> exact Fr.refl _ _ _ _ _ _) (by cases o.dst <;> exact hn) (by cases o.dst <;> exact hout)
  · exact h.elim
end
section
variable {P : Program} {T : Tab} {n0 lo m : Nat} {ops : Array Oper}
/-- A region, whatever its order. -/
theorem evOpsR_any (hmn : n0 ≤ m) (hT : T.OK P) (hd : drawOkR ops = true) {R : Exit → St → Prop} {S0 : Stay} {gh0 : List Value} {w0 : World} {sto0 : Sto} (hlo : lo ≤ n0) : ∀ (l : List Nat) (listed : Array Bool) (st : St) (S : Stay) (gh : List Value) (a : Act) (w : World), l.Pairwise (· < ·) → (∀ k, k ∈ l ↔ k < ops.size ∧ listed.getD k true = false) → listed.size = ops.size → Closed ops (fun k => listed.getD k false = true) →
    n0 ≤ st.sto.length → OutSc n0 st.sto → EvOpsR T (CallOK P) n0 lo m ops (R .normal) (opsOf ops l) st → RS S gh w a st → Fr n0 lo S0 gh0 w0 sto0 S gh w st.sto → wpAny P .any ops (PostOK n0 lo S0 gh0 w0 sto0 R) l.length listed a w := by
  intro l
  generalize hn : l.length = n
  induction n generalizing l with
  | zero =>
    intro listed st S gh a w hp hm hsz hc hn0 hos h hrs hf
    have hl : l = [] := List.length_eq_zero_iff.1 hn
    subst hl
    refine ⟨?_, ⟨rfl, st, S, gh, h, hrs, hf, hn0, hos⟩⟩
    rw [Region.ready, List.filter_eq_nil_iff]
    intro k hk
    have hk' : k < ops.size := by simpa using hk
    have : listed.getD k true = true := by
      have := (not_congr (hm k)).1 (by simp)
      simpa [hk'] using this
    simp [this]
  | succ n ih =>
    intro listed st S gh a w hp hm hsz hc hn0 hos h hrs hf
    have rdy : ∀ i, i ∈ Region.ready .any ops listed ↔ ∃ o, ops[i]? = some o ∧ listed.getD i true = false ∧ ∀ e ∈ o.after, Region.binds .any e = true → listed.getD e.on false = true := by
      intro i
      rw [Region.ready, List.mem_filter, List.mem_range]
      constructor
      · rintro ⟨h1, h2⟩
        have ho : ops[i]? = some ops[i] := Array.getElem?_eq_getElem h1
        simp only [ho, Option.map_some, Option.getD_some, Bool.and_eq_true, Bool.not_eq_true'] at h2
        refine ⟨_, ho, h2.1, fun e he hb => ?_⟩
        have h3 := Array.all_eq_true'.1 h2.2 e he
        simp only [hb, Bool.not_true, Bool.false_or] at h3
        exact h3
      · rintro ⟨o, ho, h1, h2⟩
        refine ⟨(Array.getElem?_eq_some_iff.1 ho).1, ?_⟩
        simp only [ho, Option.map_some, Option.getD_some, h1, Bool.not_false, Bool.true_and]
        refine Array.all_eq_true'.2 fun e he => ?_
        by_cases hb : Region.binds .any e = true
        · simp [h2 e he hb]
        · simp [hb]
    refine ⟨fun hnil => ?_, fun i hi => ?_⟩
    · -- somebody is ready
      exfalso
      cases l with
      | nil => simp at hn
      | cons i l =>
        obtain ⟨hi1, hi2⟩ := (hm i).1 (by simp)
        have ho : ops[i]? = some ops[i] := Array.getElem?_eq_getElem hi1
        have : i ∈ Region.ready .any ops listed := (rdy i).2 ⟨_, ho, hi2, fun e he hb => by
          have hlt := (drawOkR_spec hd).1 i _ ho e he hb
          have hnot : e.on ∉ i :: l := by
            intro hmem
            rcases List.mem_cons.1 hmem with h | h
            · omega
            · have := (List.pairwise_cons.1 hp).1 e.on h; omega
          have := (not_congr (hm e.on)).1 hnot
          have hes : e.on < ops.size := by omega
          have hlt2 : e.on < listed.size := by omega
          simp only [hes, true_and, Array.getD_eq_getD_getElem?, Array.getElem?_eq_getElem hlt2, Option.getD_some] at this ⊢
          simpa using this⟩
        rw [hnil] at this
        cases this
    · obtain ⟨o, ho, hi2, hpre⟩ := (rdy i).1 hi
      have hisz : i < ops.size := (Array.getElem?_eq_some_iff.1 ho).1
      have hil : i ∈ l := (hm i).2 ⟨hisz, hi2⟩
      obtain ⟨l1, l2, rfl⟩ := List.append_of_mem hil
      have hpw := List.pairwise_append.1 hp
      have hl1 : ∀ k ∈ l1, k < i := fun k hk => hpw.2.2 k hk i (by simp)
      have hanc : ∀ k ∈ l1, k < i ∧ ((ancs ops.toList []).getD i 0).testBit k = false := by
        intro k hk
        refine ⟨hl1 k hk, ?_⟩
        cases hb : ((ancs ops.toList []).getD i 0).testBit k with
        | false => rfl
        | true =>
          exfalso
          have h1 : listed.getD k false = true := anc_listed hc i o ho hpre k hb
          have h2 := ((hm k).1 (by simp [hk])).2
          have hk2 : k < listed.size := by have := hl1 k hk; omega
          simp only [Array.getD_eq_getD_getElem?, Array.getElem?_eq_getElem hk2, Option.getD_some] at h1 h2
          rw [h1] at h2; cases h2
      have hb := bubbleR hd ho l2 l1 st hanc h
      unfold wpOp
      simp only [ho]
      have hstep := op_stepR hmn (Q' := PostOK n0 lo S0 gh0 w0 sto0 R) (K := wpAny P .any ops (PostOK n0 lo S0 gh0 w0 sto0 R) n (listed.setIfInBounds i true)) hT hn0 hlo hos hb hrs fun a' w' st' S' gh' h1 h2 h3 h4 h5 => by
        have hisz2 : i < listed.size := by omega
        have look : ∀ k d, (listed.setIfInBounds i true).getD k d = if k = i then true else listed.getD k d := by
          intro k d
          simp only [Array.getD_eq_getD_getElem?]
          by_cases hk : k = i
          · subst hk
            rw [if_pos rfl, Array.getElem?_setIfInBounds_self_of_lt hisz2]; rfl
          · rw [if_neg hk, Array.getElem?_setIfInBounds_ne (fun e => hk e.symm)]
        have hni : i ∉ l1 ++ l2 := by
          intro hmem
          rcases List.mem_append.1 hmem with h | h
          · have := hl1 i h; omega
          · have := (List.pairwise_cons.1 hpw.2.1).1 i h; omega
        refine ih (l1 ++ l2) (by simp at hn ⊢; omega) (listed.setIfInBounds i true) st' S' gh' a' w' ?_ ?_ (by simp [hsz]) ?_ h4 h5 h1 h2 (hf.trans h3)
        · exact List.pairwise_append.2 ⟨hpw.1, (List.pairwise_cons.1 hpw.2.1).2, fun x hx y hy => hpw.2.2 x hx y (by simp [hy])⟩
        · intro k
          rw [look]
          by_cases hk : k = i
          · subst hk
            simp [hni]
          · rw [if_neg hk, ← hm k]
            simp [hk]
        · intro k o' ho' hk e he hb'
          rw [look] at hk ⊢
          by_cases hki : k = i
          · subst hki
            rw [ho] at ho'
            cases ho'
            have := hpre e he hb'
            split
            · rfl
            · exact this
          · rw [if_neg hki] at hk
            have := hc k o' ho' hk e he hb'
            split
            · rfl
            · exact this
      by_cases hw : Region.wanted o (yielded ops a.tmps) = true
      · rw [if_pos hw] at hstep ⊢
        exact .inl hstep
      · rw [if_neg hw] at hstep ⊢
        exact hstep
theorem evOpsR_draw (hmn : n0 ≤ m) (hT : T.OK P) (hm : P.follows .mixedOrders = true) (hd : drawOkR ops = true) {R : Exit → St → Prop} (hlo : lo ≤ n0) {st : St} {S : Stay} {gh : List Value} {a : Act} {w : World} (hn : n0 ≤ st.sto.length) (hos : OutSc n0 st.sto) (h : EvOpsR T (CallOK P) n0 lo m ops (R .normal) ops.toList st) (hrs : RS S gh w a st) (id : Nat) :
    (Code.region id ops true).wp P (PostOK n0 lo S gh w st.sto R) a w := by
  refine wp_region_any hm ?_
  obtain ⟨hrs', hf⟩ := RS.drew (lo := lo) hrs
  have hl : opsOf ops (List.range ops.size) = ops.toList := by
    apply List.ext_getElem?
    intro k
    simp only [opsOf, List.getElem?_map]
    rcases Nat.lt_or_ge k ops.size with hk | hk
    · rw [List.getElem?_range hk, Array.getElem?_toList, Array.getElem?_eq_getElem hk]
      simp [Array.getD_eq_getD_getElem?, hk]
    · rw [List.getElem?_eq_none (by simpa using hk), List.getElem?_eq_none (by simpa using hk)]; rfl
  have := evOpsR_any hmn (P := P) hT hd (R := R) (S0 := S) (gh0 := gh) (w0 := w) (sto0 := st.sto) hlo (List.range ops.size) (Array.replicate ops.size false) st S gh a w.drew List.pairwise_lt_range (fun k => by
    simp only [List.mem_range, Array.getD_eq_getD_getElem?]
    constructor
    · intro hk; exact ⟨hk, by simp [hk]⟩
    · exact fun h => h.1) (by simp) (fun k o ho hk => by
    exfalso
    simp only [Array.getD_eq_getD_getElem?] at hk
    rcases Nat.lt_or_ge k ops.size with h | h
    · simp [h] at hk
    · simp [h] at hk) hn hos (by rw [hl]; exact h) hrs' (hf.weaken hn)
  rw [List.length_range] at this
  exact this
end
end Go.Proofs.Ytghdanpigohnjaa
