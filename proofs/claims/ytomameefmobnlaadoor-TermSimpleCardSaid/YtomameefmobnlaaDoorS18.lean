/-
  Terms: the package's Simplify, on terms. No condition of its own. Terms: the variables' nodes. Plain Lean. No condition of its own. Terms: the reference's variables. No condition of its own. Terms: the reference's Vars. No condition of its own. Terms: the law TermEvals. No condition of its own. Terms: the reference's shapes of kids, one by one; its Fit. Plain Lean. No condition of its own. Terms: the reference's table of the variables' types. Plain Lean. No condition of its own. Terms: the reference's Fit at one term. No condition of its own.
-/
import Derived.Test.YtomameefmobnlaaDoorS3
import Derived.Test.YtomameefmobnlaaDoorS7
import Derived.Test.YtomameefmobnlaaDoorS8
import Derived.Test.YtomameefmobnlaaDoorS13
import Derived.Test.YtomameefmobnlaaDoorS14
import Derived.Test.YtomameefmobnlaaDoorS15
import Derived.Test.YtomameefmobnlaaDoorS16
import Derived.Test.YtomameefmobnlaaDoorS17
namespace Go.Proofs.YtomameefmobnlaaDoor
open Go Go.RowKit

attribute [local irreducible] EvOps EvC
attribute [local go_sem] List.getElem?_toArray getS List.flatten_cons List.flatten_nil List.contains_nil List.append_nil List.length_set
set_option linter.unusedSimpArgs false
set_option linter.unusedVariables false
set_option maxRecDepth 100000
set_option maxHeartbeats 8000000
theorem bin_ev {op : Int} (h1 : 0 ≤ op) (h2 : op ≤ 13) (a b : Tr) (hs : tsz a + tsz b < 1000000) (sto : Sto) (lo : Nat) (hlo : lo ≤ sto.length) : CallEv Tryd.prog tab B0 60 [.v (TV (opT op a b))] sto lo (.v (TV (binS op a b))) sto := by
  obtain rfl | rfl | rfl | rfl | rfl | rfl | rfl | rfl | rfl | rfl | rfl | rfl | rfl | rfl : op = 0 ∨ op = 1 ∨ op = 2 ∨ op = 3 ∨ op = 4 ∨ op = 5 ∨ op = 6 ∨ op = 7 ∨ op = 8 ∨ op = 9 ∨ op = 10 ∨ op = 11 ∨ op = 12 ∨ op = 13 := by omega
  · exact bin0_ev a b hs sto lo hlo
  · exact bin1_ev a b hs sto lo hlo
  · exact bin2_ev a b hs sto lo hlo
  · exact bin3_ev a b hs sto lo hlo
  · exact bin4_ev a b hs sto lo hlo
  · exact bin5_ev a b hs sto lo hlo
  · exact bin6_ev a b hs sto lo hlo
  · exact bin7_ev a b hs sto lo hlo
  · exact bin8_ev a b hs sto lo hlo
  · exact bin9_ev a b hs sto lo hlo
  · exact bin10_ev a b hs sto lo hlo
  · exact bin11_ev a b hs sto lo hlo
  · exact bin12_ev a b hs sto lo hlo
  · exact bin13_ev a b hs sto lo hlo
/-- What a call of Simplify makes of a term. -/
def SimpP (k : Int) (t : Tr) : Prop := ∃ s, Sim k t s ∧ (varP t = [] → isC s = true) ∧ ∀ (sto : Sto) (lo : Nat), lo ≤ sto.length → CallEv Tryd.prog tab B0 34 [.v (TV t)] sto lo (.v (TV s)) sto
theorem simp_leaf {k k' n m : Int} (h : Wt k (.mk k' n m [])) (hc : varP (.mk k' n m []) = [] → isC (.mk k' n m []) = true) : SimpP k (.mk k' n m []) := by
  refine ⟨_, .refl h, hc, fun sto lo hlo => ?_⟩
  clear h hc
  refine CallEv.intro ⟨_, _, [], Tryd.func34, rfl, by decide, ?_⟩; simp only [go_sem, Tryd.ntmps34]
  repeat' (first | (refine go ⟨?_⟩) | (fail) | ((first | (refine bsp ?_ ?_) | (refine csp ?_ ?_)); all_goals (intro hb; (fail_if_success (cases hb; done)); (try simp only [decide_eq_true_eq, decide_eq_false_iff_not, beq_iff_eq, bne_iff_ne, ne_eq, beq_eq_false_iff_ne, bne_eq_false_iff_eq, Bool.not_eq_true', Bool.not_eq_false', Bool.and_eq_true, Bool.or_eq_true, Decidable.not_not] at hb); (try simp only [go_sem]))))
  refine ⟨by first | exact .inr rfl | exact .inl rfl, .inl ⟨[], _, (by dsimp only [Tryd.f34]; exact sv), ?_, by simp⟩⟩
  rfl
theorem con_var {l : List Tr} {ks : List Int} (h : ∀ (i : Nat) (q : i < l.length), ∃ k, Wt k l[i]) (hc : l.all isC = true) : varPs l = [] := by
  induction l with
  | nil => rfl
  | cons a l ih =>
    simp only [List.all_cons, Bool.and_eq_true] at hc
    obtain ⟨k, hk⟩ := h 0 (by simp)
    have hk : Wt k a := hk
    rw [varPs, con_none hk hc.1, ih (fun i q => by have := h (i + 1) (by simpa using q); simpa using this) hc.2]; rfl
/-- All kids are constants. -/
theorem simp_con {k k' n m : Int} {l rs : List Tr} (h0 : ¬ l.length = 0) (hs : tsz (.mk k' n m l) < 1000000) (hr : rs.length = l.length) (h6 : k' ≠ 6) (hS : Sim k (.mk k' n m l) (.mk k' n m rs)) (hc : rs.all isC = true) (hv : varPs rs = [])
    (hk : ∀ (i : Nat) (q1 : i < l.length) (q2 : i < rs.length) (sto : Sto) (lo : Nat), lo ≤ sto.length → CallEv Tryd.prog tab B0 34 [.v (TV l[i])] sto lo (.v (TV rs[i])) sto) : SimpP k (.mk k' n m l) := by
  have hv' : varP (.mk k' n m rs) = [] := by rw [varP, if_neg h6, hv]; rfl
  have hl := tszs_length l
  have hs' := hs
  simp only [tsz] at hs'
  have hval := validS_none hS.wt hv'
  have hkk := hS.wt.kind
  refine ⟨_, sim_con hS hv', fun _ => ?_, fun sto lo hlo => ?_⟩
  · rcases hkk with rfl | rfl <;> rfl
  · refine simp_pre k' n m l rs h0 (by omega) hr hk _ sto lo hlo fun js s hB => ?_
    refine si_con k' n m rs k (evalS [] (.mk k' n m rs)) hkk hc (fun sto lo hlo => ?_) (fun sto lo hlo => ?_) sto lo hlo js s hB
    · have := valid_ev (.mk k' n m rs) sto lo (by have := hS.sz; omega) hlo
      rw [hval] at this
      rw [show max k 0 = k from by omega, decide_eq_true (show 0 ≤ k by omega)] at this
      exact this
    · exact eval_ev [] (by intro x hx; cases hx) (by decide) hS.wt sto lo hlo
theorem simp_op {k ka op : Int} {a b : Tr} (h1 : 0 ≤ op) (h2 : op ≤ 13) (hw : ∀ x y, Wt ka x → Wt ka y → Wt k (opT op x y)) (hb : ∀ x y, Wt ka x → Wt ka y → Sim k (opT op x y) (binS op x y)) (hs : tsz (opT op a b) < 1000000) (ia : SimpP ka a) (ib : SimpP ka b) : SimpP k (opT op a b) := by
  obtain ⟨a', sa, va, ca⟩ := ia
  obtain ⟨b', sb, vb, cb⟩ := ib
  have hS := sim_op hw sa sb
  have hk : ∀ (i : Nat) (q1 : i < [a, b].length) (q2 : i < [a', b'].length) (sto : Sto) (lo : Nat), lo ≤ sto.length → CallEv Tryd.prog tab B0 34 [.v (TV [a, b][i])] sto lo (.v (TV [a', b'][i])) sto := by
    intro i q1 q2 sto lo hlo
    rcases i with _ | _ | i
    · exact ca sto lo hlo
    · exact cb sto lo hlo
    · simp only [List.length_cons, List.length_nil] at q1; omega
  cases hc : ([a', b'] : List Tr).all isC with
  | true =>
    simp only [List.all_cons, List.all_nil, Bool.and_true, Bool.and_eq_true] at hc
    exact simp_con (rs := [a', b']) (by simp) hs rfl (by decide) hS (by simp [hc]) (by rw [varPs, varPs, con_none sa.wt hc.1, con_none sb.wt hc.2]; rfl) hk
  | false =>
    have hs' := hs
    simp only [tsz, tszs] at hs'
    have := sa.sz
    have := sb.sz
    refine ⟨_, hS.trans (hb _ _ sa.wt sb.wt), fun hv => ?_, fun sto lo hlo => ?_⟩
    · simp [varP, varPs] at hv
      simp [va hv.1, vb hv.2] at hc
    · refine simp_pre 9 op 0 [a, b] [a', b'] (by simp) (by simp) rfl hk _ sto lo hlo fun js s hB => ?_
      rw [hc] at hB
      exact si_bin op 0 [a', b'] _ (fun sto lo hlo => bin_ev h1 h2 a' b' (by omega) sto lo hlo) sto lo hlo js s hB
theorem simp_notP {a : Tr} (hs : tsz (.mk 10 0 0 [a]) < 1000000) (ia : SimpP 1 a) : SimpP 1 (.mk 10 0 0 [a]) := by
  obtain ⟨a', sa, va, ca⟩ := ia
  have hS := sim_not sa
  have hk : ∀ (i : Nat) (q1 : i < [a].length) (q2 : i < [a'].length) (sto : Sto) (lo : Nat), lo ≤ sto.length → CallEv Tryd.prog tab B0 34 [.v (TV [a][i])] sto lo (.v (TV [a'][i])) sto := by
    intro i q1 q2 sto lo hlo
    rcases i with _ | i
    · exact ca sto lo hlo
    · simp only [List.length_cons, List.length_nil] at q1; omega
  cases hc : ([a'] : List Tr).all isC with
  | true =>
    simp only [List.all_cons, List.all_nil, Bool.and_true] at hc
    exact simp_con (rs := [a']) (by simp) hs rfl (by decide) hS (by simp [hc]) (by rw [varPs, con_none sa.wt hc]; rfl) hk
  | false =>
    have hnv : varP (.mk 10 0 0 [a]) = [] → False := fun hv => by
      simp [varP, varPs] at hv
      simp [va hv] at hc
    by_cases h10 : a'.k = 10
    · obtain ⟨_, b, rfl, hb⟩ := kind_not sa.wt h10
      refine ⟨b, hS.trans (not_not hb), fun hv => (hnv hv).elim, fun sto lo hlo => ?_⟩
      refine simp_pre 10 0 0 [a] [.mk 10 0 0 [b]] (by simp) (by simp) rfl hk _ sto lo hlo fun js s hB => ?_
      rw [hc] at hB
      obtain ⟨k3, n3, m3, l3⟩ := b
      exact si_notnot 0 0 0 0 k3 n3 m3 l3 sto lo hlo js s hB
    · refine ⟨_, hS, fun hv => (hnv hv).elim, fun sto lo hlo => ?_⟩
      refine simp_pre 10 0 0 [a] [a'] (by simp) (by simp) rfl hk _ sto lo hlo fun js s hB => ?_
      rw [hc] at hB
      obtain ⟨k3, n3, m3, l3⟩ := a'
      exact si_not 0 0 k3 n3 m3 l3 h10 sto lo hlo js s hB
theorem simp_condP {k : Int} {c a b : Tr} (hs : tsz (.mk 29 0 0 [c, a, b]) < 1000000) (ic : SimpP 1 c) (ia : SimpP k a) (ib : SimpP k b) : SimpP k (.mk 29 0 0 [c, a, b]) := by
  obtain ⟨c', sc, vc, cc⟩ := ic
  obtain ⟨a', sa, va, ca⟩ := ia
  obtain ⟨b', sb, vb, cb⟩ := ib
  have hS := sim_cond sc sa sb
  have hk : ∀ (i : Nat) (q1 : i < [c, a, b].length) (q2 : i < [c', a', b'].length) (sto : Sto) (lo : Nat), lo ≤ sto.length → CallEv Tryd.prog tab B0 34 [.v (TV [c, a, b][i])] sto lo (.v (TV [c', a', b'][i])) sto := by
    intro i q1 q2 sto lo hlo
    rcases i with _ | _ | _ | i
    · exact cc sto lo hlo
    · exact ca sto lo hlo
    · exact cb sto lo hlo
    · simp only [List.length_cons, List.length_nil] at q1; omega
  have hs' := hs
  simp only [tsz, tszs] at hs'
  have z1 := sa.sz
  have z2 := sb.sz
  have z3 := sc.sz
  cases hc : ([c', a', b'] : List Tr).all isC with
  | true =>
    simp only [List.all_cons, List.all_nil, Bool.and_true, Bool.and_eq_true] at hc
    exact simp_con (rs := [c', a', b']) (by simp) hs rfl (by decide) hS (by simp [hc]) (by rw [varPs, varPs, varPs, con_none sc.wt hc.1, con_none sa.wt hc.2.1, con_none sb.wt hc.2.2]; rfl) hk
  | false =>
    have hnv : varP (.mk 29 0 0 [c, a, b]) = [] → False := fun hv => by
      simp [varP, varPs] at hv
      simp [va hv.2.1, vb hv.2.2, vc hv.1] at hc
    suffices H : ∃ s, Sim k (.mk 29 0 0 [c', a', b']) s ∧ ∀ (sto : Sto) (lo : Nat), lo ≤ sto.length → CallEv Tryd.prog tab B0 34 [.v (TV (.mk 29 0 0 [c, a, b]))] sto lo (.v (TV s)) sto by
      obtain ⟨s, h1, h2⟩ := H
      exact ⟨s, hS.trans h1, fun hv => (hnv hv).elim, h2⟩
    clear hnv
    have hcon := fun sto lo hlo => constant_ev c' sto lo hlo
    have hsm := fun sto lo hlo => sameT_ev (tsz a' + tsz b') a' b' sto lo (Nat.le_refl _) (by omega) hlo
    have hi1 := fun sto lo hlo => is_ev a' 1 sto lo hlo
    have hi0 := fun sto lo hlo => is_ev b' 0 sto lo hlo
    cases hcc : isC c' with
    | true =>
      rcases con_truth sc.wt hcc with rfl | rfl
      · refine ⟨_, cond_0 sb.wt, fun sto lo hlo => ?_⟩
        refine simp_pre 29 0 0 [c, a, b] [.mk 5 0 0 [], a', b'] (by simp) (by simp) rfl hk _ sto lo hlo fun js s hB => ?_
        rw [hc] at hB
        obtain ⟨k2, n2, m2, l2⟩ := a'
        obtain ⟨k3, n3, m3, l3⟩ := b'
        exact si_c0 0 0 k2 n2 m2 k3 n3 m3 l2 l3 hcon sto lo hlo js s hB
      · refine ⟨_, cond_1 sa.wt, fun sto lo hlo => ?_⟩
        refine simp_pre 29 0 0 [c, a, b] [.mk 5 1 0 [], a', b'] (by simp) (by simp) rfl hk _ sto lo hlo fun js s hB => ?_
        rw [hc] at hB
        obtain ⟨k2, n2, m2, l2⟩ := a'
        obtain ⟨k3, n3, m3, l3⟩ := b'
        exact si_c1 0 0 k2 n2 m2 k3 n3 m3 l2 l3 hcon sto lo hlo js s hB
    | false =>
      rw [hcc] at hcon
      cases hsb : smT a' b' with
      | true =>
        rw [hsb] at hsm
        have he := smT_eq hsb
        refine ⟨a', by rw [← he]; exact cond_same sa.wt, fun sto lo hlo => ?_⟩
        refine simp_pre 29 0 0 [c, a, b] [c', a', b'] (by simp) (by simp) rfl hk _ sto lo hlo fun js s hB => ?_
        rw [hc] at hB
        clear he hsb
        obtain ⟨k1, n1, m1, l1⟩ := c'
        obtain ⟨k2, n2, m2, l2⟩ := a'
        obtain ⟨k3, n3, m3, l3⟩ := b'
        exact si_cs 0 0 k2 n2 m2 k3 n3 m3 l2 l3 k1 n1 m1 l1 hcon hsm sto lo hlo js s hB
      | false =>
        rw [hsb] at hsm
        by_cases h10 : c'.k = 10
        · obtain ⟨_, d, rfl, hd⟩ := kind_not sc.wt h10
          refine ⟨_, cond_not hd sa.wt sb.wt, fun sto lo hlo => ?_⟩
          refine simp_pre 29 0 0 [c, a, b] [.mk 10 0 0 [d], a', b'] (by simp) (by simp) rfl hk _ sto lo hlo fun js s hB => ?_
          rw [hc] at hB
          obtain ⟨k2, n2, m2, l2⟩ := a'
          obtain ⟨k3, n3, m3, l3⟩ := b'
          obtain ⟨k4, n4, m4, l4⟩ := d
          exact si_cn 0 0 k2 n2 m2 k3 n3 m3 l2 l3 0 0 k4 n4 m4 l4 hcon hsm sto lo hlo js s hB
        · refine ⟨if isT a' 1 && isT b' 0 && a'.k == 5 then c' else .mk 29 0 0 [c', a', b'], ?_, fun sto lo hlo => ?_⟩
          · split
            · rename_i h
              simp only [Bool.and_eq_true, beq_iff_eq] at h
              exact cond_self sc.wt sa.wt sb.wt h.2 h.1.1 h.1.2
            · exact .refl (.cond sc.wt sa.wt sb.wt)
          · refine simp_pre 29 0 0 [c, a, b] [c', a', b'] (by simp) (by simp) rfl hk _ sto lo hlo fun js s hB => ?_
            rw [hc] at hB
            generalize isT a' 1 = y1 at *
            generalize isT b' 0 = y0 at *
            obtain ⟨k1, n1, m1, l1⟩ := c'
            obtain ⟨k2, n2, m2, l2⟩ := a'
            obtain ⟨k3, n3, m3, l3⟩ := b'
            exact si_cd 0 0 k2 n2 m2 k3 n3 m3 l2 l3 k1 n1 m1 l1 y1 y0 h10 hcon hsm hi1 hi0 sto lo hlo js s hB
theorem simp_ev {k : Int} {t : Tr} (h : Wt k t) (hs : tsz t < 1000000) : SimpP k t := by
  induction h with
  | num h1 h2 => exact simp_leaf (.num h1 h2) fun _ => rfl
  | truth h1 h2 => exact simp_leaf (.truth h1 h2) fun _ => rfl
  | var h1 h2 h3 => exact simp_leaf (.var h1 h2 h3) fun h => by simp [varP] at h
  | word h1 h2 ha hb ia ib =>
    have hs' := hs
    simp only [tsz, tszs] at hs'
    exact simp_op h1 (by omega) (fun x y hx hy => .word h1 h2 hx hy) (fun x y hx hy => bin_word h1 h2 hx hy) hs (ia (by omega)) (ib (by omega))
  | comp h1 h2 ha hb ia ib =>
    have hs' := hs
    simp only [tsz, tszs] at hs'
    exact simp_op (by omega) (by omega) (fun x y hx hy => .comp h1 h2 hx hy) (fun x y hx hy => bin_comp h1 h2 hx hy) hs (ia (by omega)) (ib (by omega))
  | both h1 h2 ha hb ia ib =>
    have hs' := hs
    simp only [tsz, tszs] at hs'
    exact simp_op (by omega) (by omega) (fun x y hx hy => .both h1 h2 hx hy) (fun x y hx hy => bin_both h1 h2 hx hy) hs (ia (by omega)) (ib (by omega))
  | not ha ia =>
    have hs' := hs
    simp only [tsz, tszs] at hs'
    exact simp_notP hs (ia (by omega))
  | cond hc ha hb ic ia ib =>
    have hs' := hs
    simp only [tsz, tszs] at hs'
    exact simp_condP hs (ic (by omega)) (ia (by omega)) (ib (by omega))
end Go.Proofs.YtomameefmobnlaaDoor
namespace Go.Proofs.YtomameefmobnlaaDoor
open Go
mutual
def nodesT : Tr → List Tr
  | .mk k n m l => (if k = 6 then [.mk k n m l] else []) ++ nodesTs l
def nodesTs : List Tr → List Tr
  | [] => []
  | t :: l => nodesT t ++ nodesTs l
end
theorem nodesTs_app : ∀ a b : List Tr, nodesTs (a ++ b) = nodesTs a ++ nodesTs b
  | [], b => by rw [nodesTs]; rfl
  | t :: a, b => by rw [List.cons_append, nodesTs, nodesTs, nodesTs_app a b, List.append_assoc]
theorem nodesTs_take {l : List Tr} {i : Nat} (h : i < l.length) : nodesTs (l.take (i + 1)) = nodesTs (l.take i) ++ nodesT l[i] := by
  rw [List.take_succ_eq_append_getElem h, nodesTs_app, nodesTs, nodesTs, List.append_nil]
mutual
theorem nodesT_len : ∀ t : Tr, (nodesT t).length ≤ tsz t
  | .mk k n m l => by
    have := nodesTs_len l
    rw [nodesT, tsz, List.length_append]
    split <;> simp <;> omega
theorem nodesTs_len : ∀ l : List Tr, (nodesTs l).length ≤ tszs l
  | [] => by simp [nodesTs, tszs]
  | t :: l => by
    have := nodesT_len t; have := nodesTs_len l
    rw [nodesTs, tszs, List.length_append]; omega
end
mutual
theorem nodesT_varP : ∀ t : Tr, (nodesT t).map (fun t => (t.n, t.m)) = varP t
  | .mk k n m l => by
    rw [nodesT, varP, List.map_append, nodesTs_varP l]
    split <;> rfl
theorem nodesTs_varP : ∀ l : List Tr, (nodesTs l).map (fun t => (t.n, t.m)) = varPs l
  | [] => by simp [nodesTs, varPs]
  | t :: l => by rw [nodesTs, varPs, List.map_append, nodesT_varP t, nodesTs_varP l]
end
theorem nodes_any {t : Tr} {n : Int} : (∃ x ∈ nodesT t, x.n = n) ↔ ∃ p ∈ varP t, p.1 = n := by
  rw [← nodesT_varP]
  constructor
  · rintro ⟨x, hx, rfl⟩
    exact ⟨(x.n, x.m), List.mem_map.2 ⟨x, hx, rfl⟩, rfl⟩
  · rintro ⟨p, hp, rfl⟩
    obtain ⟨x, hx, rfl⟩ := List.mem_map.1 hp
    exact ⟨x, hx, rfl⟩
theorem upTo_succ (P : Int → Bool) (n : Nat) : upTo P (n + 1) = upTo P n ++ (if P n then [(n : Int)] else []) := by
  unfold upTo
  rw [List.range_succ, List.map_append, List.filter_append]
  congr 1
  simp only [List.map_cons, List.map_nil, List.filter_cons, List.filter_nil]
theorem upTo_len (P : Int → Bool) (n : Nat) : (upTo P n).length ≤ n := by
  unfold upTo
  exact Nat.le_trans (List.length_filter_le _ _) (by simp)
end Go.Proofs.YtomameefmobnlaaDoor
namespace Go.Proofs.YtomameefmobnlaaDoor
open Go Go.RowKit

attribute [local irreducible] EvOps EvC
attribute [local go_sem] List.getElem?_toArray getS List.flatten_cons List.flatten_nil List.contains_nil List.append_nil cellsTs
set_option linter.unusedSimpArgs false
set_option linter.unusedVariables false
set_option maxRecDepth 100000
set_option maxHeartbeats 4000000
theorem nodes_ev (N : Nat) : ∀ (t : Tr) (sto : Sto) (lo : Nat), tsz t ≤ N → tsz t < 1000000 → lo ≤ sto.length → CallEv Tryd.prog tab B0 48 [.v (TV t)] sto lo (.v (.sl (nodesT t).length (cellsTs (nodesT t)))) sto := by
  induction N with
  | zero => intro t sto lo h; have := tsz_pos t; omega
  | succ N ih =>
    intro t sto lo hN hs hlo
    obtain ⟨k, n, m, l⟩ := t
    simp only [tsz] at hN hs
    have hll := tszs_length l
    rw [nodesT]
    obtain ⟨y0, hy0⟩ : ∃ y0 : List Tr, y0 = if k = 6 then [.mk k n m l] else [] := ⟨_, rfl⟩
    rw [← hy0]
    have hyl : y0.length ≤ 1 := by rw [hy0]; split <;> simp
    refine CallEv.intro ⟨_, _, [], Tryd.func48, rfl, by decide, ?_⟩; simp only [go_sem, Tryd.ntmps48]
    by_cases k6 : k = 6
    all_goals first | rw [if_pos k6] at hy0 | rw [if_neg k6] at hy0
    all_goals
      repeat' (first | (refine go ⟨?_⟩) | (fail) | ((first | (refine bsp ?_ ?_) | (refine csp ?_ ?_)); all_goals (intro hb; (fail_if_success (cases hb; done)); (try simp only [decide_eq_true_eq, decide_eq_false_iff_not, beq_iff_eq, bne_iff_ne, ne_eq, beq_eq_false_iff_ne, bne_eq_false_iff_eq, Bool.not_eq_true', Bool.not_eq_false', Bool.and_eq_true, Bool.or_eq_true, Decidable.not_not] at hb); (try simp only [go_sem]))))
    case' pos =>
      subst hy0
      refine c_loop (fun mm s => ∃ (i : Nat) (ys : List Tr) (es : Option (TypeId × Nat)) (js : List Ent), (i ≤ l.length ∧ mm = l.length - i ∧ ys = [.mk k n m l] ++ nodesTs (l.take i) ∧ (es = none ∨ es = some (25, 4))) ∧ (s.env.length = 28 ∧ s.sto = sto ++ .cells [.v (VI k), .v (VI n), .v (VI m), .v (.sl l.length (cellsTs l))] :: .arr es false ys.length (cellsTs ys) :: js ∧ s.env[1]? = some (.ptr sto.length 0) ∧ s.env[3]? = some (.arr (sto.length + 1) ys.length) ∧ s.env[4]? = some (.v (VI i)))) (.refl _) ⟨0, [.mk k n m l], some (25, 4), [], ⟨by omega, rfl, by simp [nodesTs], .inr rfl⟩, rfl, rfl, ?_, ?_, ?_⟩ ?_
    case' neg =>
      subst hy0
      refine c_loop (fun mm s => ∃ (i : Nat) (ys : List Tr) (es : Option (TypeId × Nat)) (js : List Ent), (i ≤ l.length ∧ mm = l.length - i ∧ ys = [] ++ nodesTs (l.take i) ∧ (es = none ∨ es = some (25, 4))) ∧ (s.env.length = 28 ∧ s.sto = sto ++ .cells [.v (VI k), .v (VI n), .v (VI m), .v (.sl l.length (cellsTs l))] :: .arr es false ys.length (cellsTs ys) :: js ∧ s.env[1]? = some (.ptr sto.length 0) ∧ s.env[3]? = some (.arr (sto.length + 1) ys.length) ∧ s.env[4]? = some (.v (VI i)))) (.adopt _ 3 false rfl (by simp; omega)) ⟨0, [], none, [], ⟨by omega, rfl, by simp [nodesTs], .inl rfl⟩, rfl, ?_, ?_, ?_, ?_⟩ ?_
    all_goals first | rfl | (simp [cellsTs]; done) | skip
    all_goals
      rintro mm s ⟨i, ys, es, js, ⟨h1, rfl, h2, h3⟩, hL, hT, k1, k3, k4⟩
      obtain ⟨env, st0⟩ := s; obtain ⟨J, hJ⟩ := listJ hL; rw [show (List.range 28).map J = J 0 :: J 1 :: J 2 :: J 3 :: J 4 :: J 5 :: J 6 :: J 7 :: J 8 :: J 9 :: J 10 :: J 11 :: J 12 :: J 13 :: J 14 :: J 15 :: J 16 :: J 17 :: J 18 :: J 19 :: J 20 :: J 21 :: J 22 :: J 23 :: J 24 :: J 25 :: J 26 :: J 27 :: [] from by kernel_rfl] at hJ; replace k1 := Option.some.inj ((congrArg (·[1]?) hJ).symm.trans k1); replace k3 := Option.some.inj ((congrArg (·[3]?) hJ).symm.trans k3); replace k4 := Option.some.inj ((congrArg (·[4]?) hJ).symm.trans k4); rw [k1, k3, k4] at hJ; dsimp only at hJ hT; subst hJ; replace hT := hT.symm; subst hT; clear hL k1 k3 k4
      have hyl2 : ys.length ≤ 1 + tszs l := by
        rw [h2, List.length_append]
        have := nodesTs_len (l.take i)
        have := tszs_take_le l i
        simp only [List.length_cons, List.length_nil]
        omega
      by_cases hi : i < l.length
      · have hz := tsz_get hi
        have hnx := nodesTs_take hi
        have hnl := nodesT_len l[i]
        have hk := fun sto lo hlo => ih l[i] sto lo (by omega) (by omega) hlo
        have hz0 : nodesT l[i] = [] ∨ ¬ (nodesT l[i]).length = 0 := by cases nodesT l[i] <;> simp
        clear ih hyl
        generalize htt : l[i] = t at *
        generalize nodesT t = z at *
        obtain ⟨k2, n2, m2, l2⟩ := t
        rcases hz0 with rfl | hz0
        · repeat' (first | (refine go ⟨?_⟩) | (fail) | ((first | (refine bsp ?_ ?_) | (refine csp ?_ ?_)); all_goals (intro hb; (fail_if_success (cases hb; done)); (try simp only [decide_eq_true_eq, decide_eq_false_iff_not, beq_iff_eq, bne_iff_ne, ne_eq, beq_eq_false_iff_ne, bne_eq_false_iff_eq, Bool.not_eq_true', Bool.not_eq_false', Bool.and_eq_true, Bool.or_eq_true, Decidable.not_not] at hb); (try simp only [go_sem]))))
          rw [htt]
          repeat' (first | (refine go ⟨?_⟩) | (((refine call ?_); (refine ⟨_, hk _ _ (by first | omega | (simp; done) | (simp; omega)), ?_⟩); (try simp only [go_sem]))) | ((first | (refine bsp ?_ ?_) | (refine csp ?_ ?_)); all_goals (intro hb; (fail_if_success (cases hb; done)); (try simp only [decide_eq_true_eq, decide_eq_false_iff_not, beq_iff_eq, bne_iff_ne, ne_eq, beq_eq_false_iff_ne, bne_eq_false_iff_eq, Bool.not_eq_true', Bool.not_eq_false', Bool.and_eq_true, Bool.or_eq_true, Decidable.not_not] at hb); (try simp only [go_sem]))))
          refine ⟨_, _, ?_, .refl _, i + 1, ys, es, _, ⟨by omega, rfl, by rw [hnx, List.append_nil]; exact h2, h3⟩, rfl, rfl, ?_, ?_, ?_⟩
          · omega
          all_goals rfl
        · repeat' (first | (refine go ⟨?_⟩) | (fail) | ((first | (refine bsp ?_ ?_) | (refine csp ?_ ?_)); all_goals (intro hb; (fail_if_success (cases hb; done)); (try simp only [decide_eq_true_eq, decide_eq_false_iff_not, beq_iff_eq, bne_iff_ne, ne_eq, beq_eq_false_iff_ne, bne_eq_false_iff_eq, Bool.not_eq_true', Bool.not_eq_false', Bool.and_eq_true, Bool.or_eq_true, Decidable.not_not] at hb); (try simp only [go_sem]))))
          rw [htt]
          repeat' (first | (refine go ⟨?_⟩) | (((refine call ?_); (refine ⟨_, hk _ _ (by first | omega | (simp; done) | (simp; omega)), ?_⟩); (try simp only [go_sem]))) | ((first | (refine bsp ?_ ?_) | (refine csp ?_ ?_)); all_goals (intro hb; (fail_if_success (cases hb; done)); (try simp only [decide_eq_true_eq, decide_eq_false_iff_not, beq_iff_eq, bne_iff_ne, ne_eq, beq_eq_false_iff_ne, bne_eq_false_iff_eq, Bool.not_eq_true', Bool.not_eq_false', Bool.and_eq_true, Bool.or_eq_true, Decidable.not_not] at hb); (try simp only [go_sem]))))
          refine ⟨_, _, ?_, .refl _, i + 1, ys ++ z, some (25, 4), js, ⟨by omega, rfl, by rw [hnx, h2]; simp, .inr rfl⟩, rfl, ?_, ?_, ?_, ?_⟩
          · omega
          all_goals first | rfl | (simp [cellsTs_append]; done)
      · rw [List.take_of_length_le (by omega)] at h2
        repeat' (first | (refine go ⟨?_⟩) | (fail) | ((first | (refine bsp ?_ ?_) | (refine csp ?_ ?_)); all_goals (intro hb; (fail_if_success (cases hb; done)); (try simp only [decide_eq_true_eq, decide_eq_false_iff_not, beq_iff_eq, bne_iff_ne, ne_eq, beq_eq_false_iff_ne, bne_eq_false_iff_eq, Bool.not_eq_true', Bool.not_eq_false', Bool.and_eq_true, Bool.or_eq_true, Decidable.not_not] at hb); (try simp only [go_sem]))))
        refine ⟨by first | exact .inr rfl | exact .inl rfl, .inl ⟨[], _, (by dsimp only [Tryd.f48]; exact sv), ?_, by simp⟩⟩
        rw [h2]
        first | rfl | (simp [cellsTs, cellsT, Nat.add_comm]; done)
end Go.Proofs.YtomameefmobnlaaDoor
namespace Go.Proofs.YtomameefmobnlaaDoor
open Go Go.RowKit

attribute [local irreducible] EvOps EvC
attribute [local go_sem] List.getElem?_toArray getS List.flatten_cons List.flatten_nil List.contains_nil List.append_nil cellsTs
set_option linter.unusedSimpArgs false
set_option linter.unusedVariables false
set_option maxRecDepth 100000
set_option maxHeartbeats 4000000
theorem cellsTs_n {l : List Tr} {i : Nat} (h : i < l.length) : (cellsTs l)[i * 4 + 1]? = some (VI l[i].n) := by
  have h1 := cellsTs_at h
  have h2 := congrArg (fun x => x[1]?) h1
  simp only [List.getElem?_take_of_lt (show 1 < 4 from by decide), List.getElem?_drop] at h2
  rw [h2]
  cases l[i] with
  | mk a b c d => rfl
attribute [local go_sem] cellsTs_n
theorem upTo_any {t : Tr} (n : Nat) : (nodesT t).any (fun x => x.n == (n : Int)) = decide (∃ p ∈ varP t, p.1 = (n : Int)) := by
  rw [Bool.eq_iff_iff, List.any_eq_true, decide_eq_true_eq, ← nodes_any]
  simp only [beq_iff_eq]
theorem any_take {l : List Tr} {i : Nat} (h : i < l.length) (n : Int) : (l.take (i + 1)).any (fun x => x.n == n) = ((l.take i).any (fun x => x.n == n) || (l[i].n == n)) := by
  rw [List.take_succ_eq_append_getElem h, List.any_append]
  simp
theorem rVars_ev (t : Tr) (hs : tsz t < 1000000) (sto : Sto) (lo : Nat) (hlo : lo ≤ sto.length) : CallEv Tryd.prog tab B0 18 [.v (TV t)] sto lo (.v (LI (refVars t))) sto := by
  have hnd := fun sto lo hlo => nodes_ev (tsz t) t sto lo (Nat.le_refl _) hs hlo
  have hnl := nodesT_len t
  have hP : ∀ n : Nat, (nodesT t).any (fun x => x.n == (n : Int)) = decide (∃ p ∈ varP t, p.1 = (n : Int)) := upTo_any
  unfold refVars
  obtain ⟨P, hPd⟩ : ∃ P : Int → Bool, P = fun n => decide (∃ p ∈ varP t, p.1 = n) := ⟨_, rfl⟩
  rw [← hPd]
  replace hP : ∀ n : Nat, (nodesT t).any (fun x => x.n == (n : Int)) = P n := fun n => by rw [hP, hPd]
  clear hPd
  generalize nodesT t = ns at *
  have hnl2 : ns.length < 1000000 := by omega
  clear hnl
  obtain ⟨k, n, m, l⟩ := t
  refine CallEv.intro ⟨_, _, [], Tryd.func18, rfl, by decide, ?_⟩; simp only [go_sem, Tryd.ntmps18]
  repeat' (first | (refine go ⟨?_⟩) | (((refine call ?_); (refine ⟨_, hnd _ _ (by first | omega | (simp; done) | (simp; omega)), ?_⟩); (try simp only [go_sem]))) | ((first | (refine bsp ?_ ?_) | (refine csp ?_ ?_)); all_goals (intro hb; (fail_if_success (cases hb; done)); (try simp only [decide_eq_true_eq, decide_eq_false_iff_not, beq_iff_eq, bne_iff_ne, ne_eq, beq_eq_false_iff_ne, bne_eq_false_iff_eq, Bool.not_eq_true', Bool.not_eq_false', Bool.and_eq_true, Bool.or_eq_true, Decidable.not_not] at hb); (try simp only [go_sem]))))
  refine c_loop (fun mm s => ∃ (i : Nat) (ys : List Int) (es : Option (TypeId × Nat)) (js : List Ent), (i ≤ 64 ∧ mm = 64 - i ∧ ys = upTo P i ∧ (es = none ∨ es = some (3, 1))) ∧ (s.env.length = 36 ∧ s.sto = sto ++ .cells [.v (VI k), .v (VI n), .v (VI m), .v (.sl l.length (cellsTs l))] :: .arr es false ys.length (ys.map VI) :: js ∧ s.env[3]? = some (.v (.sl ns.length (cellsTs ns))) ∧ s.env[4]? = some (.arr (sto.length + 1) ys.length) ∧ s.env[5]? = some (.v (VI i)))) (.adopt _ 4 false rfl (by simp; omega)) ⟨0, [], none, [], ⟨by omega, rfl, rfl, .inl rfl⟩, rfl, ?_, ?_, ?_, ?_⟩ ?_
  all_goals first | rfl | (simp; done) | skip
  rintro mm s ⟨i, ys, es, js, ⟨h1, rfl, h2, h3⟩, hL, hT, k3, k4, k5⟩
  obtain ⟨env, st0⟩ := s; obtain ⟨J, hJ⟩ := listJ hL; rw [show (List.range 36).map J = J 0 :: J 1 :: J 2 :: J 3 :: J 4 :: J 5 :: J 6 :: J 7 :: J 8 :: J 9 :: J 10 :: J 11 :: J 12 :: J 13 :: J 14 :: J 15 :: J 16 :: J 17 :: J 18 :: J 19 :: J 20 :: J 21 :: J 22 :: J 23 :: J 24 :: J 25 :: J 26 :: J 27 :: J 28 :: J 29 :: J 30 :: J 31 :: J 32 :: J 33 :: J 34 :: J 35 :: [] from by kernel_rfl] at hJ; replace k3 := Option.some.inj ((congrArg (·[3]?) hJ).symm.trans k3); replace k4 := Option.some.inj ((congrArg (·[4]?) hJ).symm.trans k4); replace k5 := Option.some.inj ((congrArg (·[5]?) hJ).symm.trans k5); rw [k3, k4, k5] at hJ; dsimp only at hJ hT; subst hJ; replace hT := hT.symm; subst hT; clear hL k3 k4 k5
  have hyl : ys.length ≤ 64 := by rw [h2]; exact Nat.le_trans (upTo_len P i) h1
  by_cases hi : i < 64
  · have hPi := hP i
    have hnx := upTo_succ P i
    rw [← h2] at hnx
    clear hnd hP
    repeat' (first | (refine go ⟨?_⟩) | (fail) | ((first | (refine bsp ?_ ?_) | (refine csp ?_ ?_)); all_goals (intro hb; (fail_if_success (cases hb; done)); (try simp only [decide_eq_true_eq, decide_eq_false_iff_not, beq_iff_eq, bne_iff_ne, ne_eq, beq_eq_false_iff_ne, bne_eq_false_iff_eq, Bool.not_eq_true', Bool.not_eq_false', Bool.and_eq_true, Bool.or_eq_true, Decidable.not_not] at hb); (try simp only [go_sem]))))
    refine c_loop (fun mm s => ∃ (j : Nat) (b : Bool), (j ≤ ns.length ∧ mm = ns.length - j ∧ b = (ns.take j).any (fun x => x.n == (i : Int))) ∧ (s.env.length = 36 ∧ s.sto = sto ++ .cells [.v (VI k), .v (VI n), .v (VI m), .v (.sl l.length (cellsTs l))] :: .arr es false ys.length (ys.map VI) :: js ∧ s.env[3]? = some (.v (.sl ns.length (cellsTs ns))) ∧ s.env[4]? = some (.arr (sto.length + 1) ys.length) ∧ s.env[5]? = some (.v (VI i)) ∧ s.env[6]? = some (.v (.bool b)) ∧ s.env[7]? = some (.v (VI j)))) (.refl _) ⟨0, false, ⟨by omega, rfl, by simp⟩, rfl, rfl, ?_, ?_, ?_, ?_, ?_⟩ ?_
    all_goals first | rfl | skip
    rintro mm s ⟨j, b, ⟨q1, rfl, q2⟩, hL, hT, k3, k4, k5, k6, k7⟩
    obtain ⟨env, st0⟩ := s; obtain ⟨J, hJ⟩ := listJ hL; rw [show (List.range 36).map J = J 0 :: J 1 :: J 2 :: J 3 :: J 4 :: J 5 :: J 6 :: J 7 :: J 8 :: J 9 :: J 10 :: J 11 :: J 12 :: J 13 :: J 14 :: J 15 :: J 16 :: J 17 :: J 18 :: J 19 :: J 20 :: J 21 :: J 22 :: J 23 :: J 24 :: J 25 :: J 26 :: J 27 :: J 28 :: J 29 :: J 30 :: J 31 :: J 32 :: J 33 :: J 34 :: J 35 :: [] from by kernel_rfl] at hJ; replace k3 := Option.some.inj ((congrArg (·[3]?) hJ).symm.trans k3); replace k4 := Option.some.inj ((congrArg (·[4]?) hJ).symm.trans k4); replace k5 := Option.some.inj ((congrArg (·[5]?) hJ).symm.trans k5); replace k6 := Option.some.inj ((congrArg (·[6]?) hJ).symm.trans k6); replace k7 := Option.some.inj ((congrArg (·[7]?) hJ).symm.trans k7); rw [k3, k4, k5, k6, k7] at hJ; dsimp only at hJ hT; subst hJ; replace hT := hT.symm; subst hT; clear hL k3 k4 k5 k6 k7
    by_cases hj : j < ns.length
    · have hbx := any_take hj i
      rw [← q2] at hbx
      clear q2 hnx hPi h2
      by_cases c : ns[j].n = i
      · rw [beqT c, Bool.or_true] at hbx
        cases b with
        | true =>
          repeat' (first | (refine go ⟨?_⟩) | (fail) | ((first | (refine bsp ?_ ?_) | (refine csp ?_ ?_)); all_goals (intro hb; (fail_if_success (cases hb; done)); (try simp only [decide_eq_true_eq, decide_eq_false_iff_not, beq_iff_eq, bne_iff_ne, ne_eq, beq_eq_false_iff_ne, bne_eq_false_iff_eq, Bool.not_eq_true', Bool.not_eq_false', Bool.and_eq_true, Bool.or_eq_true, Decidable.not_not] at hb); (try simp only [go_sem]))))
          refine ⟨_, _, ?_, .refl _, j + 1, true, ⟨by omega, rfl, hbx.symm⟩, rfl, rfl, ?_, ?_, ?_, ?_, ?_⟩
          · omega
          all_goals rfl
        | false =>
          repeat' (first | (refine go ⟨?_⟩) | (fail) | ((first | (refine bsp ?_ ?_) | (refine csp ?_ ?_)); all_goals (intro hb; (fail_if_success (cases hb; done)); (try simp only [decide_eq_true_eq, decide_eq_false_iff_not, beq_iff_eq, bne_iff_ne, ne_eq, beq_eq_false_iff_ne, bne_eq_false_iff_eq, Bool.not_eq_true', Bool.not_eq_false', Bool.and_eq_true, Bool.or_eq_true, Decidable.not_not] at hb); (try simp only [go_sem]))))
          refine ⟨_, _, ?_, .refl _, j + 1, true, ⟨by omega, rfl, hbx.symm⟩, rfl, rfl, ?_, ?_, ?_, ?_, ?_⟩
          · omega
          all_goals rfl
      · rw [beqF c, Bool.or_false] at hbx
        cases b with
        | true =>
          repeat' (first | (refine go ⟨?_⟩) | (fail) | ((first | (refine bsp ?_ ?_) | (refine csp ?_ ?_)); all_goals (intro hb; (fail_if_success (cases hb; done)); (try simp only [decide_eq_true_eq, decide_eq_false_iff_not, beq_iff_eq, bne_iff_ne, ne_eq, beq_eq_false_iff_ne, bne_eq_false_iff_eq, Bool.not_eq_true', Bool.not_eq_false', Bool.and_eq_true, Bool.or_eq_true, Decidable.not_not] at hb); (try simp only [go_sem]))))
          refine ⟨_, _, ?_, .refl _, j + 1, true, ⟨by omega, rfl, hbx.symm⟩, rfl, rfl, ?_, ?_, ?_, ?_, ?_⟩
          · omega
          all_goals rfl
        | false =>
          repeat' (first | (refine go ⟨?_⟩) | (fail) | ((first | (refine bsp ?_ ?_) | (refine csp ?_ ?_)); all_goals (intro hb; (fail_if_success (cases hb; done)); (try simp only [decide_eq_true_eq, decide_eq_false_iff_not, beq_iff_eq, bne_iff_ne, ne_eq, beq_eq_false_iff_ne, bne_eq_false_iff_eq, Bool.not_eq_true', Bool.not_eq_false', Bool.and_eq_true, Bool.or_eq_true, Decidable.not_not] at hb); (try simp only [go_sem]))))
          refine ⟨_, _, ?_, .refl _, j + 1, false, ⟨by omega, rfl, hbx.symm⟩, rfl, rfl, ?_, ?_, ?_, ?_, ?_⟩
          · omega
          all_goals rfl
    · rw [List.take_of_length_le (by omega), hPi] at q2
      rw [← q2] at hnx
      clear hPi q2
      cases b with
      | true =>
        rw [if_pos rfl] at hnx
        repeat' (first | (refine go ⟨?_⟩) | (fail) | ((first | (refine bsp ?_ ?_) | (refine csp ?_ ?_)); all_goals (intro hb; (fail_if_success (cases hb; done)); (try simp only [decide_eq_true_eq, decide_eq_false_iff_not, beq_iff_eq, bne_iff_ne, ne_eq, beq_eq_false_iff_ne, bne_eq_false_iff_eq, Bool.not_eq_true', Bool.not_eq_false', Bool.and_eq_true, Bool.or_eq_true, Decidable.not_not] at hb); (try simp only [go_sem]))))
        refine ⟨_, _, ?_, .refl _, i + 1, ys ++ [(i : Int)], some (3, 1), js, ⟨by omega, rfl, hnx.symm, .inr rfl⟩, rfl, ?_, ?_, ?_, ?_⟩
        · omega
        all_goals first | rfl | (simp; done)
      | false =>
        rw [if_neg (by decide), List.append_nil] at hnx
        repeat' (first | (refine go ⟨?_⟩) | (fail) | ((first | (refine bsp ?_ ?_) | (refine csp ?_ ?_)); all_goals (intro hb; (fail_if_success (cases hb; done)); (try simp only [decide_eq_true_eq, decide_eq_false_iff_not, beq_iff_eq, bne_iff_ne, ne_eq, beq_eq_false_iff_ne, bne_eq_false_iff_eq, Bool.not_eq_true', Bool.not_eq_false', Bool.and_eq_true, Bool.or_eq_true, Decidable.not_not] at hb); (try simp only [go_sem]))))
        refine ⟨_, _, ?_, .refl _, i + 1, ys, es, js, ⟨by omega, rfl, hnx.symm, h3⟩, rfl, rfl, ?_, ?_, ?_⟩
        · omega
        all_goals rfl
  · obtain rfl : i = 64 := by omega
    repeat' (first | (refine go ⟨?_⟩) | (fail) | ((first | (refine bsp ?_ ?_) | (refine csp ?_ ?_)); all_goals (intro hb; (fail_if_success (cases hb; done)); (try simp only [decide_eq_true_eq, decide_eq_false_iff_not, beq_iff_eq, bne_iff_ne, ne_eq, beq_eq_false_iff_ne, bne_eq_false_iff_eq, Bool.not_eq_true', Bool.not_eq_false', Bool.and_eq_true, Bool.or_eq_true, Decidable.not_not] at hb); (try simp only [go_sem]))))
    refine ⟨by first | exact .inr rfl | exact .inl rfl, .inl ⟨[], _, (by dsimp only [Tryd.f18]; exact sv), ?_, by simp⟩⟩
    rw [h2]
end Go.Proofs.YtomameefmobnlaaDoor
namespace Go.Proofs.YtomameefmobnlaaDoor
open Go Go.RowKit

attribute [local irreducible] EvOps EvC
attribute [local go_sem] List.getElem?_toArray getS List.flatten_cons List.flatten_nil List.contains_nil List.append_nil
set_option linter.unusedSimpArgs false
set_option linter.unusedVariables false
set_option maxRecDepth 100000
set_option maxHeartbeats 4000000
theorem big_smal {x : Int} (h : -100000 ≤ x ∧ x ≤ 100000) : Big x := ⟨by omega, by omega⟩
theorem wrap_big (x : Int) : Big (IntKind.wrap .i64 x) := by
  rw [IntKind.wrap_i64]
  exact ⟨by omega, by omega⟩
theorem lives_ev (sto : Sto) (lo : Nat) (hlo : lo ≤ sto.length) : CallEv Tryd.prog tab sortB 15 [] sto lo (.v (.bool true)) sto := livesV_ev valid_ev sto lo hlo
theorem varsK_len (l : List Int) (kind : Int) : (visK (termS l kind) []).length ≤ 64 ∧ varsK (termS l kind) = refVars (termS l kind) ∧ ∀ n ∈ visK (termS l kind) [], Big n := by
  have hok := term_vars l kind
  have he := vars_eq (fun p hp => ⟨(hok p hp).1, by have := (hok p hp).2.1; omega⟩)
  have h1 := keysS_length (mkK (visK (termS l kind) []))
  rw [he] at h1
  have h2 : (refVars (termS l kind)).length ≤ 64 := by
    unfold refVars
    exact upTo_len _ _
  simp only [mkK, List.length_map] at h1
  refine ⟨by omega, he, fun k hk => ?_⟩
  have h3 : k ∈ keysS (mkK (visK (termS l kind) [])) := by
    rw [keys_mk]; exact List.mem_mergeSort.2 hk
  have := varsS_range hok k h3
  exact ⟨by omega, by omega⟩
theorem termEvals_ev (l : List Int) (kind : Int) (vals : List Int) (n : Int) (hl : NumL l) (hk : Big kind) (hv : NumL vals) (hn : Big n) (sto : Sto) (lo : Nat) (hlo : lo ≤ sto.length) : CallEv Tryd.prog tab sortB 4 [.v (LI l), .v (VI kind), .v (LI vals), .v (VI n)] sto lo (.v (.bool true)) sto := by
  have hlv := fun sto lo hlo => lives_ev sto lo hlo
  have ht := fun sto lo hlo => (term_ev l kind hl hk sto lo hlo).up0 (B := sortB)
  have hv1 := fun sto lo hlo => (values_ev n hn sto lo hlo).up0 (B := sortB)
  have hv2 := fun sto lo hlo => (values_ev (IntKind.wrap .i64 (n * 7)) (wrap_big _) sto lo hlo).up0 (B := sortB)
  obtain ⟨hw, hsz⟩ := term_ok l kind
  obtain ⟨g1, g2, g3⟩ := varsK_len l kind
  have hvr := fun sto lo hlo => vars_ev (termS l kind) (by omega) g3 (by omega) sto lo hlo
  rw [g2] at hvr
  have hrv := fun sto lo hlo => (rVars_ev (termS l kind) (by omega) sto lo hlo).up0 (B := sortB)
  have hrl : (refVars (termS l kind)).length ≤ 64 := by
    unfold refVars
    exact upTo_len _ _
  have hsi := fun sto lo hlo => (sameInts_ev (refVars (termS l kind)) (refVars (termS l kind)) (by omega) (by omega) sto lo hlo).up0 (B := sortB)
  rw [decide_eq_true rfl] at hsi
  have hty := fun sto lo hlo => (type_ev (tsz (termS l kind)) (termS l kind) sto lo (Nat.le_refl _) (by omega) hlo).up0 (B := sortB)
  rw [hw.type] at hty
  have hls : ∀ x ∈ [vals, valuesS n, [], valuesS (IntKind.wrap .i64 (n * 7))], x.length < 9223372036854775808 ∧ ∀ y ∈ x, Big y := by
    intro x hx
    simp only [List.mem_cons, List.not_mem_nil, or_false] at hx
    rcases hx with rfl | rfl | rfl | rfl
    · exact ⟨hv.len, hv.big⟩
    · exact ⟨by rw [valuesS_length]; decide, fun y hy => big_smal (by have := valuesS_bound _ y hy; omega)⟩
    · exact ⟨by decide, fun y hy => by cases hy⟩
    · exact ⟨by rw [valuesS_length]; decide, fun y hy => big_smal (by have := valuesS_bound _ y hy; omega)⟩
  have hvsz : [vals, valuesS n, [], valuesS (IntKind.wrap .i64 (n * 7))].length = 4 := rfl
  generalize hkd : aroundS kind 2 = kd at *
  have hev : ∀ x, (x.length < 9223372036854775808 ∧ ∀ y ∈ x, Big y) → (∀ sto lo, lo ≤ sto.length → CallEv Tryd.prog tab sortB 20 [.v (TV (termS l kind)), .v (LI x)] sto lo (.v (VI (evalS x (termS l kind)))) sto) ∧ (∀ sto lo, lo ≤ sto.length → CallEv Tryd.prog tab sortB 21 [.v (TV (termS l kind)), .v (LI x)] sto lo (.v (VI (evalS x (termS l kind)))) sto) ∧ (-8 ≤ evalS x (termS l kind) ∧ evalS x (termS l kind) ≤ 7 ∧ (kd = 1 → evalS x (termS l kind) = 0 ∨ evalS x (termS l kind) = 1)) :=
    fun x hx => ⟨fun sto lo hlo => (eval_ev x hx.2 hx.1 hw sto lo hlo).up0, fun sto lo hlo => (rEval_ev x hx.2 hx.1 hw sto lo hlo).up0, eval_range hw x⟩
  clear g1 g2 g3 hw hsz hl hk hv hn hrl hkd
  obtain ⟨ls, hlsd⟩ : ∃ ls, ls = [vals, valuesS n, [], valuesS (IntKind.wrap .i64 (n * 7))] := ⟨_, rfl⟩
  rw [← hlsd] at hls hvsz
  generalize refVars (termS l kind) = rv at *
  generalize termS l kind = t at *
  obtain ⟨k0, n0, m0, l0⟩ := t
  refine CallEv.intro ⟨_, _, [], Tryd.func4, rfl, by decide, ?_⟩; simp only [go_sem, Tryd.ntmps4]
  repeat' (first | (refine go ⟨?_⟩) | (first | ((refine call ?_); (refine ⟨_, ht _ _ (by first | omega | (simp; done) | (simp; omega)), ?_⟩); (try simp only [go_sem])) | ((refine call ?_); (refine ⟨_, hv1 _ _ (by first | omega | (simp; done) | (simp; omega)), ?_⟩); (try simp only [go_sem])) | ((refine call ?_); (refine ⟨_, hv2 _ _ (by first | omega | (simp; done) | (simp; omega)), ?_⟩); (try simp only [go_sem])) | ((refine call ?_); (refine ⟨_, hvr _ _ (by first | omega | (simp; done) | (simp; omega)), ?_⟩); (try simp only [go_sem])) | ((refine call ?_); (refine ⟨_, hrv _ _ (by first | omega | (simp; done) | (simp; omega)), ?_⟩); (try simp only [go_sem])) | ((refine call ?_); (refine ⟨_, hsi _ _ (by first | omega | (simp; done) | (simp; omega)), ?_⟩); (try simp only [go_sem]))) | ((first | (refine bsp ?_ ?_) | (refine csp ?_ ?_)); all_goals (intro hb; (fail_if_success (cases hb; done)); (try simp only [decide_eq_true_eq, decide_eq_false_iff_not, beq_iff_eq, bne_iff_ne, ne_eq, beq_eq_false_iff_ne, bne_eq_false_iff_eq, Bool.not_eq_true', Bool.not_eq_false', Bool.and_eq_true, Bool.or_eq_true, Decidable.not_not] at hb); (try simp only [go_sem]))))
  refine c_loop (fun mm s => ∃ (i : Nat) (js : List Ent), (i ≤ 4 ∧ mm = 4 - i) ∧ (s.env.length = 67 ∧ s.sto = sto ++ .cells [.v (VI k0), .v (VI n0), .v (VI m0), .v (.sl l0.length (cellsTs l0))] :: js ∧ s.env[9]? = some (.ptr sto.length 0) ∧ s.env[10]? = some (.v (LLI ls)) ∧ s.env[11]? = some (.v (VI i)))) (.refl _) ⟨0, [], ⟨by omega, rfl⟩, rfl, rfl, ?_, ?_, ?_⟩ ?_
  all_goals first | rfl | (subst hlsd; rfl) | skip
  clear hlsd ht hv1 hv2 hvr hrv hsi
  rintro mm s ⟨i, js, ⟨h1, rfl⟩, hL, hT, k9, k10, k11⟩
  obtain ⟨env, st0⟩ := s; obtain ⟨J, hJ⟩ := listJ hL; rw [show (List.range 67).map J = J 0 :: J 1 :: J 2 :: J 3 :: J 4 :: J 5 :: J 6 :: J 7 :: J 8 :: J 9 :: J 10 :: J 11 :: J 12 :: J 13 :: J 14 :: J 15 :: J 16 :: J 17 :: J 18 :: J 19 :: J 20 :: J 21 :: J 22 :: J 23 :: J 24 :: J 25 :: J 26 :: J 27 :: J 28 :: J 29 :: J 30 :: J 31 :: J 32 :: J 33 :: J 34 :: J 35 :: J 36 :: J 37 :: J 38 :: J 39 :: J 40 :: J 41 :: J 42 :: J 43 :: J 44 :: J 45 :: J 46 :: J 47 :: J 48 :: J 49 :: J 50 :: J 51 :: J 52 :: J 53 :: J 54 :: J 55 :: J 56 :: J 57 :: J 58 :: J 59 :: J 60 :: J 61 :: J 62 :: J 63 :: J 64 :: J 65 :: J 66 :: [] from by kernel_rfl] at hJ; replace k9 := Option.some.inj ((congrArg (·[9]?) hJ).symm.trans k9); replace k10 := Option.some.inj ((congrArg (·[10]?) hJ).symm.trans k10); replace k11 := Option.some.inj ((congrArg (·[11]?) hJ).symm.trans k11); rw [k9, k10, k11] at hJ; dsimp only at hJ hT; subst hJ; replace hT := hT.symm; subst hT; clear hL k9 k10 k11
  by_cases hi : i < 4
  · obtain ⟨q1, q2, q3, q4, q5⟩ := hev ls[i] (hls _ (List.getElem_mem _))
    clear hev hls hlv
    generalize hvv : evalS ls[i] (.mk k0 n0 m0 l0) = v at *
    have hwr := fun sto lo hlo => (wWrap_ev v (big_smal (by omega)) sto lo hlo).up0 (B := sortB)
    rw [wrapS_id q3 q4] at hwr
    by_cases hkd : kd = 1
    · have q6 := q5 hkd
      clear q5
      subst hkd
      rcases q6 with q6 | q6
      all_goals
        rw [q6] at q1 q2 hwr
        repeat' (first | (refine go ⟨?_⟩) | (first | ((refine call ?_); (refine ⟨_, q1 _ _ (by first | omega | (simp; done) | (simp; omega)), ?_⟩); (try simp only [go_sem])) | ((refine call ?_); (refine ⟨_, q2 _ _ (by first | omega | (simp; done) | (simp; omega)), ?_⟩); (try simp only [go_sem])) | ((refine call ?_); (refine ⟨_, hwr _ _ (by first | omega | (simp; done) | (simp; omega)), ?_⟩); (try simp only [go_sem])) | ((refine call ?_); (refine ⟨_, hty _ _ (by first | omega | (simp; done) | (simp; omega)), ?_⟩); (try simp only [go_sem]))) | ((first | (refine bsp ?_ ?_) | (refine csp ?_ ?_)); all_goals (intro hb; (fail_if_success (cases hb; done)); (try simp only [decide_eq_true_eq, decide_eq_false_iff_not, beq_iff_eq, bne_iff_ne, ne_eq, beq_eq_false_iff_ne, bne_eq_false_iff_eq, Bool.not_eq_true', Bool.not_eq_false', Bool.and_eq_true, Bool.or_eq_true, Decidable.not_not] at hb); (try simp only [go_sem]))))
        refine ⟨_, _, ?_, .refl _, i + 1, _, ⟨by omega, rfl⟩, rfl, rfl, ?_, ?_, ?_⟩
        · omega
        all_goals rfl
    · clear q5
      repeat' (first | (refine go ⟨?_⟩) | (first | ((refine call ?_); (refine ⟨_, q1 _ _ (by first | omega | (simp; done) | (simp; omega)), ?_⟩); (try simp only [go_sem])) | ((refine call ?_); (refine ⟨_, q2 _ _ (by first | omega | (simp; done) | (simp; omega)), ?_⟩); (try simp only [go_sem])) | ((refine call ?_); (refine ⟨_, hwr _ _ (by first | omega | (simp; done) | (simp; omega)), ?_⟩); (try simp only [go_sem])) | ((refine call ?_); (refine ⟨_, hty _ _ (by first | omega | (simp; done) | (simp; omega)), ?_⟩); (try simp only [go_sem]))) | ((first | (refine bsp ?_ ?_) | (refine csp ?_ ?_)); all_goals (intro hb; (fail_if_success (cases hb; done)); (try simp only [decide_eq_true_eq, decide_eq_false_iff_not, beq_iff_eq, bne_iff_ne, ne_eq, beq_eq_false_iff_ne, bne_eq_false_iff_eq, Bool.not_eq_true', Bool.not_eq_false', Bool.and_eq_true, Bool.or_eq_true, Decidable.not_not] at hb); (try simp only [go_sem]))))
      refine ⟨_, _, ?_, .refl _, i + 1, _, ⟨by omega, rfl⟩, rfl, rfl, ?_, ?_, ?_⟩
      · omega
      all_goals rfl
  · repeat' (first | (refine go ⟨?_⟩) | (((refine call ?_); (refine ⟨_, hlv _ _ (by first | omega | (simp; done) | (simp; omega)), ?_⟩); (try simp only [go_sem]))) | ((first | (refine bsp ?_ ?_) | (refine csp ?_ ?_)); all_goals (intro hb; (fail_if_success (cases hb; done)); (try simp only [decide_eq_true_eq, decide_eq_false_iff_not, beq_iff_eq, bne_iff_ne, ne_eq, beq_eq_false_iff_ne, bne_eq_false_iff_eq, Bool.not_eq_true', Bool.not_eq_false', Bool.and_eq_true, Bool.or_eq_true, Decidable.not_not] at hb); (try simp only [go_sem]))))
    refine ⟨by first | exact .inr rfl | exact .inl rfl, .inl ⟨[], _, (by dsimp only [Tryd.f4]; exact sv), ?_, by simp⟩⟩
    rfl
end Go.Proofs.YtomameefmobnlaaDoor
namespace Go.Proofs.YtomameefmobnlaaDoor
open Go
theorem shapedL_iff : ∀ (l : List Tr) (ws : List Int), shapedL l ws = true ↔ l.length = ws.length ∧ ∀ (i : Nat) (t : Tr) (w : Int), l[i]? = some t → ws[i]? = some w → shapedS t = true ∧ typeR t = w
  | [], [] => by simp [shapedL]
  | [], w :: ws => by simp [shapedL]
  | t :: l, [] => by simp [shapedL]
  | t :: l, w :: ws => by
    rw [shapedL, Bool.and_eq_true, Bool.and_eq_true, decide_eq_true_eq, shapedL_iff l ws]
    constructor
    · rintro ⟨⟨h1, h2⟩, h3, h4⟩
      refine ⟨by simp [h3], fun i t' w' q1 q2 => ?_⟩
      cases i with
      | zero => simp at q1 q2; subst q1 q2; exact ⟨h1, h2⟩
      | succ i => exact h4 i t' w' (by simpa using q1) (by simpa using q2)
    · rintro ⟨h1, h2⟩
      exact ⟨h2 0 t w rfl rfl, by simpa using h1, fun i t' w' q1 q2 => h2 (i + 1) t' w' (by simpa using q1) (by simpa using q2)⟩
theorem shapedL_len {l : List Tr} {ws : List Int} (h : ¬ l.length = ws.length) : shapedL l ws = false := by
  rw [← Bool.not_eq_true, shapedL_iff]
  exact fun hh => h hh.1
theorem shapedL_bad {l : List Tr} {ws : List Int} {i : Nat} (h1 : i < l.length) (h2 : i < ws.length) (h : ¬ (shapedS l[i] = true ∧ typeR l[i] = ws[i])) : shapedL l ws = false := by
  rw [← Bool.not_eq_true, shapedL_iff]
  exact fun hh => h (hh.2 i _ _ (List.getElem?_eq_getElem h1) (List.getElem?_eq_getElem h2))
theorem shapedL_all {l : List Tr} {ws : List Int} (h : l.length = ws.length) (ha : ∀ (j : Nat) (h1 : j < l.length) (h2 : j < ws.length), shapedS l[j] = true ∧ typeR l[j] = ws[j]) : shapedL l ws = true := by
  refine (shapedL_iff l ws).2 ⟨h, fun i t w q1 q2 => ?_⟩
  have h1 := (List.getElem?_eq_some_iff.1 q1).1
  have h2 := (List.getElem?_eq_some_iff.1 q2).1
  have := ha i h1 h2
  rw [List.getElem?_eq_getElem h1] at q1
  rw [List.getElem?_eq_getElem h2] at q2
  cases q1; cases q2
  exact this
/-- The node's own part, and what it wants of its kids. -/
def fineS (k n m : Int) (kids : List Tr) : Bool :=
  if k = 4 then decide (m = 0 ∧ -8 ≤ n ∧ n ≤ 7) else if k = 5 then decide (m = 0 ∧ 0 ≤ n ∧ n ≤ 1) else if k = 6 then decide (0 ≤ n ∧ n ≤ 63 ∧ 0 ≤ m ∧ m ≤ 1)
  else if k = 9 then decide (m = 0 ∧ 0 ≤ n ∧ n < 14) else if k = 10 then decide (m = 0 ∧ n = 0) else if k = 29 then decide (m = 0 ∧ n = 0 ∧ kids.length = 3) else false
def wantS (k n : Int) (kids : List Tr) : List Int :=
  if k = 9 then (if n = 12 ∨ n = 13 then [1, 1] else [0, 0]) else if k = 10 then [1]
  else if k = 29 then [1, typeR (kids.getD 1 (.mk 0 0 0 [])), typeR (kids.getD 1 (.mk 0 0 0 []))] else []
theorem shapedS_eq (k n m : Int) (kids : List Tr) : shapedS (.mk k n m kids) = (fineS k n m kids && shapedL kids (wantS k n kids)) := by
  rw [shapedS]
  unfold fineS wantS
  by_cases c1 : k = 4
  · subst c1; rfl
  by_cases c2 : k = 5
  · subst c2; rfl
  by_cases c3 : k = 6
  · subst c3; rfl
  by_cases c4 : k = 9
  · subst c4; rfl
  by_cases c5 : k = 10
  · subst c5; rfl
  by_cases c6 : k = 29
  · subst c6; rfl
  · simp only [c1, c2, c3, c4, c5, c6, if_false, Bool.false_and]
end Go.Proofs.YtomameefmobnlaaDoor
namespace Go.Proofs.YtomameefmobnlaaDoor
open Go
/-- The table of 64 numbers: 0, or one more than the type. -/
def tabT (mp : List (Int × Int)) : List Int := (List.range 64).map fun (i : Nat) => match aget mp (i : Int) with
  | some m => 1 + m
  | none => 0
theorem tabT_len (mp : List (Int × Int)) : (tabT mp).length = 64 := by simp [tabT]
theorem tabT_get (mp : List (Int × Int)) {i : Nat} (h : i < 64) : (tabT mp)[i]? = some (match aget mp (i : Int) with
  | some m => 1 + m
  | none => 0) := by
  unfold tabT
  rw [List.getElem?_map, List.getElem?_range h]; rfl
theorem tabT_set (mp : List (Int × Int)) {i : Nat} (h : i < 64) (m : Int) : (tabT mp).set i (1 + m) = tabT (aput mp i m) := by
  apply List.ext_getElem?
  intro j
  rcases Nat.lt_or_ge j 64 with hj | hj
  · rw [tabT_get _ hj, aget_put]
    rcases Nat.decEq i j with e | e
    · rw [List.getElem?_set_ne e, tabT_get _ hj, if_neg (by omega)]
    · subst e
      rw [List.getElem?_set_self (by rw [tabT_len]; exact h), if_pos rfl]
  · rw [List.getElem?_eq_none (by rw [List.length_set, tabT_len]; exact hj), List.getElem?_eq_none (by rw [tabT_len]; exact hj)]
/-- All types are 0 or 1. -/
def TyOK (mp : List (Int × Int)) : Prop := ∀ j m, aget mp j = some m → m = 0 ∨ m = 1
theorem TyOK.put {mp : List (Int × Int)} (h : TyOK mp) {n m : Int} (hm : m = 0 ∨ m = 1) : TyOK (aput mp n m) := by
  intro j m' h2
  rw [aget_put] at h2
  split at h2
  · cases h2; exact hm
  · exact h j m' h2
theorem clash_iff {mp : List (Int × Int)} (h : TyOK mp) {i : Nat} (hi : i < 64) {m x : Int} (hm : m = 0 ∨ m = 1) (hx : (tabT mp)[i]? = some x) : x = 2 - m ↔ (aget mp (i : Int)).any (· ≠ m) = true := by
  rw [tabT_get _ hi] at hx
  cases hg : aget mp (i : Int) with
  | none =>
    rw [hg] at hx
    simp only [Option.some.injEq] at hx
    simp only [Option.any_none, Bool.false_eq_true, iff_false]
    omega
  | some m' =>
    rw [hg] at hx
    have := h _ _ hg
    simp only [Option.some.injEq] at hx
    simp only [Option.any_some, decide_eq_true_eq]
    omega
theorem addAll_snoc {a : List (Int × Int)} {p : Int × Int} {mp mp1 : List (Int × Int)} (h : addAll a mp = some mp1) : addAll (a ++ [p]) mp = if (aget mp1 p.1).any (· ≠ p.2) then none else some (aput mp1 p.1 p.2) := by
  rw [addAll_append, h]
  obtain ⟨n, m⟩ := p
  simp only [Option.bind_some, addAll]
theorem addAll_stop {a b : List (Int × Int)} {mp : List (Int × Int)} (h : addAll a mp = none) : addAll (a ++ b) mp = none := by
  rw [addAll_append, h]; rfl
end Go.Proofs.YtomameefmobnlaaDoor
namespace Go.Proofs.YtomameefmobnlaaDoor
open Go Go.RowKit

attribute [local irreducible] EvOps EvC
theorem cellsTs_m {l : List Tr} {i : Nat} (h : i < l.length) : (cellsTs l)[i * 4 + 2]? = some (VI l[i].m) := by
  have h1 := cellsTs_at h
  have h2 := congrArg (fun x => x[2]?) h1
  simp only [List.getElem?_take_of_lt (show 2 < 4 from by decide), List.getElem?_drop] at h2
  rw [h2]
  cases l[i] with
  | mk a b c d => rfl
theorem cellsTs_n' {l : List Tr} {i : Nat} (h : i < l.length) : (cellsTs l)[i * 4 + 1]? = some (VI l[i].n) := cellsTs_n h
attribute [local go_sem] List.getElem?_toArray getS List.flatten_cons List.flatten_nil List.contains_nil List.append_nil List.contains_cons beq_self_eq_true Bool.true_or cellsTs_n' cellsTs_m mapSet
theorem figo {p q : Prop} (k : Later q) (h : Later q → p := by (intro k; (first | with_reducible (first | refine c_seq ?_ | refine c_block ?_ | refine c_region ?_ | refine c_skip ?_ | refine c_exit ?_ | refine c_ret ?_ | refine then_normal ?_ | refine then_exit ?_ | refine then_ret ?_ | refine block_normal ?_ | refine block_here ?_ | refine block_ret ?_ | refine block_far (by decide) ?_ | refine ops_nil ?_ | refine c_cond_t rfl ?_ | refine c_cond_f rfl ?_) | ((with_reducible apply ops_pure); rfl; (simp (disch := (first | omega | assumption | ((repeat' with_reducible apply And.intro) <;> first | omega | assumption | rfl | (apply Or.inl; rfl) | (apply Or.inr; first | rfl | trivial | fail) | fail) | fail)) only [go_sem, if_pos, if_neg, wrapI, wrapU, decide_eq_true, decide_eq_false, beqT, beqF, bneT, bneF, hnn, hmm, hx] <;> rfl); simp only [go_sem]) | ((with_reducible apply ops_pureF); rfl; (intro _; simp (disch := (first | omega | assumption | ((repeat' with_reducible apply And.intro) <;> first | omega | assumption | rfl | (apply Or.inl; rfl) | (apply Or.inr; first | rfl | trivial | fail) | fail) | fail)) only [go_sem, if_pos, if_neg, wrapI, wrapU, decide_eq_true, decide_eq_false, beqT, beqF, bneT, bneF, hnn, hmm, hx] <;> rfl); simp only [go_sem]) | ((with_reducible apply ops_pureD); kernel_rfl; rfl; (simp (disch := (first | omega | assumption | ((repeat' with_reducible apply And.intro) <;> first | omega | assumption | rfl | (apply Or.inl; rfl) | (apply Or.inr; first | rfl | trivial | fail) | fail) | fail)) only [go_sem, if_pos, if_neg, wrapI, wrapU, decide_eq_true, decide_eq_false, beqT, beqF, bneT, bneF, hnn, hmm, hx] <;> rfl); simp only [go_sem]) | ((with_reducible apply ops_skip); rfl; simp only [go_sem]) | ((with_reducible apply c_regionD); kernel_rfl) | ((with_reducible apply ops_eff); decide; rfl; (simp (disch := (first | omega | assumption | ((repeat' with_reducible apply And.intro) <;> first | omega | assumption | rfl | (apply Or.inl; rfl) | (apply Or.inr; first | rfl | trivial | fail) | fail) | fail)) only [go_sem, if_pos, if_neg, wrapI, wrapU, decide_eq_true, decide_eq_false, beqT, beqF, bneT, bneF, hnn, hmm, hx] <;> rfl); simp only [go_sem])); (repeat (first | with_reducible (first | refine c_seq ?_ | refine c_block ?_ | refine c_region ?_ | refine c_skip ?_ | refine c_exit ?_ | refine c_ret ?_ | refine then_normal ?_ | refine then_exit ?_ | refine then_ret ?_ | refine block_normal ?_ | refine block_here ?_ | refine block_ret ?_ | refine block_far (by decide) ?_ | refine ops_nil ?_ | refine c_cond_t rfl ?_ | refine c_cond_f rfl ?_) | ((with_reducible apply ops_pure); rfl; (simp (disch := (first | omega | assumption | ((repeat' with_reducible apply And.intro) <;> first | omega | assumption | rfl | (apply Or.inl; rfl) | (apply Or.inr; first | rfl | trivial | fail) | fail) | fail)) only [go_sem, if_pos, if_neg, wrapI, wrapU, decide_eq_true, decide_eq_false, beqT, beqF, bneT, bneF, hnn, hmm, hx] <;> rfl); simp only [go_sem]) | ((with_reducible apply ops_pureF); rfl; (intro _; simp (disch := (first | omega | assumption | ((repeat' with_reducible apply And.intro) <;> first | omega | assumption | rfl | (apply Or.inl; rfl) | (apply Or.inr; first | rfl | trivial | fail) | fail) | fail)) only [go_sem, if_pos, if_neg, wrapI, wrapU, decide_eq_true, decide_eq_false, beqT, beqF, bneT, bneF, hnn, hmm, hx] <;> rfl); simp only [go_sem]) | ((with_reducible apply ops_pureD); kernel_rfl; rfl; (simp (disch := (first | omega | assumption | ((repeat' with_reducible apply And.intro) <;> first | omega | assumption | rfl | (apply Or.inl; rfl) | (apply Or.inr; first | rfl | trivial | fail) | fail) | fail)) only [go_sem, if_pos, if_neg, wrapI, wrapU, decide_eq_true, decide_eq_false, beqT, beqF, bneT, bneF, hnn, hmm, hx] <;> rfl); simp only [go_sem]) | ((with_reducible apply ops_skip); rfl; simp only [go_sem]) | ((with_reducible apply c_regionD); kernel_rfl) | ((with_reducible apply ops_eff); decide; rfl; (simp (disch := (first | omega | assumption | ((repeat' with_reducible apply And.intro) <;> first | omega | assumption | rfl | (apply Or.inl; rfl) | (apply Or.inr; first | rfl | trivial | fail) | fail) | fail)) only [go_sem, if_pos, if_neg, wrapI, wrapU, decide_eq_true, decide_eq_false, beqT, beqF, bneT, bneF, hnn, hmm, hx] <;> rfl); simp only [go_sem]))); exact k.get)) : p := h k
theorem figoX {p q : Prop} (k : Later q) (h : Later q → p := by (intro k; (first | with_reducible (first | refine c_seq ?_ | refine c_block ?_ | refine c_skip ?_ | refine c_exit ?_ | refine c_ret ?_ | refine then_normal ?_ | refine then_exit ?_ | refine then_ret ?_ | refine block_normal ?_ | refine block_here ?_ | refine block_ret ?_ | refine block_far (by decide) ?_ | refine ops_nil ?_ | refine c_cond_t rfl ?_ | refine c_cond_f rfl ?_) | ((with_reducible apply ops_pure); rfl; (simp (disch := (first | omega | assumption | ((repeat' with_reducible apply And.intro) <;> first | omega | assumption | rfl | (apply Or.inl; rfl) | (apply Or.inr; first | rfl | trivial | fail) | fail) | fail)) only [go_sem, if_pos, if_neg, wrapI, wrapU, decide_eq_true, decide_eq_false, beqT, beqF, bneT, bneF, hnn, hmm, hx] <;> rfl); simp only [go_sem]) | ((with_reducible apply ops_pureF); rfl; (intro _; simp (disch := (first | omega | assumption | ((repeat' with_reducible apply And.intro) <;> first | omega | assumption | rfl | (apply Or.inl; rfl) | (apply Or.inr; first | rfl | trivial | fail) | fail) | fail)) only [go_sem, if_pos, if_neg, wrapI, wrapU, decide_eq_true, decide_eq_false, beqT, beqF, bneT, bneF, hnn, hmm, hx] <;> rfl); simp only [go_sem]) | ((with_reducible apply ops_pureD); kernel_rfl; rfl; (simp (disch := (first | omega | assumption | ((repeat' with_reducible apply And.intro) <;> first | omega | assumption | rfl | (apply Or.inl; rfl) | (apply Or.inr; first | rfl | trivial | fail) | fail) | fail)) only [go_sem, if_pos, if_neg, wrapI, wrapU, decide_eq_true, decide_eq_false, beqT, beqF, bneT, bneF, hnn, hmm, hx] <;> rfl); simp only [go_sem]) | ((with_reducible apply ops_skip); rfl; simp only [go_sem]) | ((with_reducible apply c_regionD); kernel_rfl) | ((with_reducible apply ops_eff); decide; rfl; (simp (disch := (first | omega | assumption | ((repeat' with_reducible apply And.intro) <;> first | omega | assumption | rfl | (apply Or.inl; rfl) | (apply Or.inr; first | rfl | trivial | fail) | fail) | fail)) only [go_sem, if_pos, if_neg, wrapI, wrapU, decide_eq_true, decide_eq_false, beqT, beqF, bneT, bneF, hnn, hmm, hx] <;> rfl); simp only [go_sem])); (repeat (first | with_reducible (first | refine c_seq ?_ | refine c_block ?_ | refine c_skip ?_ | refine c_exit ?_ | refine c_ret ?_ | refine then_normal ?_ | refine then_exit ?_ | refine then_ret ?_ | refine block_normal ?_ | refine block_here ?_ | refine block_ret ?_ | refine block_far (by decide) ?_ | refine ops_nil ?_ | refine c_cond_t rfl ?_ | refine c_cond_f rfl ?_) | ((with_reducible apply ops_pure); rfl; (simp (disch := (first | omega | assumption | ((repeat' with_reducible apply And.intro) <;> first | omega | assumption | rfl | (apply Or.inl; rfl) | (apply Or.inr; first | rfl | trivial | fail) | fail) | fail)) only [go_sem, if_pos, if_neg, wrapI, wrapU, decide_eq_true, decide_eq_false, beqT, beqF, bneT, bneF, hnn, hmm, hx] <;> rfl); simp only [go_sem]) | ((with_reducible apply ops_pureF); rfl; (intro _; simp (disch := (first | omega | assumption | ((repeat' with_reducible apply And.intro) <;> first | omega | assumption | rfl | (apply Or.inl; rfl) | (apply Or.inr; first | rfl | trivial | fail) | fail) | fail)) only [go_sem, if_pos, if_neg, wrapI, wrapU, decide_eq_true, decide_eq_false, beqT, beqF, bneT, bneF, hnn, hmm, hx] <;> rfl); simp only [go_sem]) | ((with_reducible apply ops_pureD); kernel_rfl; rfl; (simp (disch := (first | omega | assumption | ((repeat' with_reducible apply And.intro) <;> first | omega | assumption | rfl | (apply Or.inl; rfl) | (apply Or.inr; first | rfl | trivial | fail) | fail) | fail)) only [go_sem, if_pos, if_neg, wrapI, wrapU, decide_eq_true, decide_eq_false, beqT, beqF, bneT, bneF, hnn, hmm, hx] <;> rfl); simp only [go_sem]) | ((with_reducible apply ops_skip); rfl; simp only [go_sem]) | ((with_reducible apply c_regionD); kernel_rfl) | ((with_reducible apply ops_eff); decide; rfl; (simp (disch := (first | omega | assumption | ((repeat' with_reducible apply And.intro) <;> first | omega | assumption | rfl | (apply Or.inl; rfl) | (apply Or.inr; first | rfl | trivial | fail) | fail) | fail)) only [go_sem, if_pos, if_neg, wrapI, wrapU, decide_eq_true, decide_eq_false, beqT, beqF, bneT, bneF, hnn, hmm, hx] <;> rfl); simp only [go_sem]))); exact k.get)) : p := h k
theorem fisv {p : Prop} (h : p := by simp (disch := (first | omega | assumption | ((repeat' with_reducible apply And.intro) <;> first | omega | assumption | rfl | (apply Or.inl; rfl) | (apply Or.inr; first | rfl | trivial | fail) | fail) | fail)) only [go_sem, if_pos, if_neg, wrapI, wrapU, decide_eq_true, decide_eq_false, beqT, beqF, bneT, bneF, hnn, hmm, hx] <;> rfl) : p := h
theorem ficall {T : Tab} {X : CallP} {n0 lo : Nat} {wt : List Tmp} {draw : Bool} {ops : Array Oper} {Q : St → Prop} {rest : List Oper} {o : Oper} {env : List D} {sto : Sto} {f : FuncId} {args : List D} (k : ∃ r, X f args sto (if draw then sto.length else lo) r sto ∧ EvOps T X n0 lo wt draw ops Q rest (St.put ⟨env, sto⟩ o.dst r)) (hg : guardD ops o env = some true := by rfl) (h : evCallee (opd env) sto o = some (f, args) := by simp (disch := (first | omega | assumption | ((repeat' with_reducible apply And.intro) <;> first | omega | assumption | rfl | (apply Or.inl; rfl) | (apply Or.inr; first | rfl | trivial | fail) | fail) | fail)) only [go_sem, if_pos, if_neg, wrapI, wrapU, decide_eq_true, decide_eq_false, beqT, beqF, bneT, bneF, hnn, hmm, hx] <;> rfl) : EvOps T X n0 lo wt draw ops Q (o :: rest) ⟨env, sto⟩ := k.elim fun _ k => ops_call hg h k.1 k.2
set_option linter.unusedSimpArgs false
set_option linter.unusedVariables false
set_option maxRecDepth 100000
set_option maxHeartbeats 8000000
theorem fit_ev (t : Tr) (hs : tsz t < 1000000) (hv : ∀ p ∈ varP t, (0 ≤ p.1 ∧ p.1 ≤ 63) ∧ (p.2 = 0 ∨ p.2 = 1)) (sto : Sto) (lo : Nat) (hlo : lo ≤ sto.length) : CallEv Tryd.prog tab B0 44 [.v (.sl 1 (cellsTs [t]))] sto lo (.v (.bool (fitS t))) sto := by
  have hnd := fun sto lo hlo => nodes_ev (tsz t) t sto lo (Nat.le_refl _) hs hlo
  have hnl := nodesT_len t
  have hvp := nodesT_varP t
  unfold fitS
  generalize nodesT t = ns at *
  rw [← hvp] at hv
  rw [← hvp]
  have hnl2 : ns.length < 1000000 := by omega
  clear hnl hvp hs
  have hg : ∀ (i : Nat) (h : i < ns.length), (0 ≤ ns[i].n ∧ ns[i].n ≤ 63) ∧ (ns[i].m = 0 ∨ ns[i].m = 1) := fun i h => hv _ (List.mem_map.2 ⟨_, List.getElem_mem h, rfl⟩)
  clear hv
  obtain ⟨k0, n0, m0, l0⟩ := t
  have hnn : True := trivial
  have hmm : True := trivial
  have hx : True := trivial
  refine CallEv.intro ⟨_, _, [8], Tryd.func44, rfl, by decide, ?_⟩; simp only [go_sem, Tryd.ntmps44, cellsTs]
  repeat' (first | (refine figo ⟨?_⟩) | (fail) | ((first | (refine bsp ?_ ?_) | (refine csp ?_ ?_)); all_goals (intro hb; (fail_if_success (cases hb; done)); (try simp only [decide_eq_true_eq, decide_eq_false_iff_not, beq_iff_eq, bne_iff_ne, ne_eq, beq_eq_false_iff_ne, bne_eq_false_iff_eq, Bool.not_eq_true', Bool.not_eq_false', Bool.and_eq_true, Bool.or_eq_true, Decidable.not_not] at hb); (try simp only [go_sem]))))
  refine c_loop (fun mm s => ∃ (i : Nat) (xs : List Int) (js : List Ent), (mm = 1 - i ∧ (i = 0 ∧ xs = tabT [] ∨ i = 1 ∧ (addAll (ns.map fun t => (t.n, t.m)) []).isSome = true)) ∧ (s.env.length = 51 ∧ s.sto = sto ++ .arr (some (3, 1)) true 64 (xs.map VI) :: js ∧ s.env[0]? = some (.v (.sl 1 [VI k0, VI n0, VI m0, .sl l0.length (cellsTs l0)])) ∧ s.env[3]? = some (.arr sto.length 64) ∧ s.env[4]? = some (.v (VI i)))) (.refl _) ⟨0, tabT [], [], ⟨rfl, .inl ⟨rfl, rfl⟩⟩, rfl, rfl, ?_, ?_, ?_⟩ ?_
  all_goals first | rfl | skip
  rintro mm s ⟨i, xs, js, ⟨rfl, hc⟩, hL, hT, k0, k3, k4⟩
  obtain ⟨env, st0⟩ := s; obtain ⟨J, hJ⟩ := listJ hL; rw [show (List.range 51).map J = J 0 :: J 1 :: J 2 :: J 3 :: J 4 :: J 5 :: J 6 :: J 7 :: J 8 :: J 9 :: J 10 :: J 11 :: J 12 :: J 13 :: J 14 :: J 15 :: J 16 :: J 17 :: J 18 :: J 19 :: J 20 :: J 21 :: J 22 :: J 23 :: J 24 :: J 25 :: J 26 :: J 27 :: J 28 :: J 29 :: J 30 :: J 31 :: J 32 :: J 33 :: J 34 :: J 35 :: J 36 :: J 37 :: J 38 :: J 39 :: J 40 :: J 41 :: J 42 :: J 43 :: J 44 :: J 45 :: J 46 :: J 47 :: J 48 :: J 49 :: J 50 :: [] from by kernel_rfl] at hJ; replace k0 := Option.some.inj ((congrArg (·[0]?) hJ).symm.trans k0); replace k3 := Option.some.inj ((congrArg (·[3]?) hJ).symm.trans k3); replace k4 := Option.some.inj ((congrArg (·[4]?) hJ).symm.trans k4); rw [k0, k3, k4] at hJ; dsimp only at hJ hT; subst hJ; replace hT := hT.symm; subst hT; clear hL k0 k3 k4
  rcases hc with ⟨rfl, rfl⟩ | ⟨rfl, hc⟩
  · repeat' (first | (refine figo ⟨?_⟩) | (((refine ficall ?_); (refine ⟨_, hnd _ _ (by first | omega | (simp; done) | (simp; omega)), ?_⟩); (try simp only [go_sem]))) | ((first | (refine bsp ?_ ?_) | (refine csp ?_ ?_)); all_goals (intro hb; (fail_if_success (cases hb; done)); (try simp only [decide_eq_true_eq, decide_eq_false_iff_not, beq_iff_eq, bne_iff_ne, ne_eq, beq_eq_false_iff_ne, bne_eq_false_iff_eq, Bool.not_eq_true', Bool.not_eq_false', Bool.and_eq_true, Bool.or_eq_true, Decidable.not_not] at hb); (try simp only [go_sem]))))
    refine c_loop (fun mm s => ∃ (j : Nat) (mp : List (Int × Int)) (js : List Ent), (j ≤ ns.length ∧ mm = ns.length - j ∧ addAll ((ns.map fun t => (t.n, t.m)).take j) [] = some mp ∧ TyOK mp) ∧ (s.env.length = 51 ∧ s.sto = sto ++ .arr (some (3, 1)) true 64 ((tabT mp).map VI) :: js ∧ s.env[0]? = some (.v (.sl 1 [VI k0, VI n0, VI m0, .sl l0.length (cellsTs l0)])) ∧ s.env[3]? = some (.arr sto.length 64) ∧ s.env[4]? = some (.v (VI 0)) ∧ s.env[5]? = some (.v (.sl ns.length (cellsTs ns))) ∧ s.env[6]? = some (.v (VI j)))) (.refl _) ⟨0, [], js, ⟨by omega, rfl, by simp [addAll], fun j m h => by simp [aget] at h⟩, rfl, rfl, ?_, ?_, ?_, ?_, ?_⟩ ?_
    all_goals first | rfl | skip
    rintro mm s ⟨j, mp, js, ⟨q1, rfl, q2, q3⟩, hL, hT, k0, k3, k4, k5, k6⟩
    obtain ⟨env, st0⟩ := s; obtain ⟨J, hJ⟩ := listJ hL; rw [show (List.range 51).map J = J 0 :: J 1 :: J 2 :: J 3 :: J 4 :: J 5 :: J 6 :: J 7 :: J 8 :: J 9 :: J 10 :: J 11 :: J 12 :: J 13 :: J 14 :: J 15 :: J 16 :: J 17 :: J 18 :: J 19 :: J 20 :: J 21 :: J 22 :: J 23 :: J 24 :: J 25 :: J 26 :: J 27 :: J 28 :: J 29 :: J 30 :: J 31 :: J 32 :: J 33 :: J 34 :: J 35 :: J 36 :: J 37 :: J 38 :: J 39 :: J 40 :: J 41 :: J 42 :: J 43 :: J 44 :: J 45 :: J 46 :: J 47 :: J 48 :: J 49 :: J 50 :: [] from by kernel_rfl] at hJ; replace k0 := Option.some.inj ((congrArg (·[0]?) hJ).symm.trans k0); replace k3 := Option.some.inj ((congrArg (·[3]?) hJ).symm.trans k3); replace k4 := Option.some.inj ((congrArg (·[4]?) hJ).symm.trans k4); replace k5 := Option.some.inj ((congrArg (·[5]?) hJ).symm.trans k5); replace k6 := Option.some.inj ((congrArg (·[6]?) hJ).symm.trans k6); rw [k0, k3, k4, k5, k6] at hJ; dsimp only at hJ hT; subst hJ; replace hT := hT.symm; subst hT; clear hL k0 k3 k4 k5 k6
    by_cases hj : j < ns.length
    · clear hnn hmm hx hnd
      obtain ⟨⟨g1, g2⟩, g3⟩ := hg j hj
      clear hg
      generalize hnn : ns[j].n = nn at *
      generalize hmm : ns[j].m = m at *
      obtain ⟨q, rfl⟩ := Int.eq_ofNat_of_zero_le g1
      have hq : q < 64 := by omega
      have hlen := tabT_len mp
      obtain ⟨x, hx⟩ : ∃ x, (tabT mp)[q]? = some x := ⟨_, List.getElem?_eq_getElem (by omega)⟩
      have hcl := clash_iff q3 hq g3 hx
      have htk : (ns.map fun t => (t.n, t.m)).take (j + 1) = (ns.map fun t => (t.n, t.m)).take j ++ [((q : Int), m)] := by
        rw [List.take_succ_eq_append_getElem (by simpa using hj), List.getElem_map, hnn, hmm]
      have hsn := addAll_snoc (p := ((q : Int), m)) q2
      rw [← htk] at hsn
      have hxb : x = 0 ∨ x = 1 ∨ x = 2 := by
        rw [tabT_get mp hq] at hx
        cases hgg : aget mp (q : Int) with
        | none => rw [hgg] at hx; simp only [Option.some.injEq] at hx; omega
        | some m' => rw [hgg] at hx; have := q3 _ _ hgg; simp only [Option.some.injEq] at hx; omega
      have hset := tabT_set mp hq m
      by_cases c : x = 2 - m
      · have hres : (addAll (ns.map fun t => (t.n, t.m)) []).isSome = false := by
          rw [if_pos (hcl.1 c)] at hsn
          rw [← List.take_append_drop (j + 1) (ns.map fun t => (t.n, t.m)), addAll_stop hsn]; rfl
        rw [hres]
        clear hcl hsn hset htk q2 q3 hres
        repeat' (first | (refine figo ⟨?_⟩) | (fail) | ((first | (refine bsp ?_ ?_) | (refine csp ?_ ?_)); all_goals (intro hb; (fail_if_success (cases hb; done)); (try simp only [decide_eq_true_eq, decide_eq_false_iff_not, beq_iff_eq, bne_iff_ne, ne_eq, beq_eq_false_iff_ne, bne_eq_false_iff_eq, Bool.not_eq_true', Bool.not_eq_false', Bool.and_eq_true, Bool.or_eq_true, Decidable.not_not] at hb); (try simp only [go_sem]))))
        refine ⟨by first | exact .inr rfl | exact .inl rfl, .inl ⟨[], _, (by dsimp only [Tryd.f44]; exact fisv), ?_, by simp⟩⟩
        rfl
      · rw [if_neg (fun h => c (hcl.2 h))] at hsn
        have hty := q3.put (n := (q : Int)) g3
        clear hcl htk q2 q3
        repeat' (first | (refine figo ⟨?_⟩) | (fail) | ((first | (refine bsp ?_ ?_) | (refine csp ?_ ?_)); all_goals (intro hb; (fail_if_success (cases hb; done)); (try simp only [decide_eq_true_eq, decide_eq_false_iff_not, beq_iff_eq, bne_iff_ne, ne_eq, beq_eq_false_iff_ne, bne_eq_false_iff_eq, Bool.not_eq_true', Bool.not_eq_false', Bool.and_eq_true, Bool.or_eq_true, Decidable.not_not] at hb); (try simp only [go_sem]))))
        refine ⟨_, _, ?_, .refl _, j + 1, aput mp q m, js, ⟨by omega, rfl, hsn, hty⟩, rfl, ?_, ?_, ?_, ?_, ?_, ?_⟩
        · omega
        all_goals first | rfl | (rw [← hset])
    · rw [List.take_of_length_le (by simp; omega)] at q2
      have hres : (addAll (ns.map fun t => (t.n, t.m)) []).isSome = true := by rw [q2]; rfl
      clear hg
      repeat' (first | (refine figo ⟨?_⟩) | (fail) | ((first | (refine bsp ?_ ?_) | (refine csp ?_ ?_)); all_goals (intro hb; (fail_if_success (cases hb; done)); (try simp only [decide_eq_true_eq, decide_eq_false_iff_not, beq_iff_eq, bne_iff_ne, ne_eq, beq_eq_false_iff_ne, bne_eq_false_iff_eq, Bool.not_eq_true', Bool.not_eq_false', Bool.and_eq_true, Bool.or_eq_true, Decidable.not_not] at hb); (try simp only [go_sem]))))
      refine ⟨_, _, ?_, .refl _, 1, tabT mp, js, ⟨rfl, .inr ⟨rfl, hres⟩⟩, rfl, rfl, ?_, ?_, ?_⟩
      · omega
      all_goals rfl
  · rw [hc]
    repeat' (first | (refine figo ⟨?_⟩) | (fail) | ((first | (refine bsp ?_ ?_) | (refine csp ?_ ?_)); all_goals (intro hb; (fail_if_success (cases hb; done)); (try simp only [decide_eq_true_eq, decide_eq_false_iff_not, beq_iff_eq, bne_iff_ne, ne_eq, beq_eq_false_iff_ne, bne_eq_false_iff_eq, Bool.not_eq_true', Bool.not_eq_false', Bool.and_eq_true, Bool.or_eq_true, Decidable.not_not] at hb); (try simp only [go_sem]))))
    refine ⟨by first | exact .inr rfl | exact .inl rfl, .inl ⟨[], _, (by dsimp only [Tryd.f44]; exact fisv), ?_, by simp⟩⟩
    rfl
end Go.Proofs.YtomameefmobnlaaDoor
