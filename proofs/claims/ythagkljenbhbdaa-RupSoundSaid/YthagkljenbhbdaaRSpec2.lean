/-
  Cores and trimmed proofs in plain Lean: leaving elements out from the back on, as long as the rest is good. No program in sight.
-/
import Derived.Test.YthagkljenbhbdaaRSpec
namespace Go.Proofs.Ythagkljenbhbdaa
open Go Go.RowKit

def pick (l : List (List Int)) (is : List Int) : List (List Int) := is.map fun i => l.getD i.toNat []
def thinS (good : List (List Int) → Bool) (l : List (List Int)) : Nat → List Int → List Int
  | 0, left => left
  | m + 1, left => if good (pick l (left.eraseIdx m)) then thinS good l m (left.eraseIdx m) else thinS good l m left
def idx (n : Nat) : List Int := (List.range n).map fun (i : Nat) => (i : Int)
def coreS (N : Int) (cs pr : List (List Int)) : List Int := if checkS N cs pr = 0 then thinS (fun r => provesS N.toNat r pr) cs cs.length (idx cs.length) else []
def trimS (N : Int) (cs pr : List (List Int)) : List (List Int) := if checkS N cs pr = 0 then pick pr (thinS (fun r => provesS N.toNat cs r) pr (pr.length - 1) (idx pr.length)) else []

theorem thinS_yes {good : List (List Int) → Bool} {l : List (List Int)} {m : Nat} {left : List Int} (h : good (pick l (left.eraseIdx m)) = true) : thinS good l (m + 1) left = thinS good l m (left.eraseIdx m) := by simp only [thinS]; rw [if_pos h]
theorem thinS_no {good : List (List Int) → Bool} {l : List (List Int)} {m : Nat} {left : List Int} (h : good (pick l (left.eraseIdx m)) = false) : thinS good l (m + 1) left = thinS good l m left := by simp only [thinS]; rw [if_neg (by rw [h]; decide)]
theorem idx_len (n : Nat) : (idx n).length = n := by simp [idx]
theorem idx_mem {n : Nat} {i : Int} (h : i ∈ idx n) : 0 ≤ i ∧ i < n := by
  simp only [idx, List.mem_map, List.mem_range] at h
  obtain ⟨a, h, rfl⟩ := h
  omega
theorem pick_len (l : List (List Int)) (is : List Int) : (pick l is).length = is.length := by simp [pick]
theorem pick_mem {l : List (List Int)} {is : List Int} (h : ∀ i ∈ is, 0 ≤ i ∧ i < l.length) : ∀ c ∈ pick l is, c ∈ l := by
  intro c hc
  simp only [pick, List.mem_map] at hc
  obtain ⟨i, hi, rfl⟩ := hc
  have := h i hi
  rw [List.getD_eq_getElem?_getD, List.getElem?_eq_getElem (by omega)]
  exact List.getElem_mem _
theorem pick_snoc (l : List (List Int)) (is : List Int) (k : Nat) (hk : k < is.length) (t : Nat) (ht : t < l.length) (h : is[k] = t) : pick l (is.take (k + 1)) = pick l (is.take k) ++ [l[t]] := by
  rw [List.take_succ_eq_append_getElem hk]
  simp [pick, h, ht]
theorem all_erase {p : Int → Prop} {left : List Int} (h : ∀ i ∈ left, p i) (m : Nat) : ∀ i ∈ left.eraseIdx m, p i := fun i hi => h i (List.mem_of_mem_eraseIdx hi)
theorem thinS_mem {good : List (List Int) → Bool} {l : List (List Int)} {p : Int → Prop} : ∀ (m : Nat) (left : List Int), (∀ i ∈ left, p i) → ∀ i ∈ thinS good l m left, p i
  | 0, _, h => h
  | m + 1, left, h => by
    simp only [thinS]
    split
    · exact thinS_mem m _ (all_erase h m)
    · exact thinS_mem m _ h
theorem thinS_len {good : List (List Int) → Bool} {l : List (List Int)} : ∀ (m : Nat) (left : List Int), (thinS good l m left).length ≤ left.length
  | 0, _ => Nat.le_refl _
  | m + 1, left => by
    simp only [thinS]
    split
    · refine Nat.le_trans (thinS_len m _) ?_
      rw [List.length_eraseIdx]; split <;> omega
    · exact thinS_len m _
/-- The first j numbers are laid, the others are 0 still. -/
def fillTo (n j : Nat) : List Int := (List.range n).map fun (i : Nat) => if i < j then (i : Int) else 0
theorem fillTo_len (n j : Nat) : (fillTo n j).length = n := by simp [fillTo]
theorem fillTo_zero (n : Nat) : fillTo n 0 = List.replicate n 0 := by
  apply List.ext_getElem <;> simp [fillTo]
theorem fillTo_step (n j : Nat) : (fillTo n j).set j (j : Int) = fillTo n (j + 1) := by
  apply List.ext_getElem
  · simp [fillTo]
  · intro i h1 h2
    rw [List.getElem_set]
    simp only [fillTo, List.getElem_map, List.getElem_range]
    by_cases h : j = i
    · subst h; rw [if_pos rfl, if_pos (by omega)]
    · rw [if_neg h]
      by_cases h3 : i < j
      · rw [if_pos h3, if_pos (by omega)]
      · rw [if_neg h3, if_neg (by omega)]
theorem fillTo_all (n : Nat) : fillTo n n = idx n := by
  apply List.ext_getElem
  · simp [fillTo, idx]
  · intro i h1 h2
    simp only [fillTo, idx, List.getElem_map, List.getElem_range]
    rw [if_pos (by simpa [fillTo] using h1)]
end Go.Proofs.Ythagkljenbhbdaa
