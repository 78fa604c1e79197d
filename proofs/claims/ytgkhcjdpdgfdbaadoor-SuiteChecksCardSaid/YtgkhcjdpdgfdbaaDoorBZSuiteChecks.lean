/-
  SuiteChecks: its walk. No condition of its own. SuiteChecks of layer 37: whatever the input, it returns true. The card ties math/bits' tables to the program's text.
-/
import Derived.Test.YtgkhcjdpdgfdbaaDoorB4
import Derived.Test.YtgkhcjdpdgfdbaaDoorB5
import Derived.Test.YtgkhcjdpdgfdbaaDoorCards
import Derived.Test.YtgkhcjdpdgfdbaaDoorTie
import Derived.Test.YtgkhcjdpdgfdbaaDoorB3
import Derived.SevenTiedAt
namespace Go.Proofs.YtgkhcjdpdgfdbaaDoor
open Go Go.RowKit

attribute [local irreducible] EvOps EvC
attribute [local go_sem] List.getElem?_toArray getS List.flatten_cons List.flatten_nil List.contains_nil
set_option linter.unusedSimpArgs false
set_option linter.unusedVariables false
set_option maxRecDepth 100000
set_option maxHeartbeats 40000000
theorem take20 {raw : List Int} (h : 20 < raw.length) : V.sl 20 ((raw.map VI).take 20) = LI (raw.take 20) := by
  rw [LI, SL, List.map_take, List.length_take, Nat.min_eq_left (by omega)]
theorem take20' {raw : List Int} (h : raw.length ≤ 20) : V.sl raw.length ((raw.map VI).take raw.length) = LI (raw.take 20) := by
  rw [List.take_of_length_le (by simp), List.take_of_length_le h]
theorem take20'' {raw : List Int} (h : raw.length ≤ 20) : V.sl raw.length (raw.map VI) = LI (raw.take 20) := by
  rw [List.take_of_length_le h]
theorem suiteChecks_ev (l m raw : List Int) (at' how by' : Int) (hl : l.length < 9223372036854775808) (hlx : ∀ x ∈ l, Big x) (hm : m.length < 9223372036854775808) (hmx : ∀ x ∈ m, Big x) (hw : raw.length < 9223372036854775808) (hat : Big at') (hh : Big how) (hby : Big by') (sto : Sto) (lo : Nat) (hlo : lo ≤ sto.length) : CallEv Tryd.prog tab collB 4 [.v (LI l), .v (LI m), .v (LI raw), .v (VI at'), .v (VI how), .v (VI by')] sto lo (.v (.bool true)) sto := by
  have hd := drawn l m
  have hcs := fun sto lo hlo => (refCosts_ev m hm hmx sto lo hlo).up0 (B := collB)
  have hrs := fun sto lo hlo => (refRows_ev l (costsS m).length hl hlx (by omega) (by have := hd.many; omega) sto lo hlo).up0 (B := collB)
  generalize costsS m = cost at *
  generalize rowsS l cost.length = rows at *
  obtain ⟨d1, d2, d3, d4, d5⟩ := id hd
  have hp := hd.poss
  have hmk := maskOK hp
  have hrl : ∀ r ∈ rows, r.length < 1000000 := fun r hr => by have := d2 r hr; omega
  have ha1 := fun sto lo hlo => (around_ev by' 128 hby (by omega) (by omega) sto lo hlo).up0 (B := collB)
  have hb1 := aroundS_bound (n := by') (most := 128) (by omega)
  generalize aroundS by' 128 = k1 at *
  obtain ⟨k1, rfl⟩ := Int.eq_ofNat_of_zero_le hb1.1
  have hsb := fun sto lo hlo => (refSubset_ev k1 cost.length (by omega) (by omega) sto lo hlo).up0 (B := collB)
  have htl : (ints (subsetS k1 cost.length)).length ≤ 7 := by have := subsetS_length k1 cost.length; simp only [List.length_map]; omega
  generalize ints (subsetS k1 cost.length) = tests at *
  have hof := fun sto lo hlo => (lawOf_ev rows (by omega) sto lo hlo).up0 (B := collB)
  have hrf := fun sto lo hlo => (refLeast_ev rows cost (by omega) hrl d3 sto lo hlo).up0 (B := collB)
  rw [least_eq hp] at hrf
  have hle := fun sto lo hlo => Least_ev rows cost (by omega) hrl hp (by omega) sto lo hlo
  have hbl : (ints (bitsN (leastN (rows.map maskS) cost))).length ≤ 64 := by simpa using subsetS_length _ 64
  have hbi : In cost.length (ints (bitsN (leastN (rows.map maskS) cost))) := bitsN_in (leastN_lt _ _) (by omega)
  have hpr := fun sto lo hlo => (refPrice_ev (ints (bitsN (leastN (rows.map maskS) cost))) cost d3 hbi (by omega) sto lo hlo).up0 (B := collB)
  have hpb := priceS_bound d3 (ints (bitsN (leastN (rows.map maskS) cost)))
  have hzc := certC_size2 hmk (by simp; omega) d4
  have hok := showR_ok (bound := priceS cost (ints (bitsN (leastN (rows.map maskS) cost)))) d5 d3 hmk (fun b hb h => leastN_le _ _ hb h) (cost.length + 1) [] (Tk.nil cost) (by have := miss_le cost.length (maskS []); omega)
  have hs2 := least_suite hp
  have hsh := fun sto lo hlo => (refShow_ev rows cost (priceS cost (ints (bitsN (leastN (rows.map maskS) cost)))) (by omega) hrl d3 d5 (cost.length + 1) [] sto lo (by have := miss_le cost.length (maskS []); omega) (by simp; omega) (fun t ht => nomatch ht) hlo).up0 (B := collB)
  have hzs := csz_showR d2 cost (priceS cost (ints (bitsN (leastN (rows.map maskS) cost)))) (cost.length + 1) []
  have hz8 := bigR8 (cost.length + 1) (by omega)
  have hck0 : checkN rows cost (ints (bitsN (leastN (rows.map maskS) cost))) (showR rows cost (priceS cost (ints (bitsN (leastN (rows.map maskS) cost)))) (cost.length + 1) []) = 0 := by
    rw [check_eq, checkS, hp, hs2, hok]; rfl
  clear hok hs2
  generalize priceS cost (ints (bitsN (leastN (rows.map maskS) cost))) = sum at *
  generalize ints (bitsN (leastN (rows.map maskS) cost)) = best at *
  generalize certC (rows.map maskS) cost = c0 at *
  generalize showR rows cost sum (cost.length + 1) [] = sh at *
  have hpl := fun sto lo hlo => (plain_ev (csz c0) c0 0 sto lo (Nat.le_refl _) (by omega) (by omega) hlo).up0 (B := collB)
  have hz1 := csz_bent how by' (csz c0) c0 at'
  have hz3 := csz_bent how by' (csz sh) sh at'
  have hbe := fun sto lo hlo => (bent_ev how by' hh hby (csz c0) c0 at' sto lo (Nat.le_refl _) (by omega) hat hlo).up0 (B := collB)
  have hbs := fun sto lo hlo => (bent_ev how by' hh hby (csz sh) sh at' sto lo (Nat.le_refl _) (by omega) hat hlo).up0 (B := collB)
  have hos := fun sto lo hlo => (own_ev (csz sh) sh sto lo (Nat.le_refl _) (by omega) hlo).up0 (B := collB)
  have hck := fun sto lo hlo => (check_ev rows cost best sh (by omega) hrl (by omega) (by omega) (by omega) sto lo hlo).up0 (B := collB)
  rw [hck0] at hck
  generalize bentF how by' (csz c0) c0 at' = b0 at *
  generalize bentF how by' (csz sh) sh at' = b2 at *
  have hcsz : ∀ c ∈ [sh, b2, c0, b0, .mk 0 [] []], csz c < 1000000 := fun c hc => by
    simp only [List.mem_cons, List.not_mem_nil, or_false] at hc
    rcases hc with rfl | rfl | rfl | rfl | rfl
    · omega
    · omega
    · omega
    · omega
    · simp [csz, cszs]
  have hlsz : ∀ x ∈ [best, raw.take 20, tests, []], x.length < 1000000 := fun x hx => by
    simp only [List.mem_cons, List.not_mem_nil, or_false] at hx
    rcases hx with rfl | rfl | rfl | rfl
    · omega
    · simp; omega
    · omega
    · simp
  have hbd := fun sto lo hlo => (bad_ev rows cost how (by omega) (by omega) hh sto lo hlo).up0 (B := collB)
  obtain ⟨b1, b4, b3⟩ := badS_size rows cost how
  have hrl2 : ∀ r ∈ (badS rows cost how).1, r.length < 1000000 := fun r hr => by
    rcases b3 r hr with h | h
    · have := d2 r h; omega
    · omega
  have hofb := fun sto lo hlo => (lawOf_ev (badS rows cost how).1 (by omega) sto lo hlo).up0 (B := collB)
  have hcb := fun sto lo hlo => (check_ev (badS rows cost how).1 (badS rows cost how).2 best sh (by omega) hrl2 (by omega) (by omega) (by omega) sto lo hlo).up0 (B := collB)
  rw [show checkN (badS rows cost how).1 (badS rows cost how).2 best sh = 1 from by rw [checkN, badS_poss]; rfl] at hcb
  generalize (badS rows cost how).1 = rb at *
  generalize (badS rows cost how).2 = cb at *
  have hX := Lib.hid (And.intro hcsz (And.intro hlsz (And.intro hrl (And.intro hof (And.intro hlo (And.intro hbd (And.intro hofb (And.intro hcb (And.intro hos hck)))))))))
  clear hcsz hlsz hrl d2 d5 hp hmk hbi hzc hd hz1 hz3 hzs hz8 hlx hmx hb1 hh hck0 hrl2 b3 hpb d3 hbd hofb hcb hck hos hlo
  have hlo : lo ≤ sto.length := (show _ ∧ _ ∧ _ ∧ _ ∧ _ ∧ _ from hX).2.2.2.2.1
  obtain ⟨r0, p0, q0⟩ := c0
  obtain ⟨r1, p1, q1⟩ := b0
  obtain ⟨r2, p2, q2⟩ := sh
  obtain ⟨r3, p3, q3⟩ := b2
  have key : ∀ (ls : List (List Int)), ls = [best, raw.take 20, tests, []] → V.sl 4 [LI best, V.sl (raw.take 20).length ((raw.take 20).map VI), LI tests, V.sl 0 []] = LLI ls := fun ls h => by rw [h]; rfl
  rcases Nat.lt_or_ge 20 raw.length with hr20 | hr20
  all_goals
    refine CallEv.intro ⟨_, _, [], Tryd.func4, rfl, by decide, ?_⟩; simp only [go_sem, Tryd.ntmps4]
    repeat' (first | (refine go ⟨?_⟩) | (first | ((refine call ?_); (refine ⟨_, hcs _ _ (by first | omega | (simp; done) | (simp; omega)), ?_⟩); (try simp only [go_sem])) | ((refine call ?_); (refine ⟨_, hrs _ _ (by first | omega | (simp; done) | (simp; omega)), ?_⟩); (try simp only [go_sem])) | ((refine call ?_); (refine ⟨_, hof _ _ (by first | omega | (simp; done) | (simp; omega)), ?_⟩); (try simp only [go_sem])) | ((refine call ?_); (refine ⟨_, ha1 _ _ (by first | omega | (simp; done) | (simp; omega)), ?_⟩); (try simp only [go_sem])) | ((refine call ?_); (refine ⟨_, hsb _ _ (by first | omega | (simp; done) | (simp; omega)), ?_⟩); (try simp only [go_sem])) | ((refine call ?_); (refine ⟨_, hrf _ _ (by first | omega | (simp; done) | (simp; omega)), ?_⟩); (try simp only [go_sem])) | ((refine call ?_); (refine ⟨_, hle _ _ (by first | omega | (simp; done) | (simp; omega)), ?_⟩); (try simp only [go_sem])) | ((refine call ?_); (refine ⟨_, hpr _ _ (by first | omega | (simp; done) | (simp; omega)), ?_⟩); (try simp only [go_sem])) | ((refine call ?_); (refine ⟨_, hsh _ _ (by first | omega | (simp; done) | (simp; omega)), ?_⟩); (try simp only [go_sem])) | ((refine call ?_); (refine ⟨_, hpl _ _ (by first | omega | (simp; done) | (simp; omega)), ?_⟩); (try simp only [go_sem])) | ((refine call ?_); (refine ⟨_, hbe _ _ (by first | omega | (simp; done) | (simp; omega)), ?_⟩); (try simp only [go_sem])) | ((refine call ?_); (refine ⟨_, hbs _ _ (by first | omega | (simp; done) | (simp; omega)), ?_⟩); (try simp only [go_sem]))) | ((first | (refine bsp ?_ ?_) | (refine csp ?_ ?_)); all_goals (intro hb; (fail_if_success (cases hb; done)); (try simp only [decide_eq_true_eq, decide_eq_false_iff_not, beq_iff_eq, bne_iff_ne, ne_eq, beq_eq_false_iff_ne, bne_eq_false_iff_eq, Bool.not_eq_true', Bool.not_eq_false', Bool.and_eq_true, Bool.or_eq_true, Decidable.not_not] at hb); (try simp only [go_sem]))))
    refine cut_c (P := fun s => ∃ (ls : List (List Int)) (cs : List Crt) (js : List Ent), (ls = [best, raw.take 20, tests, []] ∧ cs = [.mk r2 p2 q2, .mk r3 p3 q3, .mk r0 p0 q0, .mk r1 p1 q1, .mk 0 [] []]) ∧ (s.env.length = 142 ∧ s.sto = sto ++ .cells [.v (VI r2), .v (LI p2), .v (.sl q2.length (cellsCs q2))] :: js ∧ s.env[4]? = some (.v (VI how)) ∧ s.env[13]? = some (.v (LI cost)) ∧ s.env[14]? = some (.v (LLI rows)) ∧ s.env[15]? = some (.v (LI best)) ∧ s.env[17]? = some (.ptr sto.length 0) ∧ s.env[21]? = some (.v (LLI ls)) ∧ s.env[22]? = some (.v (.sl 5 (cellsCs cs))) ∧ s.env[23]? = some (.v (VI 0)))) ⟨_, _, _, ⟨rfl, rfl⟩, rfl, rfl, ?_, ?_, ?_, ?_, ?_, ?_, ?_, ?_⟩ ?_
    all_goals first | rfl | skip
    · first
        | exact congrArg (fun x => some (D.v (V.sl 4 [LI best, x, LI tests, V.sl 0 []]))) (take20 hr20)
        | exact congrArg (fun x => some (D.v (V.sl 4 [LI best, x, LI tests, V.sl 0 []]))) (take20' hr20)
        | exact congrArg (fun x => some (D.v (V.sl 4 [LI best, x, LI tests, V.sl 0 []]))) (take20'' hr20)
    rintro s ⟨ls, cs, js, ⟨hls, hcs2⟩, hL, hT, k4, k13, k14, k15, k17, k21, k22, k23⟩
    obtain ⟨env, st0⟩ := s; obtain ⟨J, hJ⟩ := listJ hL; rw [show (List.range 142).map J = J 0 :: J 1 :: J 2 :: J 3 :: J 4 :: J 5 :: J 6 :: J 7 :: J 8 :: J 9 :: J 10 :: J 11 :: J 12 :: J 13 :: J 14 :: J 15 :: J 16 :: J 17 :: J 18 :: J 19 :: J 20 :: J 21 :: J 22 :: J 23 :: J 24 :: J 25 :: J 26 :: J 27 :: J 28 :: J 29 :: J 30 :: J 31 :: J 32 :: J 33 :: J 34 :: J 35 :: J 36 :: J 37 :: J 38 :: J 39 :: J 40 :: J 41 :: J 42 :: J 43 :: J 44 :: J 45 :: J 46 :: J 47 :: J 48 :: J 49 :: J 50 :: J 51 :: J 52 :: J 53 :: J 54 :: J 55 :: J 56 :: J 57 :: J 58 :: J 59 :: J 60 :: J 61 :: J 62 :: J 63 :: J 64 :: J 65 :: J 66 :: J 67 :: J 68 :: J 69 :: J 70 :: J 71 :: J 72 :: J 73 :: J 74 :: J 75 :: J 76 :: J 77 :: J 78 :: J 79 :: J 80 :: J 81 :: J 82 :: J 83 :: J 84 :: J 85 :: J 86 :: J 87 :: J 88 :: J 89 :: J 90 :: J 91 :: J 92 :: J 93 :: J 94 :: J 95 :: J 96 :: J 97 :: J 98 :: J 99 :: J 100 :: J 101 :: J 102 :: J 103 :: J 104 :: J 105 :: J 106 :: J 107 :: J 108 :: J 109 :: J 110 :: J 111 :: J 112 :: J 113 :: J 114 :: J 115 :: J 116 :: J 117 :: J 118 :: J 119 :: J 120 :: J 121 :: J 122 :: J 123 :: J 124 :: J 125 :: J 126 :: J 127 :: J 128 :: J 129 :: J 130 :: J 131 :: J 132 :: J 133 :: J 134 :: J 135 :: J 136 :: J 137 :: J 138 :: J 139 :: J 140 :: J 141 :: [] from by kernel_rfl] at hJ; replace k4 := Option.some.inj ((congrArg (·[4]?) hJ).symm.trans k4); replace k13 := Option.some.inj ((congrArg (·[13]?) hJ).symm.trans k13); replace k14 := Option.some.inj ((congrArg (·[14]?) hJ).symm.trans k14); replace k15 := Option.some.inj ((congrArg (·[15]?) hJ).symm.trans k15); replace k17 := Option.some.inj ((congrArg (·[17]?) hJ).symm.trans k17); replace k21 := Option.some.inj ((congrArg (·[21]?) hJ).symm.trans k21); replace k22 := Option.some.inj ((congrArg (·[22]?) hJ).symm.trans k22); replace k23 := Option.some.inj ((congrArg (·[23]?) hJ).symm.trans k23); rw [k4, k13, k14, k15, k17, k21, k22, k23] at hJ; dsimp only at hJ hT; subst hJ; replace hT := hT.symm; subst hT; clear hL k4 k13 k14 k15 k17 k21 k22 k23
    obtain ⟨hcsz, hlsz, hrl, -, -, hbd, hofb, hcb, hos, hck⟩ := (show _ ∧ _ ∧ _ ∧ _ ∧ _ ∧ _ ∧ _ ∧ _ ∧ _ ∧ _ from hX)
    rw [← hls] at hlsz
    rw [← hcs2] at hcsz
    have hcl : cs.length = 5 := by rw [hcs2]; rfl
    have hll : ls.length = 4 := by rw [hls]; rfl
    have hY := Lib.hid (And.intro hcsz (And.intro hlsz (And.intro hrl (And.intro hbd (And.intro hofb (And.intro hcb (And.intro hos hck)))))))
    clear hls hcs2 hcs hrs ha1 hsb hrf hle hpr hsh hpl hbe hbs hX key hcsz hlsz hrl hbd hofb hcb hos hck
    refine c_loop (fun m s => ∃ i : Nat, (i ≤ 4 ∧ m = 4 - i) ∧ (s.env.length = 142 ∧ s.sto = sto ++ .cells [.v (VI r2), .v (LI p2), .v (.sl q2.length (cellsCs q2))] :: js ∧ s.env[4]? = some (.v (VI how)) ∧ s.env[13]? = some (.v (LI cost)) ∧ s.env[14]? = some (.v (LLI rows)) ∧ s.env[15]? = some (.v (LI best)) ∧ s.env[17]? = some (.ptr sto.length 0) ∧ s.env[21]? = some (.v (LLI ls)) ∧ s.env[22]? = some (.v (.sl 5 (cellsCs cs))) ∧ s.env[23]? = some (.v (VI i)))) (.refl _) ⟨0, ⟨by omega, rfl⟩, rfl, rfl, ?_, ?_, ?_, ?_, ?_, ?_, ?_, ?_⟩ ?_
    all_goals first | rfl | skip
    rintro m s ⟨i, ⟨h1, rfl⟩, hL, hT, k4, k13, k14, k15, k17, k21, k22, k23⟩
    obtain ⟨env, st0⟩ := s; obtain ⟨J, hJ⟩ := listJ hL; rw [show (List.range 142).map J = J 0 :: J 1 :: J 2 :: J 3 :: J 4 :: J 5 :: J 6 :: J 7 :: J 8 :: J 9 :: J 10 :: J 11 :: J 12 :: J 13 :: J 14 :: J 15 :: J 16 :: J 17 :: J 18 :: J 19 :: J 20 :: J 21 :: J 22 :: J 23 :: J 24 :: J 25 :: J 26 :: J 27 :: J 28 :: J 29 :: J 30 :: J 31 :: J 32 :: J 33 :: J 34 :: J 35 :: J 36 :: J 37 :: J 38 :: J 39 :: J 40 :: J 41 :: J 42 :: J 43 :: J 44 :: J 45 :: J 46 :: J 47 :: J 48 :: J 49 :: J 50 :: J 51 :: J 52 :: J 53 :: J 54 :: J 55 :: J 56 :: J 57 :: J 58 :: J 59 :: J 60 :: J 61 :: J 62 :: J 63 :: J 64 :: J 65 :: J 66 :: J 67 :: J 68 :: J 69 :: J 70 :: J 71 :: J 72 :: J 73 :: J 74 :: J 75 :: J 76 :: J 77 :: J 78 :: J 79 :: J 80 :: J 81 :: J 82 :: J 83 :: J 84 :: J 85 :: J 86 :: J 87 :: J 88 :: J 89 :: J 90 :: J 91 :: J 92 :: J 93 :: J 94 :: J 95 :: J 96 :: J 97 :: J 98 :: J 99 :: J 100 :: J 101 :: J 102 :: J 103 :: J 104 :: J 105 :: J 106 :: J 107 :: J 108 :: J 109 :: J 110 :: J 111 :: J 112 :: J 113 :: J 114 :: J 115 :: J 116 :: J 117 :: J 118 :: J 119 :: J 120 :: J 121 :: J 122 :: J 123 :: J 124 :: J 125 :: J 126 :: J 127 :: J 128 :: J 129 :: J 130 :: J 131 :: J 132 :: J 133 :: J 134 :: J 135 :: J 136 :: J 137 :: J 138 :: J 139 :: J 140 :: J 141 :: [] from by kernel_rfl] at hJ; replace k4 := Option.some.inj ((congrArg (·[4]?) hJ).symm.trans k4); replace k13 := Option.some.inj ((congrArg (·[13]?) hJ).symm.trans k13); replace k14 := Option.some.inj ((congrArg (·[14]?) hJ).symm.trans k14); replace k15 := Option.some.inj ((congrArg (·[15]?) hJ).symm.trans k15); replace k17 := Option.some.inj ((congrArg (·[17]?) hJ).symm.trans k17); replace k21 := Option.some.inj ((congrArg (·[21]?) hJ).symm.trans k21); replace k22 := Option.some.inj ((congrArg (·[22]?) hJ).symm.trans k22); replace k23 := Option.some.inj ((congrArg (·[23]?) hJ).symm.trans k23); rw [k4, k13, k14, k15, k17, k21, k22, k23] at hJ; dsimp only at hJ hT; subst hJ; replace hT := hT.symm; subst hT; clear hL k4 k13 k14 k15 k17 k21 k22 k23
    by_cases hi : i < 4
    · repeat' (first | (refine go ⟨?_⟩) | (fail) | ((first | (refine bsp ?_ ?_) | (refine csp ?_ ?_)); all_goals (intro hb; (fail_if_success (cases hb; done)); (try simp only [decide_eq_true_eq, decide_eq_false_iff_not, beq_iff_eq, bne_iff_ne, ne_eq, beq_eq_false_iff_ne, bne_eq_false_iff_eq, Bool.not_eq_true', Bool.not_eq_false', Bool.and_eq_true, Bool.or_eq_true, Decidable.not_not] at hb); (try simp only [go_sem]))))
      refine c_loop (fun m s => ∃ k : Nat, (k ≤ 5 ∧ m = 5 - k) ∧ (s.env.length = 142 ∧ s.sto = sto ++ .cells [.v (VI r2), .v (LI p2), .v (.sl q2.length (cellsCs q2))] :: js ∧ s.env[4]? = some (.v (VI how)) ∧ s.env[13]? = some (.v (LI cost)) ∧ s.env[14]? = some (.v (LLI rows)) ∧ s.env[15]? = some (.v (LI best)) ∧ s.env[17]? = some (.ptr sto.length 0) ∧ s.env[21]? = some (.v (LLI ls)) ∧ s.env[22]? = some (.v (.sl 5 (cellsCs cs))) ∧ s.env[23]? = some (.v (VI i)) ∧ s.env[24]? = some (.v (VI k)))) (.refl _) ⟨0, ⟨by omega, rfl⟩, rfl, rfl, ?_, ?_, ?_, ?_, ?_, ?_, ?_, ?_, ?_⟩ ?_
      all_goals first | rfl | skip
      rintro m s ⟨k, ⟨h2, rfl⟩, hL, hT, k4, k13, k14, k15, k17, k21, k22, k23, k24⟩
      obtain ⟨env, st0⟩ := s; obtain ⟨J, hJ⟩ := listJ hL; rw [show (List.range 142).map J = J 0 :: J 1 :: J 2 :: J 3 :: J 4 :: J 5 :: J 6 :: J 7 :: J 8 :: J 9 :: J 10 :: J 11 :: J 12 :: J 13 :: J 14 :: J 15 :: J 16 :: J 17 :: J 18 :: J 19 :: J 20 :: J 21 :: J 22 :: J 23 :: J 24 :: J 25 :: J 26 :: J 27 :: J 28 :: J 29 :: J 30 :: J 31 :: J 32 :: J 33 :: J 34 :: J 35 :: J 36 :: J 37 :: J 38 :: J 39 :: J 40 :: J 41 :: J 42 :: J 43 :: J 44 :: J 45 :: J 46 :: J 47 :: J 48 :: J 49 :: J 50 :: J 51 :: J 52 :: J 53 :: J 54 :: J 55 :: J 56 :: J 57 :: J 58 :: J 59 :: J 60 :: J 61 :: J 62 :: J 63 :: J 64 :: J 65 :: J 66 :: J 67 :: J 68 :: J 69 :: J 70 :: J 71 :: J 72 :: J 73 :: J 74 :: J 75 :: J 76 :: J 77 :: J 78 :: J 79 :: J 80 :: J 81 :: J 82 :: J 83 :: J 84 :: J 85 :: J 86 :: J 87 :: J 88 :: J 89 :: J 90 :: J 91 :: J 92 :: J 93 :: J 94 :: J 95 :: J 96 :: J 97 :: J 98 :: J 99 :: J 100 :: J 101 :: J 102 :: J 103 :: J 104 :: J 105 :: J 106 :: J 107 :: J 108 :: J 109 :: J 110 :: J 111 :: J 112 :: J 113 :: J 114 :: J 115 :: J 116 :: J 117 :: J 118 :: J 119 :: J 120 :: J 121 :: J 122 :: J 123 :: J 124 :: J 125 :: J 126 :: J 127 :: J 128 :: J 129 :: J 130 :: J 131 :: J 132 :: J 133 :: J 134 :: J 135 :: J 136 :: J 137 :: J 138 :: J 139 :: J 140 :: J 141 :: [] from by kernel_rfl] at hJ; replace k4 := Option.some.inj ((congrArg (·[4]?) hJ).symm.trans k4); replace k13 := Option.some.inj ((congrArg (·[13]?) hJ).symm.trans k13); replace k14 := Option.some.inj ((congrArg (·[14]?) hJ).symm.trans k14); replace k15 := Option.some.inj ((congrArg (·[15]?) hJ).symm.trans k15); replace k17 := Option.some.inj ((congrArg (·[17]?) hJ).symm.trans k17); replace k21 := Option.some.inj ((congrArg (·[21]?) hJ).symm.trans k21); replace k22 := Option.some.inj ((congrArg (·[22]?) hJ).symm.trans k22); replace k23 := Option.some.inj ((congrArg (·[23]?) hJ).symm.trans k23); replace k24 := Option.some.inj ((congrArg (·[24]?) hJ).symm.trans k24); rw [k4, k13, k14, k15, k17, k21, k22, k23, k24] at hJ; dsimp only at hJ hT; subst hJ; replace hT := hT.symm; subst hT; clear hL k4 k13 k14 k15 k17 k21 k22 k23 k24
      by_cases hk : k < 5
      · have hil : i < ls.length := by omega
        have hkl : k < cs.length := by omega
        obtain ⟨hcsz, hlsz, hrl, -⟩ := (show _ ∧ _ ∧ _ ∧ _ from hY)
        have hcz := hcsz cs[k] (List.getElem_mem hkl)
        have hlz := hlsz ls[i] (List.getElem_mem hil)
        have hc1 := fun sto lo hlo => (check_ev rows cost ls[i] cs[k] (by omega) hrl (by omega) (by omega) hcz sto lo hlo).up0 (B := collB)
        have hc2 := fun sto lo hlo => (refCheck_ev rows cost ls[i] cs[k] (by omega) hrl (by omega) (by omega) hcz sto lo hlo).up0 (B := collB)
        have hc3 := fun sto lo hlo => (own_ev (csz cs[k]) cs[k] sto lo (Nat.le_refl _) hcz hlo).up0 (B := collB)
        rw [← check_eq] at hc2
        clear hcsz hlsz hrl
        generalize checkN rows cost ls[i] cs[k] = e at *
        repeat' (first | (refine go ⟨?_⟩) | (first | ((refine call ?_); (refine ⟨_, hof _ _ (by first | omega | (simp; done) | (simp; omega)), ?_⟩); (try simp only [go_sem])) | ((refine call ?_); (refine ⟨_, hc1 _ _ (by first | omega | (simp; done) | (simp; omega)), ?_⟩); (try simp only [go_sem])) | ((refine call ?_); (refine ⟨_, hc2 _ _ (by first | omega | (simp; done) | (simp; omega)), ?_⟩); (try simp only [go_sem])) | ((refine call ?_); (refine ⟨_, hc3 _ _ (by first | omega | (simp; done) | (simp; omega)), ?_⟩); (try simp only [go_sem]))) | ((first | (refine bsp ?_ ?_) | (refine csp ?_ ?_)); all_goals (intro hb; (fail_if_success (cases hb; done)); (try simp only [decide_eq_true_eq, decide_eq_false_iff_not, beq_iff_eq, bne_iff_ne, ne_eq, beq_eq_false_iff_ne, bne_eq_false_iff_eq, Bool.not_eq_true', Bool.not_eq_false', Bool.and_eq_true, Bool.or_eq_true, Decidable.not_not] at hb); (try simp only [go_sem]))))
        refine ⟨_, _, ?_, .refl _, k + 1, ⟨by omega, rfl⟩, rfl, rfl, ?_, ?_, ?_, ?_, ?_, ?_, ?_, ?_, ?_⟩
        · omega
        all_goals rfl
      · repeat' (first | (refine go ⟨?_⟩) | (fail) | ((first | (refine bsp ?_ ?_) | (refine csp ?_ ?_)); all_goals (intro hb; (fail_if_success (cases hb; done)); (try simp only [decide_eq_true_eq, decide_eq_false_iff_not, beq_iff_eq, bne_iff_ne, ne_eq, beq_eq_false_iff_ne, bne_eq_false_iff_eq, Bool.not_eq_true', Bool.not_eq_false', Bool.and_eq_true, Bool.or_eq_true, Decidable.not_not] at hb); (try simp only [go_sem]))))
        refine ⟨_, _, ?_, .refl _, i + 1, ⟨by omega, rfl⟩, rfl, rfl, ?_, ?_, ?_, ?_, ?_, ?_, ?_, ?_⟩
        · omega
        all_goals rfl
    · obtain ⟨-, -, -, hbd, hofb, hcb, hos, hck⟩ := (show _ ∧ _ ∧ _ ∧ _ ∧ _ ∧ _ ∧ _ ∧ _ from hY)
      repeat' (first | (refine go ⟨?_⟩) | (first | ((refine call ?_); (refine ⟨_, hbd _ _ (by first | omega | (simp; done) | (simp; omega)), ?_⟩); (try simp only [go_sem])) | ((refine call ?_); (refine ⟨_, hofb _ _ (by first | omega | (simp; done) | (simp; omega)), ?_⟩); (try simp only [go_sem])) | ((refine call ?_); (refine ⟨_, hos _ _ (by first | omega | (simp; done) | (simp; omega)), ?_⟩); (try simp only [go_sem])) | ((refine call ?_); (refine ⟨_, hcb _ _ (by first | omega | (simp; done) | (simp; omega)), ?_⟩); (try simp only [go_sem])) | ((refine call ?_); (refine ⟨_, hof _ _ (by first | omega | (simp; done) | (simp; omega)), ?_⟩); (try simp only [go_sem])) | ((refine call ?_); (refine ⟨_, hck _ _ (by first | omega | (simp; done) | (simp; omega)), ?_⟩); (try simp only [go_sem])) | ((refine call ?_); (refine ⟨_, lives_ev _ _ (by first | omega | (simp; done) | (simp; omega)), ?_⟩); (try simp only [go_sem]))) | ((first | (refine bsp ?_ ?_) | (refine csp ?_ ?_)); all_goals (intro hb; (fail_if_success (cases hb; done)); (try simp only [decide_eq_true_eq, decide_eq_false_iff_not, beq_iff_eq, bne_iff_ne, ne_eq, beq_eq_false_iff_ne, bne_eq_false_iff_eq, Bool.not_eq_true', Bool.not_eq_false', Bool.and_eq_true, Bool.or_eq_true, Decidable.not_not] at hb); (try simp only [go_sem]))))
      refine ⟨by first | exact .inr rfl | exact .inl rfl, .inl ⟨[], _, (by dsimp only [Tryd.f4]; exact sv), ?_, by simp⟩⟩
      rfl
end Go.Proofs.YtgkhcjdpdgfdbaaDoor
namespace Go.Proofs.YtgkhcjdpdgfdbaaDoor.suiteChecks
open Go Go.ChangeShapes Go.WideShapes Go.ChangeAt Go.RowKit

theorem door_met (os : Os) (args : Array Value) : laidMetH Tryd.prog Rows.suiteChecksRow.laid ((World.doorLaid Tryd.prog 600 os).forCall (fun _ _ => 0) ⟨#[], args, []⟩).memory :=
  laidMetH_of_parts3 (fuel := 8) (laidMet_of_run' 8 (by kernel_rfl) (by kernel_rfl)) (by kernel_rfl) (by kernel_rfl)

set_option maxRecDepth 100000 in
theorem lifted (os : Os) (started : os.Started) (H : Type) (enc : TypeId × Value → H) :
    ReturnsInHanded {} Tryd.checked os 4 .any (fun w args => (Rows.suiteChecksSpec.pre enc Tryd.prog Tryd.f4 [] false w args ∧ laidMetH Tryd.prog Rows.suiteChecksRow.laid w) ∧ sizedMet enc Tryd.prog Tryd.f4 (OpenSpec.ofChange Rows.suiteChecksSpec) false w args)
      (Rows.suiteChecksSpec.post enc Tryd.prog Tryd.f4 false true false false) := by
  refine returnsInHanded_of_change_and (C := Tryd.checked) (X := fun w _ => laidMetH Tryd.prog Rows.suiteChecksRow.laid w) (fun _ _ _ hh h => h.of_heap hh) own started (by kernel_rfl) Tryd.func4
    (ChangeSpec.witness_shaped (enc := enc) (C := Tryd.checked) (os := os) (X := fun w _ => laidMetH Tryd.prog Rows.suiteChecksRow.laid w) false (World.doorLaid Tryd.prog 600 os) #[.slice none 0 0, .slice none 0 0, .slice none 0 0, .int .i64 0, .int .i64 0, .int .i64 0] 8 rfl (World.shaped_of_RefB (by kernel_rfl) (by kernel_rfl)) (by kernel_rfl) (by kernel_rfl) (by kernel_rfl) (door_met os _)) ?_
  intro W base args ds gs before hval0 hW _ _ hL _
  have hval : ∀ (j : Nat) t v, Tryd.f4.params[j]? = some t → args[j]? = some v → Value.okWide Tryd.prog W .any base t v := hval0
  have hW' := hW
  obtain ⟨p, q, hA0, hV, rfl, hfz, hnd⟩ := hW
  have hA : DataW.TrodAll enc Tryd.prog W 0 (fun _ => true) true Tryd.f4.params.toList args.toList ds p := hA0
  rw [Tryd.params4] at hA hval
  obtain ⟨v0, vs0, d0, ds0, p0, q0, hargs, rfl, rfl, hd0, r0⟩ := trodAll_cons hA
  obtain ⟨v1, vs1, d1, ds1, p1, q1, rfl, rfl, rfl, hd1, r1⟩ := trodAll_cons r0
  obtain ⟨v2, vs2, d2, ds2, p2, q2, rfl, rfl, rfl, hd2, r2⟩ := trodAll_cons r1
  obtain ⟨v3, vs3, d3, ds3, p3, q3, rfl, rfl, rfl, hd3, r3⟩ := trodAll_cons r2
  obtain ⟨v4, vs4, d4, ds4, p4, q4, rfl, rfl, rfl, hd4, r4⟩ := trodAll_cons r3
  obtain ⟨v5, vs5, d5, ds5, p5, q5, rfl, rfl, rfl, hd5, r5⟩ := trodAll_cons r4
  obtain ⟨rfl, rfl, rfl⟩ := trodAll_nil r5
  obtain rfl : args = #[v0, v1, v2, v3, v4, v5] := by cases args; simp_all
  obtain ⟨l0, k0⟩ := (opens_slice Tryd.underlying22 (by kernel_rfl) (opens_int (k := .i64) Tryd.underlying3)).arg Tryd.underlying22 (hval 0 22 v0 rfl rfl) hd0
  obtain ⟨h0, q0⟩ := k0.ints
  have n0 := rd_len h0
  obtain ⟨l1, k1⟩ := (opens_slice Tryd.underlying22 (by kernel_rfl) (opens_int (k := .i64) Tryd.underlying3)).arg Tryd.underlying22 (hval 1 22 v1 rfl rfl) hd1
  obtain ⟨h1, q1⟩ := k1.ints
  have n1 := rd_len h1
  obtain ⟨l2, k2⟩ := (opens_slice Tryd.underlying22 (by kernel_rfl) (opens_int (k := .i64) Tryd.underlying3)).arg Tryd.underlying22 (hval 2 22 v2 rfl rfl) hd2
  obtain ⟨h2, q2⟩ := k2.ints
  have n2 := rd_len h2
  obtain ⟨a3, rfl, rfl, rfl, wa3⟩ := open_int Tryd.underlying3 (hval 3 3 v3 rfl rfl) hd3
  have b3 := i64_wf wa3
  obtain ⟨a4, rfl, rfl, rfl, wa4⟩ := open_int Tryd.underlying3 (hval 4 3 v4 rfl rfl) hd4
  have b4 := i64_wf wa4
  obtain ⟨a5, rfl, rfl, rfl, wa5⟩ := open_int Tryd.underlying3 (hval 5 3 v5 rfl rfl) hd5
  have b5 := i64_wf wa5
  refine (law_calls (vals := [v0, v1, v2, .int .i64 a3, .int .i64 a4, .int .i64 a5]) (xs := [LI l0, LI l1, LI l2, VI a3, VI a4, VI a5]) collB_ok (suiteChecks_ev l0 l1 l2 a3 a4 a5 n0 q0 n1 q1 n2 b3 b4 b5 [] 0 (Nat.le_refl _)) (glob_of_laid hL) (Pw.cons (rep_ints h0) (Pw.cons (rep_ints h1) (Pw.cons (rep_ints h2) (Pw.cons (rep_int a3) (Pw.cons (rep_int a4) (Pw.cons (rep_int a5) (Pw.nil)))))))).mono fun e W' ⟨he, hb⟩ => ?_
  subst he
  exact ⟨_, rfl, law_post hW' rfl laidOut (by kernel_rfl) rfl Tryd.underlying4 (fun ds h => match ds, h with | [_, _, _, _, _, _], _ => rfl) hb⟩

theorem said : Rows.SuiteChecksSaid :=
  OpenClaim.holds_of_wide 4 Tryd.f4 rfl rfl rfl rfl rfl rfl rfl ⟨rfl, rfl, rfl, rfl, rfl⟩ rfl rfl rfl rfl rfl (by kernel_rfl) Tryd.func4 (by kernel_rfl)
    (of_decide_eq_true (by kernel_rfl)) (by unfold Func.isWrapper; first | (rw [if_pos (by decide +kernel)]; kernel_rfl) | (rw [if_neg (by decide +kernel)]; exact ⟨rfl, rfl⟩))
    (fun os started H enc _ => lifted os started H enc)

theorem plain (f : FuncId) (fn : Func) (hf : Tryd.pinned.checked.prog.funcNamed "scoria/scorialaw37.SuiteChecks" = some f) (hfn : Tryd.pinned.checked.prog.funcs[f]? = some fn) :
    false = Tryd.pinned.checked.prog.looks [] ∧ ∀ (j : Nat) t, fn.params[j]? = some t → Tryd.pinned.checked.prog.wantsStandIn t = false := by
  obtain rfl : f = 4 := Option.some.inj ((show Tryd.prog.funcNamed "scoria/scorialaw37.SuiteChecks" = some 4 by kernel_rfl).symm.trans hf) |>.symm
  obtain rfl : fn = Tryd.f4 := (Option.some.inj (Tryd.func4.symm.trans hfn)).symm
  refine ⟨by kernel_rfl, fun j t ht => ?_⟩
  have hall : (Tryd.f4.params.toList.all fun t => !(Tryd.prog.wantsStandIn t)) = true := by kernel_rfl
  have h := List.all_eq_true.1 hall t (Array.mem_toList_iff.2 (Array.mem_of_getElem? ht))
  exact (Bool.not_eq_true' _).mp h

/-- THE CARD. -/
theorem suiteChecks_holds : Rows.SuiteChecksCardSaid :=
  Claim7.holds_tied_plain_at .later [] _ _ _ _ said (fun _ h => by cases h) (by kernel_rfl) (fun _ h => by cases h) suiteChecks_row_tie rfl ⟨rfl, rfl⟩ (by kernel_rfl) rfl plain (by kernel_rfl)
#print axioms suiteChecks_holds
end Go.Proofs.YtgkhcjdpdgfdbaaDoor.suiteChecks
