/-
  Contracts: expressions: whether one is right, by the document.
  Expressions: the document's check is the program's.
  Contracts: plans: whether one is right, by the document.
  Contracts: expressions: the type of one, by the document.
  Expressions: the document's type is the program's.
  Contracts: plans: the schema of one, by the document: the small functions.
  Contracts: plans: the schema of one, by the document: reductions; right schemas.
  Contracts: plans: the schema of one, by the document.
  Plans: the document's check is the program's.
  Contracts: whether nodes are right.
  Contracts: whether nodes are right.
  Contracts: how far nodes may go; how many there are; the first questions.
  Contracts: nodes: whether they are right, by the document.
-/
import Derived.Test.YtgkkoeodinlffaaPartE
import Derived.Test.YtgkkoeodinlffaaPartG
section
set_option linter.unusedVariables false
set_option linter.unusedSimpArgs false
namespace Go.Proofs
open Go.Flat
set_option maxRecDepth 100000
set_option linter.unusedSimpArgs false
set_option linter.unusedVariables false
attribute [local simp] Bool.and_assoc Bool.or_assoc evalG evalX efD skF guardG guardL isCall stepL evalOp ev evs lk tmpsL app AV.ok fresh vv putCells insV ins del putL place Go.Flat.look fillC fillR getCells loadF storeF binF scalarBin intBin strBin isShift shiftBin unF lenF maxF minF rowsF appendF builtinF idxF natOf sliceP sliceF optEv Flat.cut overwrite toPV toPVs constAV scalarC scalarCs AV.cells TI.isAgg allSome andAll scalarEq buildable Go.Flat.lim retQ resL resAll resOne PartOf noTmp closedIn refs refs.refsL isSomeV hasB ids leA leA.leL renA renA.renL callB refsAll backL dropIds renS LiesAt injB ownB freshB memN locId insAll leA_refl leL_refl okS frzS frzA frzA.frzL evalD feet fine updCells cellsFrom memP footRf footWf noTmpU updIds opOps opIds idsA footR footW guardTs opTs dstTs callR callW renLoc renC inBlockQ thenQ Value.oneCell' IntKind.bits IntKind.signed PV.up toPH toPHs

attribute [local simp] Val.av in
theorem spec217 (v : Val) : Flat.Sp Try.prog 217 [v.av] [] (vv (.bool v.right)) [] := by
  refine sk Try.func217 ?_
  intro F G hn hG
  refine sq ?_
  refine rg 1000 ?_
  refine pr [1, 17] ?_
  refine sq ?_
  refine sq ?_
  refine rg 2000 ?_
  refine pr [1, 3, 4, 17] ?_
  refine cd ?_ ?_
  · intro h4_1
    refine sq ?_
    refine rc 3000 ?_
    iterate 4 (first | refine gp 3350 ?_ | refine os ?_ | refine gt 3350 ?_)
    refine oe 3400 ?_
    refine on ?_
    refine pr [1, 3, 14, 17] ?_
    refine k_ret ?_
    show retQ _ _ _ _ _ _ _
    simp [*, Val.right]
  · intro h4_1
    refine k_skip ?_
    refine sq ?_
    refine rg 4000 ?_
    refine pr [2, 3] ?_
    refine k_ret ?_
    show retQ _ _ _ _ _ _ _
    simp [*, Val.right]

theorem fb_drop {xs : List Val} {i : Nat} {x : Val} (h : xs[i]? = some x) : (xs.drop i).any (fun v => !v.right) = (!x.right || (xs.drop (i + 1)).any (fun v => !v.right)) := by
  obtain ⟨h1, h2⟩ := List.getElem?_eq_some_iff.1 h
  rw [List.drop_eq_getElem_cons h1, h2]
  rfl
def rowBad (xs : List Val) : Bool := xs.any (fun v => !v.right)
def checkRr (xs : List Val) : Int := if rowBad xs then 4 else if decide ((8 : Int) < xs.length) then 4 else 0

attribute [local simp] Val.row in
theorem spec213 (xs : List Val) (hlen : xs.length ≤ Flat.lim) : Flat.Sp Try.prog 213 [.p (.ps (xs.map Val.row))] [] (vv (.int .i64 (checkRr xs))) [] := by
  refine sk Try.func213 ?_
  intro F G hn hG
  refine sq ?_
  refine rg 1000 ?_
  refine pr [0, 1, 2, 3, 4, 18] ?_
  refine sq ?_
  refine sq ?_
  refine rg 2000 ?_
  refine pr [0, 1, 2, 3, 4, 18] ?_
  refine k_block ?_
  refine k_loop (fun n l => ∃ i, i + n = xs.length ∧ (rowBad (xs.drop i) = rowBad xs) ∧ l = [(.tmp 0, .av (.p (.ps (xs.map Val.row)))), (.tmp 5, .av (.p (.ps (xs.map Val.row)))), (.tmp 6, .av (vv (.int .i64 xs.length))), (.tmp 7, .av (vv (.int .i64 i)))]) (xs.length) hG ⟨_, ⟨by simp, by simp, by simp⟩, 0, by simp, rfl, rfl⟩ ?_
  rintro n _ ⟨i, hin, hfa, rfl⟩
  have hcm := hfa
  refine sq ?_
  refine rg 3000 ?_
  refine pr [0, 1, 2, 3, 4, 18] ?_
  refine sq ?_
  refine cd ?_ ?_
  · intro h8_1
    have hlt : i < xs.length := by simpa using h8_1
    obtain ⟨x, hxe⟩ : ∃ x, xs[i] = x := ⟨_, rfl⟩
    have hx : xs[i]? = some x := by simp [hlt, hxe]
    have hw := wrap_succ (show i < Flat.lim by omega)
    have hdr : rowBad (xs.drop i) = (!x.right || rowBad (xs.drop (i + 1))) := fb_drop hx
    refine k_skip ?_
    refine sq ?_
    refine k_block ?_
    refine sq ?_
    refine rg 4000 ?_
    refine pr [0, 1, 2, 3, 4, 18] ?_
    refine sq ?_
    refine rc 5000 ?_
    refine oc id ((show Flat.Sp Try.prog 217 [.agg [vv (.bool x.t), vv (.int .i64 x.n), vv (.string x.s)]] [] (vv (.bool x.right)) [] from spec217 x)) ?_
    refine oe 5100 ?_
    refine on ?_
    refine pr [0, 1, 2, 3, 4, 18] ?_
    refine cd ?_ ?_
    · intro h13_2
      have hrx : x.right = false := by simpa using h13_2
      have hfin : checkRr xs = 4 := if_pos (by rw [← hcm, hdr, hrx]; rfl)
      refine sq ?_
      refine rg 6000 ?_
      refine pr [0, 1, 2, 3, 4, 18] ?_
      refine k_ret ?_
      show retQ _ _ _ _ _ _ _
      simp [*]
    · intro h13_2
      have hrx : x.right = true := by simpa using h13_2
      have hnext : rowBad (xs.drop (i + 1)) = rowBad xs := by rw [← hcm, hdr, hrx]; rfl
      refine k_skip ?_
      refine k_nil ?_
      show AK _ _ _ _ _ _
      refine rg 7000 ?_
      refine k_nil ?_
      refine ⟨n - 1, by omega, _, ⟨?_, ?_, ?_⟩, i + 1, by omega, hnext, rfl⟩ <;> simp [*]
  · intro h8_1
    have hge : xs.length ≤ i := by simpa using h8_1
    have hcm2 : rowBad xs = false := by rw [← hcm, List.drop_eq_nil_of_le hge]; rfl
    have hfin0 : checkRr xs = if decide ((8 : Int) < xs.length) then 4 else 0 := if_neg (by rw [hcm2]; decide)
    refine k_exit ?_
    show AK _ _ _ _ _ _
    refine sq ?_
    refine sq ?_
    refine rg 8000 ?_
    refine pr [2, 3, 17, 18] ?_
    refine cd ?_ ?_
    · intro h17_3
      have hfin : checkRr xs = 4 := by rw [hfin0]; exact if_pos h17_3
      refine sq ?_
      refine rg 9000 ?_
      refine pr [2, 3] ?_
      refine k_ret ?_
      show retQ _ _ _ _ _ _ _
      simp [*]
    · intro h17_3
      have hfin : checkRr xs = 0 := by rw [hfin0]; exact if_neg (by rw [h17_3]; decide)
      refine k_skip ?_
      refine sq ?_
      refine rg 10000 ?_
      refine pr [2, 3] ?_
      refine k_ret ?_
      show retQ _ _ _ _ _ _ _
      simp [*]

theorem spec212 (o : Int) : Flat.Sp Try.prog 212 [vv (.int .u8 o)] [] (vv (.int .i64 (kidsOf o))) [] := by
  refine sk Try.func212 ?_
  intro F G hn hG
  refine sq ?_
  refine rg 1000 ?_
  refine pr [0, 1, 2, 12] ?_
  refine sq ?_
  refine sq ?_
  refine rg 2000 ?_
  refine pr [2, 12] ?_
  refine k_block ?_
  refine sq ?_
  refine sq ?_
  refine rg 3000 ?_
  refine pr [2, 5, 6, 12] ?_
  refine cd ?_ ?_
  · intro h4_1
    refine k_skip ?_
    refine ct ?_
    refine sq ?_
    refine rg 5000 ?_
    refine pr [2, 3] ?_
    refine k_ret ?_
    show retQ _ _ _ _ _ _ _
    simp [*, kidsOf]
  · intro h4_1
    refine rg 4000 ?_
    refine pr [2, 5, 7, 12] ?_
    refine cd ?_ ?_
    · intro h4_2
      refine sq ?_
      refine rg 5000 ?_
      refine pr [2, 3] ?_
      refine k_ret ?_
      show retQ _ _ _ _ _ _ _
      simp [*, kidsOf]
    · intro h4_2
      refine sq ?_
      refine sq ?_
      refine rg 6000 ?_
      refine pr [2, 4, 7, 8, 9, 12] ?_
      refine cd ?_ ?_
      · intro h7_3
        refine k_skip ?_
        refine ct ?_
        refine sq ?_
        refine rg 8000 ?_
        refine pr [2, 3] ?_
        refine k_ret ?_
        show retQ _ _ _ _ _ _ _
        simp [*, kidsOf]
      · intro h7_3
        refine rg 7000 ?_
        refine pr [2, 4, 7, 8, 10, 12] ?_
        refine cd ?_ ?_
        · intro h7_4
          refine sq ?_
          refine rg 8000 ?_
          refine pr [2, 3] ?_
          refine k_ret ?_
          show retQ _ _ _ _ _ _ _
          simp [*, kidsOf]
        · intro h7_4
          refine sq ?_
          refine rg 9000 ?_
          refine pr [2, 3, 10, 11] ?_
          refine cd ?_ ?_
          · intro h10_5
            refine sq ?_
            refine rg 10000 ?_
            refine pr [2, 3] ?_
            refine k_ret ?_
            show retQ _ _ _ _ _ _ _
            simp [*, kidsOf]
          · intro h10_5
            refine k_skip ?_
            refine k_nil ?_
            show AK _ _ _ _ _ _
            refine sq ?_
            refine rg 11000 ?_
            refine pr [2, 3] ?_
            refine k_ret ?_
            show retQ _ _ _ _ _ _ _
            simp [*, kidsOf]

theorem checkRr_one (c : Val) : checkRr [c] = checkRow [c] := by
  cases h : c.right <;> simp [checkRr, rowBad, checkRow, badRow, firstBad, h]

mutual
/-- Whether an expression is right as far as a depth goes, and how many it is. -/
def shE : E → Int → Bool × Int
  | .mk op col c kids, d => if d == 0 || !okE op col c kids.length then (okE op col c kids.length, 1) else shL kids (IntKind.i64.wrap (d - 1)) (okE op col c kids.length, 1)
def shL : List E → Int → Bool × Int → Bool × Int
  | [], _, s => s
  | e :: r, d, s => shL r d (s.1 && (shE e d).1, IntKind.i64.wrap (s.2 + (shE e d).2))
end
theorem shL_append (d : Int) : ∀ (l r : List E) (s : Bool × Int), shL (l ++ r) d s = shL r d (shL l d s)
  | [], r, s => by simp [shL]
  | e :: l, r, s => by simp [shL, shL_append d l r]
theorem shL_take {kids : List E} {d : Int} {s : Bool × Int} {i : Nat} {x : E} (h : kids[i]? = some x) : shL (kids.take (i + 1)) d s = ((shL (kids.take i) d s).1 && (shE x d).1, IntKind.i64.wrap ((shL (kids.take i) d s).2 + (shE x d).2)) := by
  rw [List.take_add_one, h, shL_append]
  simp [shL]
mutual
def dpE : E → Int → Int
  | .mk _ _ _ kids, m => IntKind.i64.wrap ((if decide (1 < m) then dpL kids (IntKind.i64.wrap (m - 1)) 0 else 0) + 1)
def dpL : List E → Int → Int → Int
  | [], _, a => a
  | e :: r, m, a => dpL r m (if decide (a < dpE e m) then dpE e m else a)
end
theorem dpL_append (m : Int) : ∀ (l r : List E) (a : Int), dpL (l ++ r) m a = dpL r m (dpL l m a)
  | [], r, a => by simp [dpL]
  | e :: l, r, a => by simp only [List.cons_append, dpL, dpL_append m l r]
theorem dpL_take {kids : List E} {m : Int} {a : Int} {i : Nat} {x : E} (h : kids[i]? = some x) : dpL (kids.take (i + 1)) m a = if decide (dpL (kids.take i) m a < dpE x m) then dpE x m else dpL (kids.take i) m a := by
  rw [List.take_add_one, h, dpL_append]
  simp [dpL]

theorem okE_sw (op col : Int) (c : Val) (nk : Nat) : okE op col c nk = (okA op nk && ((op == 1 || col == 0) && ((op == 2 || c.eqB ⟨false, 0, ⟨#[]⟩⟩) && (checkRow [c] == 0)))) := by
  rw [okE, Bool.or_comm (col == 0), Bool.or_comm (c.eqB _)]
theorem or_not {a b : Bool} (h : (a || !b) = false) : b = true := by cases b <;> simp_all

attribute [local simp] E.av in
theorem spec206_step (op col : Int) (c : Val) (kids : List E) (ih : ∀ x ∈ kids, ∀ d, Flat.Sp Try.prog 206 [x.av, vv (.int .i64 d)] [] (.tup [vv (.bool (shE x d).1), vv (.int .i64 (shE x d).2)]) []) (d : Int) : Flat.Sp Try.prog 206 [(E.mk op col c kids).av, vv (.int .i64 d)] [] (.tup [vv (.bool (shE (E.mk op col c kids) d).1), vv (.int .i64 (shE (E.mk op col c kids) d).2)]) [] := by
  refine sk Try.func206 ?_
  intro F G hn hG
  refine sq ?_
  refine rg 1000 ?_
  refine pr [1, 3, 4, 8, 9, 91] ?_
  refine sq ?_
  refine cv [(.tmp 6, vv (.bool (okA op kids.length)))] ?_ ?_
  · skip
    refine dr ?_
    refine de 2000 ?_ (h := by simp [*, okA]; exact is_rfl _)
    iterate 3 (first | refine dp 2250 ?_ (he := by intro hgg; (try simp only [Bool.and_eq_true] at hgg); simp [*, okA]; exact is_rfl _) | refine ds ?_ | refine dt 2250 ?_ (he := by simp [*, okA]; exact is_rfl _))
    refine de 2300 ?_ (h := by simp [*, okA]; exact is_rfl _)
    iterate 5 (first | refine dp 2750 ?_ (he := by intro hgg; (try simp only [Bool.and_eq_true] at hgg); simp [*, okA]; exact is_rfl _) | refine ds ?_ | refine dt 2750 ?_ (he := by simp [*, okA]; exact is_rfl _))
    refine dg (fun hg => spec212 op) ?_ (hf := by intro hgg; (try simp only [Bool.and_eq_true] at hgg); simp [*, okA]; exact is_rfl _) (hx := by intro hgg; (try simp only [Bool.and_eq_true] at hgg); simp [*, okA]; exact is_rfl _) (hargs := by intro hgg; (try simp only [Bool.and_eq_true] at hgg); simp [*, okA]) (hd := by simp [*, okA]; exact is_rfl _)
    first | refine dp 2950 ?_ (he := by intro hgg; (try simp only [Bool.and_eq_true] at hgg); simp [*, okA]; exact is_rfl _) | refine ds ?_ | refine dt 2950 ?_ (he := by simp [*, okA]; exact is_rfl _)
    refine de 3000 ?_ (h := by simp [*, okA]; exact is_rfl _)
    refine dn ?_
    refine k_nil ?_
    refine ⟨rfl, ?_, ?_, ?_⟩ <;> simp [*, okA]
  refine pr [1, 3, 4, 8, 9, 12, 29, 91] ?_
  refine sq ?_
  refine rc 3000 ?_
  iterate 8 (first | refine gp 3750 ?_ | refine os ?_ | refine gt 3750 ?_)
  refine oe 3800 ?_
  iterate 9 (first | refine gp 4650 ?_ | refine os ?_ | refine gt 4650 ?_)
  refine oe 4700 ?_
  refine on ?_
  refine pr [1, 3, 4, 8, 9, 12, 51, 91] ?_
  refine sq ?_
  refine cv [(.tmp 6, vv (.bool (okE op col c kids.length)))] ?_ ?_
  · skip
    refine rc 4000 ?_ (h := by simp [*, okE_sw, Val.row]; exact is_rfl _)
    iterate 3 (first | refine gp 4250 ?_ (he := by intro hgg; (try simp only [Bool.and_eq_true] at hgg); simp [*, okE_sw, Val.row]; exact is_rfl _) | refine os ?_ | refine gt 4250 ?_ (he := by simp [*, okE_sw, Val.row]; exact is_rfl _))
    refine og (fun hg => spec213 [c] (by simp [Flat.lim])) ?_ (hf := by intro hgg; (try simp only [Bool.and_eq_true] at hgg); simp [*, okE_sw, Val.row, Val.row, checkRr_one]; exact is_rfl _) (hx := by intro hgg; (try simp only [Bool.and_eq_true] at hgg); simp [*, okE_sw, Val.row, Val.row, checkRr_one]; exact is_rfl _) (hargs := by intro hgg; (try simp only [Bool.and_eq_true] at hgg); simp [*, okE_sw, Val.row, Val.row, checkRr_one]) (hd := by simp [*, okE_sw, Val.row, Val.row, checkRr_one]; exact is_rfl _)
    first | refine gp 4450 ?_ (he := by intro hgg; (try simp only [Bool.and_eq_true] at hgg); simp [*, okE_sw, Val.row]; exact is_rfl _) | refine os ?_ | refine gt 4450 ?_ (he := by simp [*, okE_sw, Val.row]; exact is_rfl _)
    refine oe 4500 ?_ (h := by simp [*, okE_sw, Val.row]; exact is_rfl _)
    refine on ?_
    refine k_nil ?_
    refine ⟨rfl, ?_, ?_, ?_⟩ <;> simp [*, okE_sw, Val.row]
  refine pr [1, 3, 4, 8, 9, 12, 59, 91] ?_
  refine sq ?_
  refine rg 5000 ?_
  refine pr [1, 3, 4, 8, 9, 12, 59, 91] ?_
  refine sq ?_
  refine sq ?_
  refine rc 6000 ?_
  iterate 2 (first | refine gp 6150 ?_ | refine os ?_ | refine gt 6150 ?_)
  refine oe 6200 ?_
  refine on ?_
  refine pr [1, 3, 4, 8, 9, 12, 64, 91] ?_
  refine cd ?_ ?_
  · intro h64_1
    have h64_1 : (d == 0 || !(okE op col c kids.length)) = true := by simpa using h64_1
    have hfin : shE (E.mk op col c kids) d = ((okE op col c kids.length), 1) := by rw [shE]; exact if_pos h64_1
    refine sq ?_
    refine rg 7000 ?_
    refine pr [1, 3, 4, 8, 9, 12, 67, 91] ?_
    refine k_ret ?_
    show retQ _ _ _ _ _ _ _
    simp [*]
  · intro h64_1
    have h64_1 : (d == 0 || !(okE op col c kids.length)) = false := by simpa using h64_1
    have hfin : shE (E.mk op col c kids) d = shL kids (IntKind.i64.wrap (d - 1)) ((okE op col c kids.length), 1) := by rw [shE]; exact if_neg (by rw [h64_1]; decide)
    have hok : (okE op col c kids.length) = true := or_not h64_1
    have hk : kids.length ≤ Flat.lim := Nat.le_trans (okE_len hok) (by simp [Flat.lim])
    refine k_skip ?_
    refine sq ?_
    refine sq ?_
    refine rg 8000 ?_
    refine pr [1, 2, 4, 8, 9, 12, 68, 91] ?_
    refine k_block ?_
    refine k_loop (fun n l => ∃ i, i + n = kids.length ∧ (True) ∧ l = [(.tmp 1, .av (vv (.int .i64 d))), (.tmp 6, .av (vv (.bool (shL (kids.take i) (IntKind.i64.wrap (d - 1)) ((okE op col c kids.length), 1)).1))), (.tmp 7, .av (vv (.int .i64 (shL (kids.take i) (IntKind.i64.wrap (d - 1)) ((okE op col c kids.length), 1)).2))), (.tmp 68, .av (.p (.ps (kids.map E.row)))), (.tmp 69, .av (vv (.int .i64 kids.length))), (.tmp 70, .av (vv (.int .i64 i)))]) (kids.length) hG ⟨_, ⟨by simp [shL, hok], by simp, by simp⟩, 0, by simp, trivial, rfl⟩ ?_
    rintro n _ ⟨i, hin, hfa, rfl⟩
    refine sq ?_
    refine rg 9000 ?_
    refine pr [1, 2, 4, 8, 9, 12, 68, 91] ?_
    refine sq ?_
    refine cd ?_ ?_
    · intro h71_2
      have hlt : i < kids.length := by simpa using h71_2
      obtain ⟨x, hxe⟩ : ∃ x, kids[i] = x := ⟨_, rfl⟩
      have hx : kids[i]? = some x := by simp [hlt, hxe]
      have hw := wrap_succ (show i < Flat.lim by omega)
      have htk := shL_take (d := IntKind.i64.wrap (d - 1)) (s := (true, 1)) hx
      obtain ⟨xo, xc, xv, xk⟩ := x
      have hmem : E.mk xo xc xv xk ∈ kids := hxe ▸ List.getElem_mem hlt
      refine k_skip ?_
      refine sq ?_
      refine k_block ?_
      refine sq ?_
      refine rg 10000 ?_ (h := by simp [*, E.row_eq]; exact is_rfl _)
      refine pr [1, 2, 4, 8, 9, 12, 68, 91] ?_
      refine sq ?_
      refine rc 11000 ?_
      refine oc id ((show Flat.Sp Try.prog 206 [(E.mk xo xc xv xk).av, _] [] _ [] from ih _ hmem (IntKind.i64.wrap (d - 1)))) ?_
      refine oe 11100 ?_
      refine on ?_
      refine pr [1, 2, 4, 8, 9, 12, 68, 91] ?_
      refine sq ?_
      refine rc 12000 ?_
      first | refine gp 12050 ?_ | refine os ?_ | refine gt 12050 ?_
      refine oe 12100 ?_
      refine on ?_
      refine pr [1, 2, 4, 8, 9, 12, 68, 91] ?_
      refine rg 13000 ?_
      refine k_nil ?_
      show AK _ _ _ _ _ _
      refine rg 14000 ?_
      refine k_nil ?_
      refine ⟨n - 1, by omega, _, ⟨?_, ?_, ?_⟩, i + 1, by omega, trivial, rfl⟩ <;> simp [*]
    · intro h71_2
      have hge : kids.length ≤ i := by simpa using h71_2
      have hta : kids.take i = kids := List.take_of_length_le hge
      refine k_exit ?_
      show AK _ _ _ _ _ _
      refine sq ?_
      refine rg 15000 ?_
      refine pr [4, 6] ?_
      refine k_ret ?_
      show retQ _ _ _ _ _ _ _
      simp [*]

theorem spec206 : ∀ (e : E) (d : Int), Flat.Sp Try.prog 206 [e.av, vv (.int .i64 d)] [] (.tup [vv (.bool (shE e d).1), vv (.int .i64 (shE e d).2)]) [] :=
  E.ind fun op col c kids ih d => spec206_step op col c kids ih d

attribute [local simp] E.av in
theorem spec207_step (op col : Int) (c : Val) (kids : List E) (hk : kids.length ≤ Flat.lim) (m : Int) (ih : decide (1 < m) = true → ∀ x ∈ kids, Flat.Sp Try.prog 207 [x.av, vv (.int .i64 (IntKind.i64.wrap (m - 1)))] [] (vv (.int .i64 (dpE x (IntKind.i64.wrap (m - 1))))) []) : Flat.Sp Try.prog 207 [(E.mk op col c kids).av, vv (.int .i64 m)] [] (vv (.int .i64 (dpE (E.mk op col c kids) m))) [] := by
  refine sk Try.func207 ?_
  intro F G hn hG
  refine sq ?_
  refine rg 1000 ?_
  refine pr [1, 3, 4, 6, 7, 29] ?_
  refine sq ?_
  refine rg 2000 ?_
  refine pr [1, 3, 4, 6, 7, 29] ?_
  refine sq ?_
  refine sq ?_
  refine rg 3000 ?_
  refine pr [1, 3, 4, 6, 7, 9, 10, 29] ?_
  refine cd ?_ ?_
  · intro h10_1
    have hm : decide (1 < m) = true := h10_1
    have hfin : dpE (E.mk op col c kids) m = IntKind.i64.wrap ((dpL kids (IntKind.i64.wrap (m - 1)) 0) + 1) := by rw [dpE, if_pos hm]
    refine sq ?_
    refine rg 4000 ?_
    refine pr [1, 2, 4, 6, 7, 9, 12, 29] ?_
    refine k_block ?_
    refine k_loop (fun n l => ∃ i, i + n = kids.length ∧ (True) ∧ l = [(.tmp 1, .av (vv (.int .i64 m))), (.tmp 5, .av (vv (.int .i64 (dpL (kids.take i) (IntKind.i64.wrap (m - 1)) 0)))), (.tmp 12, .av (.p (.ps (kids.map E.row)))), (.tmp 13, .av (vv (.int .i64 kids.length))), (.tmp 14, .av (vv (.int .i64 i)))]) (kids.length) hG ⟨_, ⟨by simp [dpL], by simp, by simp⟩, 0, by simp, trivial, rfl⟩ ?_
    rintro n _ ⟨i, hin, hfa, rfl⟩
    refine sq ?_
    refine rg 5000 ?_
    refine pr [1, 2, 4, 6, 7, 9, 12, 29] ?_
    refine sq ?_
    refine cd ?_ ?_
    · intro h15_2
      have hlt : i < kids.length := by simpa using h15_2
      obtain ⟨x, hxe⟩ : ∃ x, kids[i] = x := ⟨_, rfl⟩
      have hx : kids[i]? = some x := by simp [hlt, hxe]
      have hw := wrap_succ (show i < Flat.lim by omega)
      have htk := dpL_take (m := IntKind.i64.wrap (m - 1)) (a := 0) hx
      obtain ⟨xo, xc, xv, xk⟩ := x
      have hmem : E.mk xo xc xv xk ∈ kids := hxe ▸ List.getElem_mem hlt
      refine k_skip ?_
      refine sq ?_
      refine k_block ?_
      refine sq ?_
      refine rg 6000 ?_ (h := by simp [*, E.row_eq]; exact is_rfl _)
      refine pr [1, 2, 4, 6, 7, 9, 12, 29] ?_
      refine sq ?_
      refine rc 7000 ?_
      refine oc id ((show Flat.Sp Try.prog 207 [(E.mk xo xc xv xk).av, _] [] _ [] from ih hm _ hmem)) ?_
      refine oe 7100 ?_
      refine on ?_
      refine pr [1, 2, 4, 6, 7, 9, 12, 29] ?_
      refine sq ?_
      refine rg 8000 ?_
      refine pr [1, 2, 4, 6, 7, 9, 12, 29] ?_
      refine cd ?_ ?_
      · intro h24_3
        have hnx : (dpL (kids.take (i + 1)) (IntKind.i64.wrap (m - 1)) 0) = dpE (E.mk xo xc xv xk) (IntKind.i64.wrap (m - 1)) := by rw [htk]; exact if_pos h24_3
        clear htk
        refine rg 9000 ?_
        refine k_nil ?_
        show AK _ _ _ _ _ _
        refine rg 10000 ?_
        refine k_nil ?_
        refine ⟨n - 1, by omega, _, ⟨?_, ?_, ?_⟩, i + 1, by omega, trivial, rfl⟩ <;> simp [*]
      · intro h24_3
        have hnx : (dpL (kids.take (i + 1)) (IntKind.i64.wrap (m - 1)) 0) = (dpL (kids.take i) (IntKind.i64.wrap (m - 1)) 0) := by rw [htk]; exact if_neg (by rw [h24_3]; decide)
        clear htk
        refine k_skip ?_
        refine k_nil ?_
        show AK _ _ _ _ _ _
        refine rg 10000 ?_
        refine k_nil ?_
        refine ⟨n - 1, by omega, _, ⟨?_, ?_, ?_⟩, i + 1, by omega, trivial, rfl⟩ <;> simp [*]
    · intro h15_2
      have hge : kids.length ≤ i := by simpa using h15_2
      have hta : kids.take i = kids := List.take_of_length_le hge
      refine k_exit ?_
      show AK _ _ _ _ _ _
      refine sq ?_
      refine rg 11000 ?_
      refine pr [4, 5] ?_
      refine k_ret ?_
      show retQ _ _ _ _ _ _ _
      simp [*]
  · intro h10_1
    have hm : decide (1 < m) = false := h10_1
    have hfin : dpE (E.mk op col c kids) m = IntKind.i64.wrap (0 + 1) := by rw [dpE, if_neg (by rw [hm]; decide)]
    refine k_skip ?_
    refine sq ?_
    refine rg 11000 ?_
    refine pr [4, 5] ?_
    refine k_ret ?_
    show retQ _ _ _ _ _ _ _
    simp [*]

end Go.Proofs
end
section
set_option linter.unusedVariables false
set_option linter.unusedSimpArgs false
namespace Go.Proofs
open Go.Flat
theorem w64_r (a b : Int) : IntKind.i64.wrap (a + IntKind.i64.wrap b) = IntKind.i64.wrap (a + b) := by simp only [w64]; omega
theorem w64_w (a : Int) : IntKind.i64.wrap (IntKind.i64.wrap a) = IntKind.i64.wrap a := by simp only [w64]; omega
theorem shL_eq {l : List E} {d : Int} (ih : ∀ x ∈ l, shE x d = (!wrg x (17 - d), IntKind.i64.wrap (cnt x (17 - d)))) : ∀ t : Bool × Int, IntKind.i64.wrap t.2 = t.2 → shL l d t = (t.1 && !wrgL l (17 - d), IntKind.i64.wrap (t.2 + cntL l (17 - d))) := by
  induction l with
  | nil => intro t ht; simp [shL, wrgL, cntL, ht]
  | cons x r hr =>
    intro t ht
    rw [shL, ih x (by simp), hr (fun y hy => ih y (by simp [hy])) _ (w64_w _)]
    simp only [wrgL, cntL, w64_r, w64_add, Bool.not_or, Bool.and_assoc, Int.add_assoc]
theorem shE_eq : ∀ (e : E) (d : Int), 0 ≤ d → d ≤ 16 → shE e d = (!wrg e (17 - d), IntKind.i64.wrap (cnt e (17 - d))) := by
  refine E.ind fun op col c kids ih d h0 h1 => ?_
  rw [shE, wrg, cnt]
  have hd : decide (17 - d > 16) = (d == 0) := by
    by_cases h : d = 0
    · simp [h]
    · have : ¬ (17 - d > 16) := by omega
      simp only [this, decide_false]
      symm
      simpa using h
  rw [hd, Bool.or_comm (d == 0)]
  split
  · simp only [Bool.not_not]; rfl
  · rename_i hc
    have hdn : d ≠ 0 := by
      intro h; subst h; simp at hc
    have hok : okE op col c kids.length = true := by
      cases h : okE op col c kids.length with
      | true => rfl
      | false => rw [h] at hc; simp at hc
    have e1 : IntKind.i64.wrap (d - 1) = d - 1 := w64_in (by omega) (by omega)
    have e2 : IntKind.i64.wrap (17 - d + 1) = 17 - (d - 1) := by rw [w64_in (by omega) (by omega)]; omega
    rw [e1, e2, shL_eq (fun x hx => ih x hx (d - 1) (by omega) (by omega)) _ rfl, hok]
    simp
theorem dep_le : ∀ (e : E) (d : Int), 1 ≤ d → d ≤ 17 → dep e d ≤ 17 := by
  refine E.ind fun op col c kids ih d h0 h1 => ?_
  rw [dep]
  split
  · exact h1
  · rename_i hc
    have hd : d ≤ 16 := by
      simp only [Bool.or_eq_true, decide_eq_true_eq, not_or] at hc
      omega
    rw [w64_in (by omega) (by omega)]
    have : ∀ l : List E, (∀ x ∈ l, dep x (d + 1) ≤ 17) → depL l (d + 1) ≤ 17 := by
      intro l
      induction l with
      | nil => intro _; simp [depL]
      | cons x r hr =>
        intro h
        rw [depL]
        have := h x (by simp)
        have := hr fun y hy => h y (by simp [hy])
        omega
    have := this kids fun x hx => ih x hx (d + 1) (by omega) (by omega)
    omega
theorem wrgL_mem : ∀ {l : List E} {d : Int}, wrgL l d = false → ∀ x ∈ l, wrg x d = false
  | [], _, _, x, hx => by simp at hx
  | y :: r, d, h, x, hx => by
    rw [wrgL, Bool.or_eq_false_iff] at h
    rcases List.mem_cons.1 hx with rfl | hx
    · exact h.1
    · exact wrgL_mem h.2 x hx
theorem dpL_eq {l : List E} {d : Int} (hd : 1 ≤ d) (ih : ∀ x ∈ l, dpE x (17 - d) = dep x (d + 1) - d) : ∀ a : Int, 0 ≤ a → dpL l (17 - d) a = max a (depL l (d + 1) - d) := by
  induction l with
  | nil => intro a h; rw [dpL, depL]; omega
  | cons x r hr =>
    intro a h
    rw [dpL, ih x (by simp), hr (fun y hy => ih y (by simp [hy])) _ (by split <;> simp_all <;> omega), depL]
    split <;> simp_all <;> omega
theorem wrg_ok {op col : Int} {c : Val} {kids : List E} {d : Int} (h : wrg (.mk op col c kids) d = false) : okE op col c kids.length = true ∧ (d ≤ 16 → wrgL kids (IntKind.i64.wrap (d + 1)) = false) := by
  rw [wrg] at h
  split at h
  · rename_i hc
    have hok : okE op col c kids.length = true := by simpa using h
    refine ⟨hok, fun hd => ?_⟩
    rw [hok] at hc
    simp at hc
    omega
  · rename_i hc
    refine ⟨?_, fun _ => h⟩
    cases hk : okE op col c kids.length with
    | true => rfl
    | false => rw [hk] at hc; simp at hc
theorem dpE_eq : ∀ (e : E) (d : Int), 1 ≤ d → d ≤ 17 → wrg e d = false → dpE e (18 - d) = dep e d - d + 1 := by
  refine E.ind fun op col c kids ih d h0 h1 hw => ?_
  obtain ⟨hok, hkw⟩ := wrg_ok hw
  rw [dpE, dep, hok]
  by_cases h : d ≤ 16
  · have e1 : IntKind.i64.wrap (18 - d - 1) = 17 - d := by rw [w64_in (by omega) (by omega)]; omega
    have e2 : IntKind.i64.wrap (d + 1) = d + 1 := w64_in (by omega) (by omega)
    have h2 : ¬ ((!true || decide (d > 16)) = true) := by simp; omega
    rw [if_neg h2, if_pos (by simp; omega), e1, e2]
    rw [e2] at hkw
    have hk := wrgL_mem (hkw h)
    have hdl : depL kids (d + 1) ≤ 17 := by
      have := dep_le (.mk op col c kids) d h0 h1
      rw [dep, hok, if_neg h2, e2] at this
      omega
    rw [dpL_eq h0 (fun x hx => by have := ih x hx (d + 1) (by omega) (by omega) (hk x hx); rw [show (18 : Int) - (d + 1) = 17 - d by omega] at this; omega) 0 (by omega), w64_in (by omega) (by omega)]
    omega
  · have hd : d = 17 := by omega
    subst hd
    simp
/-- The document's check. -/
def checkEr (e : E) : Int := if !(shE e 16).1 then 4 else if decide (64 < (shE e 16).2) || decide (16 < dpE e 17) then 2 else 0
theorem checkEr_eq (e : E) : checkEr e = checkE e := by
  have h2 := cnt_in e 1 (by omega) (by omega)
  rw [checkEr, shE_eq e 16 (by omega) (by omega), checkE_cases, show (17 : Int) - 16 = 1 by omega, w64_in (by omega) (by omega)]
  simp only [Bool.not_not]
  cases hw : wrg e 1 with
  | true => rfl
  | false =>
    have := dpE_eq e 1 (by omega) (by omega) hw
    rw [show (17 : Int) = 18 - 1 by omega, this]
    simp
end Go.Proofs
end
section
set_option linter.unusedVariables false
set_option linter.unusedSimpArgs false
namespace Go.Proofs
open Go.Flat
set_option maxRecDepth 100000
set_option linter.unusedSimpArgs false
set_option linter.unusedVariables false
attribute [local simp] Bool.and_assoc Bool.or_assoc evalG evalX efD skF guardG guardL isCall stepL evalOp ev evs lk tmpsL app AV.ok fresh vv putCells insV ins del putL place Go.Flat.look fillC fillR getCells loadF storeF binF scalarBin intBin strBin isShift shiftBin unF lenF maxF minF rowsF appendF builtinF idxF natOf sliceP sliceF optEv Flat.cut overwrite toPV toPVs constAV scalarC scalarCs AV.cells TI.isAgg allSome andAll scalarEq buildable Go.Flat.lim retQ resL resAll resOne PartOf noTmp closedIn refs refs.refsL isSomeV hasB ids leA leA.leL renA renA.renL callB refsAll backL dropIds renS LiesAt injB ownB freshB memN locId insAll leA_refl leL_refl okS frzS frzA frzA.frzL evalD feet fine updCells cellsFrom memP footRf footWf noTmpU updIds opOps opIds idsA footR footW guardTs opTs dstTs callR callW renLoc renC inBlockQ thenQ Value.oneCell' IntKind.bits IntKind.signed PV.up toPH toPHs

theorem spec207 : ∀ (e : E) (d : Int), 1 ≤ d → d ≤ 17 → wrg e d = false → Flat.Sp Try.prog 207 [e.av, vv (.int .i64 (18 - d))] [] (vv (.int .i64 (dpE e (18 - d)))) [] := by
  refine E.ind fun op col c kids ih d h0 h1 hw => ?_
  obtain ⟨hok, hk⟩ := wrg_ok hw
  refine spec207_step op col c kids (Nat.le_trans (okE_len hok) (by simp [Flat.lim])) (18 - d) fun hm x hx => ?_
  have hd : d ≤ 16 := by simp at hm; omega
  have e1 : IntKind.i64.wrap (18 - d - 1) = 18 - (d + 1) := by rw [w64_in (by omega) (by omega)]; omega
  have hk2 := hk hd
  rw [w64_in (by omega) (by omega)] at hk2
  rw [e1]
  exact ih x hx (d + 1) (by omega) (by omega) (wrgL_mem hk2 x hx)
theorem sh_wrg {e : E} (h : (shE e 16).1 = true) : wrg e 1 = false := by
  rw [shE_eq e 16 (by omega) (by omega)] at h
  simpa using h

attribute [local simp] E.av in
theorem spec196 (op col : Int) (c : Val) (kids : List E) : Flat.Sp Try.prog 196 [(E.mk op col c kids).av] [] (vv (.int .i64 (checkE (E.mk op col c kids)))) [] := by
  refine sk Try.func196 ?_
  intro F G hn hG
  refine sq ?_
  refine rg 1000 ?_
  refine pr [1, 21] ?_
  refine sq ?_
  refine rc 2000 ?_
  refine oc id ((show Flat.Sp Try.prog 206 [(E.mk op col c kids).av, vv (.int .i64 16)] [] _ [] from spec206 (E.mk op col c kids) 16)) ?_
  refine oe 2100 ?_
  refine on ?_
  refine pr [1, 5, 10, 21] ?_
  refine sq ?_
  refine k_block ?_
  refine sq ?_
  refine rg 3000 ?_
  refine pr [1, 3, 4, 5, 10, 11, 13, 21] ?_
  refine cd ?_ ?_
  · intro h10_1
    have hs1 : (shE (E.mk op col c kids) 16).1 = false := by simpa using h10_1
    have hfin : checkE (E.mk op col c kids) = 4 := by rw [← checkEr_eq, checkEr, hs1]; rfl
    refine sq ?_
    refine rg 4000 ?_
    refine pr [2, 3] ?_
    refine k_ret ?_
    show retQ _ _ _ _ _ _ _
    simp [*]
  · intro h10_1
    have hs1 : (shE (E.mk op col c kids) 16).1 = true := by simpa using h10_1
    have hfin0 : checkE (E.mk op col c kids) = if decide (64 < (shE (E.mk op col c kids) 16).2) || decide (16 < dpE (E.mk op col c kids) 17) then 2 else 0 := by rw [← checkEr_eq, checkEr, hs1]; rfl
    refine sq ?_
    refine cv [(.tmp 13, vv (.bool (decide (64 < (shE (E.mk op col c kids) 16).2) || decide (16 < dpE (E.mk op col c kids) 17))))] ?_ ?_
    · skip
      refine rc 5000 ?_
      first | refine gp 5050 ?_ | refine os ?_ | refine gt 5050 ?_
      refine og (fun hg => (show Flat.Sp Try.prog 207 [(E.mk op col c kids).av, vv (.int .i64 17)] [] (vv (.int .i64 (dpE (E.mk op col c kids) 17))) [] from spec207 (E.mk op col c kids) 1 (by omega) (by omega) (sh_wrg hs1))) ?_
      first | refine gp 5250 ?_ | refine os ?_ | refine gt 5250 ?_
      refine oe 5300 ?_
      refine on ?_
      refine k_nil ?_
      refine ⟨rfl, ?_, ?_, ?_⟩ <;> simp [*]
    refine pr [2, 3, 13, 14] ?_
    refine cd ?_ ?_
    · intro h13_2
      have hfin : checkE (E.mk op col c kids) = 2 := by rw [hfin0]; exact if_pos h13_2
      refine sq ?_
      refine rg 6000 ?_
      refine pr [2, 3] ?_
      refine k_ret ?_
      show retQ _ _ _ _ _ _ _
      simp [*]
    · intro h13_2
      have hfin : checkE (E.mk op col c kids) = 0 := by rw [hfin0]; exact if_neg (by rw [h13_2]; decide)
      refine k_skip ?_
      refine k_nil ?_
      show AK _ _ _ _ _ _
      refine sq ?_
      refine rg 7000 ?_
      refine pr [2, 3] ?_
      refine k_ret ?_
      show retQ _ _ _ _ _ _ _
      simp [*]

theorem ge1 (n : Int) : decide (1 ≤ n) = decide (0 < n) := by rw [decide_eq_decide]; omega
theorem spec205 (k nk : Int) : Flat.Sp Try.prog 205 [vv (.int .u8 k), vv (.int .i64 nk)] [] (vv (.bool (manyP k nk))) [] := by
  refine sk Try.func205 ?_
  intro F G hn hG
  refine sq ?_
  refine rg 1000 ?_
  refine pr [0, 2, 4, 22] ?_
  refine sq ?_
  refine sq ?_
  refine rg 2000 ?_
  refine pr [1, 2, 4, 22] ?_
  refine k_block ?_
  refine sq ?_
  refine sq ?_
  refine rg 3000 ?_
  refine pr [1, 2, 4, 7, 8, 22] ?_
  refine cd ?_ ?_
  · intro h6_1
    refine k_skip ?_
    refine ct ?_
    refine sq ?_
    refine rg 5000 ?_
    refine pr [1, 2, 4, 5, 20, 22] ?_
    refine k_ret ?_
    show retQ _ _ _ _ _ _ _
    simp [*, manyP, ge1]
  · intro h6_1
    refine rg 4000 ?_
    refine pr [1, 2, 4, 7, 9, 22] ?_
    refine cd ?_ ?_
    · intro h6_2
      refine sq ?_
      refine rg 5000 ?_
      refine pr [1, 2, 4, 5, 20, 22] ?_
      refine k_ret ?_
      show retQ _ _ _ _ _ _ _
      simp [*, manyP, ge1]
    · intro h6_2
      refine sq ?_
      refine sq ?_
      refine rg 6000 ?_
      refine pr [1, 2, 4, 6, 11, 12, 13, 22] ?_
      refine cd ?_ ?_
      · intro h11_3
        refine k_skip ?_
        refine ct ?_
        refine sq ?_
        refine rg 8000 ?_
        refine pr [1, 2, 4, 5, 20, 22] ?_
        refine k_ret ?_
        show retQ _ _ _ _ _ _ _
        simp [*, manyP, ge1]
      · intro h11_3
        refine rg 7000 ?_
        refine pr [1, 2, 4, 6, 11, 12, 14, 22] ?_
        refine cd ?_ ?_
        · intro h11_4
          refine sq ?_
          refine rg 8000 ?_
          refine pr [1, 2, 4, 5, 20, 22] ?_
          refine k_ret ?_
          show retQ _ _ _ _ _ _ _
          simp [*, manyP, ge1]
        · intro h11_4
          refine sq ?_
          refine rg 9000 ?_
          refine pr [1, 2, 4, 5, 16, 17, 18, 22] ?_
          refine cd ?_ ?_
          · intro h16_5
            refine sq ?_
            refine rg 10000 ?_
            refine pr [1, 2, 4, 5, 20, 22] ?_
            refine k_ret ?_
            show retQ _ _ _ _ _ _ _
            simp [*, manyP, ge1]
          · intro h16_5
            refine k_skip ?_
            refine k_nil ?_
            show AK _ _ _ _ _ _
            refine sq ?_
            refine rg 11000 ?_
            refine pr [4, 5] ?_
            refine k_ret ?_
            show retQ _ _ _ _ _ _ _
            simp [*, manyP, ge1]

def oneQ2 (k n : Int) (nk ne : Nat) : Bool := okP1 k nk && ((k == 1 || (k == 2 || (k == 8 || n == 0))) && (k == 3 || (k == 4 || (ne : Int) == 0)))
def oneQ3 (k n : Int) (nk ne nc nw : Nat) : Bool := oneQ2 k n nk ne && ((k == 7 || (k == 8 || (nc : Int) == 0)) && ((k == 7 || (nw : Int) == 0) && (k != 4 || (ne : Int) == 1)))
def oneQ4 (k n : Int) (nk ne nc nw : Nat) (agg : Int) : Bool := if k == 8 then oneQ3 k n nk ne nc nw && (decide (0 < agg) && (decide (agg < 6) && (agg != 1 || n == 0))) else oneQ3 k n nk ne nc nw && agg == 0
def oneQ (k n : Int) (nk ne nc nw : Nat) (agg rds : Int) : Bool := if k == 10 then oneQ4 k n nk ne nc nw agg && (decide (1 ≤ rds) && decide (rds ≤ 16)) else oneQ4 k n nk ne nc nw agg && rds == 0
theorem oneQ_eq (k n : Int) (nk : Nat) (ex : List E) (cols wth : List Int) (agg rds : Int) : oneQ k n nk ex.length cols.length wth.length agg rds = formedP k n nk ex cols wth agg rds := by
  rw [Bool.eq_iff_iff]
  have hk : k ≤ 0 ∨ k = 1 ∨ k = 2 ∨ k = 3 ∨ k = 4 ∨ k = 5 ∨ k = 6 ∨ k = 7 ∨ k = 8 ∨ k = 9 ∨ k = 10 ∨ 11 ≤ k := by omega
  rcases hk with hk | rfl | rfl | rfl | rfl | rfl | rfl | rfl | rfl | rfl | rfl | hk
  · have h1 : ¬ 0 < k := by omega
    have h2 : okP1 k nk = false := by simp [okP1, h1]
    simp [oneQ, oneQ4, oneQ3, oneQ2, formedP, okP2, h2]
  all_goals first
    | (simp [oneQ, oneQ4, oneQ3, oneQ2, formedP, okP2, okP1, manyP, bareN, bareE, bareC, bareW, bareA, bareR]; done)
    | (simp [oneQ, oneQ4, oneQ3, oneQ2, formedP, okP2, okP1, manyP, bareN, bareE, bareC, bareW, bareA, bareR]; constructor <;> intro h <;> simp_all; done)
    | (simp only [oneQ, oneQ4, oneQ3, oneQ2, formedP, okP2, okP1, manyP, bareN, bareE, bareC, bareW, bareA, bareR]; simp; omega)
    | (have h1 : ¬ k < 11 := by omega
       have h2 : okP1 k nk = false := by simp [okP1, h1]
       simp [oneQ, oneQ4, oneQ3, oneQ2, formedP, okP2, h2])

attribute [local simp] Pl.av in
set_option maxHeartbeats 2000000 in
theorem spec195o (k m : Int) (kids : List Pl) (ex : List E) (cols wth : List Int) (agg rds : Int) : Flat.Sp Try.prog 195 [(Pl.mk k m kids ex cols wth agg rds).av] [] (vv (.bool (oneQ k m kids.length ex.length cols.length wth.length agg rds))) [] := by
  refine sk Try.func195 ?_
  intro F G hn hG
  refine sq ?_
  refine rg 1000 ?_
  refine pr [1, 135] ?_
  refine sq ?_
  refine rg 2000 ?_
  refine pr [1, 6, 8, 135] ?_
  refine sq ?_
  refine rg 3000 ?_
  refine pr [1, 6, 10, 135] ?_
  refine sq ?_
  refine cv [(.tmp 5, vv (.bool (okP1 k kids.length)))] ?_ ?_
  · skip
    refine rc 4000 ?_ (h := by simp [*, okP1]; exact is_rfl _)
    iterate 2 (first | refine gp 4150 ?_ (he := by intro hgg; (try simp only [Bool.and_eq_true] at hgg); simp [*, okP1]; exact is_rfl _) | refine os ?_ | refine gt 4150 ?_ (he := by simp [*, okP1]; exact is_rfl _))
    refine oe 4200 ?_ (h := by simp [*, okP1]; exact is_rfl _)
    iterate 4 (first | refine gp 4550 ?_ (he := by intro hgg; (try simp only [Bool.and_eq_true] at hgg); simp [*, okP1]; exact is_rfl _) | refine os ?_ | refine gt 4550 ?_ (he := by simp [*, okP1]; exact is_rfl _))
    refine og (fun hg => spec205 k kids.length) ?_ (hf := by intro hgg; (try simp only [Bool.and_eq_true] at hgg); simp [*, okP1]; exact is_rfl _) (hx := by intro hgg; (try simp only [Bool.and_eq_true] at hgg); simp [*, okP1]; exact is_rfl _) (hargs := by intro hgg; (try simp only [Bool.and_eq_true] at hgg); simp [*, okP1]) (hd := by simp [*, okP1]; exact is_rfl _)
    refine oe 4700 ?_ (h := by simp [*, okP1]; exact is_rfl _)
    refine on ?_
    refine k_nil ?_
    refine ⟨rfl, ?_, ?_, ?_⟩ <;> simp [*, okP1]
  refine pr [1, 6, 23, 135] ?_
  refine sq ?_
  refine cv [(.tmp 5, vv (.bool (oneQ2 k m kids.length ex.length)))] ?_ ?_
  · skip
    refine rc 5000 ?_ (h := by simp [*, oneQ2]; exact is_rfl _)
    iterate 14 (first | refine gp 6350 ?_ (he := by intro hgg; (try simp only [Bool.and_eq_true] at hgg); simp [*, oneQ2]; exact is_rfl _) | refine os ?_ | refine gt 6350 ?_ (he := by simp [*, oneQ2]; exact is_rfl _))
    refine oe 6400 ?_ (h := by simp [*, oneQ2]; exact is_rfl _)
    iterate 12 (first | refine gp 7550 ?_ (he := by intro hgg; (try simp only [Bool.and_eq_true] at hgg); simp [*, oneQ2]; exact is_rfl _) | refine os ?_ | refine gt 7550 ?_ (he := by simp [*, oneQ2]; exact is_rfl _))
    refine oe 7600 ?_ (h := by simp [*, oneQ2]; exact is_rfl _)
    refine on ?_
    refine k_nil ?_
    refine ⟨rfl, ?_, ?_, ?_⟩ <;> simp [*, oneQ2]
  refine pr [1, 6, 54, 135] ?_
  refine sq ?_
  refine cv [(.tmp 5, vv (.bool (oneQ3 k m kids.length ex.length cols.length wth.length)))] ?_ ?_
  · skip
    refine rc 6000 ?_ (h := by simp [*, oneQ3]; exact is_rfl _)
    iterate 11 (first | refine gp 7050 ?_ (he := by intro hgg; (try simp only [Bool.and_eq_true] at hgg); simp [*, oneQ3]; exact is_rfl _) | refine os ?_ | refine gt 7050 ?_ (he := by simp [*, oneQ3]; exact is_rfl _))
    refine oe 7100 ?_ (h := by simp [*, oneQ3]; exact is_rfl _)
    iterate 8 (first | refine gp 7850 ?_ (he := by intro hgg; (try simp only [Bool.and_eq_true] at hgg); simp [*, oneQ3]; exact is_rfl _) | refine os ?_ | refine gt 7850 ?_ (he := by simp [*, oneQ3]; exact is_rfl _))
    refine oe 7900 ?_ (h := by simp [*, oneQ3]; exact is_rfl _)
    iterate 8 (first | refine gp 8650 ?_ (he := by intro hgg; (try simp only [Bool.and_eq_true] at hgg); simp [*, oneQ3]; exact is_rfl _) | refine os ?_ | refine gt 8650 ?_ (he := by simp [*, oneQ3]; exact is_rfl _))
    refine oe 8700 ?_ (h := by simp [*, oneQ3]; exact is_rfl _)
    refine on ?_
    refine k_nil ?_
    refine ⟨rfl, ?_, ?_, ?_⟩ <;> simp [*, oneQ3]
  refine pr [1, 6, 88, 135] ?_
  refine sq ?_
  refine sq ?_
  refine rg 7000 ?_
  refine pr [1, 4, 5, 6, 88, 135] ?_
  refine cd ?_ ?_
  · intro h88_1
    refine rc 8000 ?_
    iterate 3 (first | refine gp 8250 ?_ | refine os ?_ | refine gt 8250 ?_)
    refine oe 8300 ?_
    iterate 3 (first | refine gp 8550 ?_ | refine os ?_ | refine gt 8550 ?_)
    refine oe 8600 ?_
    iterate 8 (first | refine gp 9350 ?_ | refine os ?_ | refine gt 9350 ?_)
    refine oe 9400 ?_
    refine on ?_
    refine pr [1, 4, 5, 6, 116, 135] ?_
    refine sq ?_
    refine sq ?_
    refine rg 10000 ?_
    refine pr [1, 3, 5, 6, 117, 135] ?_
    refine cd ?_ ?_
    · intro h117_2
      refine sq ?_
      refine rc 11000 ?_
      iterate 3 (first | refine gp 11250 ?_ | refine os ?_ | refine gt 11250 ?_)
      refine oe 11300 ?_
      iterate 3 (first | refine gp 11550 ?_ | refine os ?_ | refine gt 11550 ?_)
      refine oe 11600 ?_
      refine on ?_
      refine pr [1, 3, 5, 6, 129, 135] ?_
      refine k_ret ?_
      show retQ _ _ _ _ _ _ _
      simp [*, oneQ, oneQ4]
    · intro h117_2
      refine k_skip ?_
      refine sq ?_
      refine rc 12000 ?_
      iterate 3 (first | refine gp 12250 ?_ | refine os ?_ | refine gt 12250 ?_)
      refine oe 12300 ?_
      refine on ?_
      refine pr [2, 3] ?_
      refine k_ret ?_
      show retQ _ _ _ _ _ _ _
      simp [*, oneQ, oneQ4]
  · intro h88_1
    refine rc 9000 ?_
    iterate 3 (first | refine gp 9250 ?_ | refine os ?_ | refine gt 9250 ?_)
    refine oe 9300 ?_
    refine on ?_
    refine pr [1, 4, 5, 6, 116, 135] ?_
    refine sq ?_
    refine sq ?_
    refine rg 10000 ?_
    refine pr [1, 3, 5, 6, 117, 135] ?_
    refine cd ?_ ?_
    · intro h117_3
      refine sq ?_
      refine rc 11000 ?_
      iterate 3 (first | refine gp 11250 ?_ | refine os ?_ | refine gt 11250 ?_)
      refine oe 11300 ?_
      iterate 3 (first | refine gp 11550 ?_ | refine os ?_ | refine gt 11550 ?_)
      refine oe 11600 ?_
      refine on ?_
      refine pr [1, 3, 5, 6, 129, 135] ?_
      refine k_ret ?_
      show retQ _ _ _ _ _ _ _
      simp [*, oneQ, oneQ4]
    · intro h117_3
      refine k_skip ?_
      refine sq ?_
      refine rc 12000 ?_
      iterate 3 (first | refine gp 12250 ?_ | refine os ?_ | refine gt 12250 ?_)
      refine oe 12300 ?_
      refine on ?_
      refine pr [2, 3] ?_
      refine k_ret ?_
      show retQ _ _ _ _ _ _ _
      simp [*, oneQ, oneQ4]

theorem spec195 (k m : Int) (kids : List Pl) (ex : List E) (cols wth : List Int) (agg rds : Int) : Flat.Sp Try.prog 195 [(Pl.mk k m kids ex cols wth agg rds).av] [] (vv (.bool (formedP k m kids.length ex cols wth agg rds))) [] := by
  rw [← oneQ_eq]; exact spec195o k m kids ex cols wth agg rds

abbrev Fm := Bool × Int × Bool
mutual
/-- Whether a plan is right as far as a depth goes, how many it is, whether an expression is too long. -/
def fmP : Pl → Int → Fm
  | .mk k n kids ex cols wth agg rds, d =>
    let r := exL ex (formedP k n kids.length ex cols wth agg rds, false)
    if d == 0 || !r.1 then (r.1, 1, r.2) else fmL kids (IntKind.i64.wrap (d - 1)) (r.1, 1, r.2)
def fmL : List Pl → Int → Fm → Fm
  | [], _, t => t
  | x :: r, d, t => fmL r d (t.1 && (fmP x d).1, IntKind.i64.wrap (t.2.1 + (fmP x d).2.1), t.2.2 || (fmP x d).2.2)
end
theorem fmL_append (d : Int) : ∀ (l r : List Pl) (s : Fm), fmL (l ++ r) d s = fmL r d (fmL l d s)
  | [], r, s => by simp [fmL]
  | e :: l, r, s => by simp only [List.cons_append, fmL, fmL_append d l r]
theorem fmL_take {kids : List Pl} {d : Int} {s : Fm} {i : Nat} {x : Pl} (h : kids[i]? = some x) : (fmL (kids.take (i + 1)) d s).1 = ((fmL (kids.take i) d s).1 && (fmP x d).1) ∧ (fmL (kids.take (i + 1)) d s).2.1 = IntKind.i64.wrap ((fmL (kids.take i) d s).2.1 + (fmP x d).2.1) ∧ (fmL (kids.take (i + 1)) d s).2.2 = ((fmL (kids.take i) d s).2.2 || (fmP x d).2.2) := by
  rw [List.take_add_one, h, fmL_append]
  simp [fmL]
mutual
def dpP : Pl → Int → Int
  | .mk _ _ kids _ _ _ _ _, m => IntKind.i64.wrap ((if decide (1 < m) then dpPL kids (IntKind.i64.wrap (m - 1)) 0 else 0) + 1)
def dpPL : List Pl → Int → Int → Int
  | [], _, a => a
  | e :: r, m, a => dpPL r m (if decide (a < dpP e m) then dpP e m else a)
end
theorem dpPL_append (m : Int) : ∀ (l r : List Pl) (a : Int), dpPL (l ++ r) m a = dpPL r m (dpPL l m a)
  | [], r, a => by simp [dpPL]
  | e :: l, r, a => by simp only [List.cons_append, dpPL, dpPL_append m l r]
theorem dpPL_take {kids : List Pl} {m : Int} {a : Int} {i : Nat} {x : Pl} (h : kids[i]? = some x) : dpPL (kids.take (i + 1)) m a = if decide (dpPL (kids.take i) m a < dpP x m) then dpP x m else dpPL (kids.take i) m a := by
  rw [List.take_add_one, h, dpPL_append]
  simp [dpPL]
mutual
def lpQ : Pl → Int
  | .mk k _ kids _ _ _ _ _ => lpQL kids k 0 0
def lpQL : List Pl → Int → Int → Int → Int
  | [], _, _, a => a
  | x :: r, k, i, a => lpQL r k (i + 1) (if decide (a < (if (k == 10) && (i == 1) then IntKind.i64.wrap (lpQ x + 1) else lpQ x)) then (if (k == 10) && (i == 1) then IntKind.i64.wrap (lpQ x + 1) else lpQ x) else a)
end
/-- An iterate's second kid counts for one more. -/
def lpI (x : Pl) (k i : Int) : Int := if (k == 10) && (i == 1) then IntKind.i64.wrap (lpQ x + 1) else lpQ x
theorem lpQL_append (k : Int) : ∀ (l r : List Pl) (i a : Int), lpQL (l ++ r) k i a = lpQL r k (i + l.length) (lpQL l k i a)
  | [], r, i, a => by simp [lpQL]
  | e :: l, r, i, a => by
    simp only [List.cons_append, lpQL, lpQL_append k l r, List.length_cons]
    congr 1
    omega
theorem lpQL_take {kids : List Pl} {k a : Int} {i : Nat} {x : Pl} (h : kids[i]? = some x) : lpQL (kids.take (i + 1)) k 0 a = if decide (lpQL (kids.take i) k 0 a < lpI x k i) then lpI x k i else lpQL (kids.take i) k 0 a := by
  have hi : i < kids.length := (List.getElem?_eq_some_iff.1 h).1
  have hm : min i kids.length = i := by omega
  rw [List.take_add_one, h, lpQL_append]
  simp only [Option.toList_some, lpQL, List.length_take, hm, Int.zero_add, lpI]
  rfl

attribute [local simp] Pl.av E.av in
theorem spec172_step (k m : Int) (kids : List Pl) (ex : List E) (cols wth : List Int) (agg rds : Int) (hk : kids.length ≤ Flat.lim) (he : ex.length ≤ Flat.lim) (ih : ∀ x ∈ kids, ∀ d, Flat.Sp Try.prog 172 [x.av, vv (.int .i64 d)] [] (.tup [vv (.bool (fmP x d).1), vv (.int .i64 (fmP x d).2.1), vv (.bool (fmP x d).2.2)]) []) (d : Int) : Flat.Sp Try.prog 172 [(Pl.mk k m kids ex cols wth agg rds).av, vv (.int .i64 d)] [] (.tup [vv (.bool (fmP (Pl.mk k m kids ex cols wth agg rds) d).1), vv (.int .i64 (fmP (Pl.mk k m kids ex cols wth agg rds) d).2.1), vv (.bool (fmP (Pl.mk k m kids ex cols wth agg rds) d).2.2)]) [] := by
  refine sk Try.func172 ?_
  intro F G hn hG
  refine sq ?_
  refine rg 1000 ?_
  refine pr [1, 3, 4, 7, 8, 10, 11, 76] ?_
  refine sq ?_
  refine rc 2000 ?_
  refine oc id (spec195 k m kids ex cols wth agg rds) ?_
  refine oe 2100 ?_
  refine on ?_
  refine pr [1, 3, 4, 7, 8, 10, 11, 15, 17, 76] ?_
  refine sq ?_
  refine rg 3000 ?_
  refine pr [1, 3, 4, 7, 8, 10, 11, 15, 17, 76] ?_
  refine sq ?_
  refine sq ?_
  refine rg 4000 ?_
  refine pr [1, 3, 4, 7, 8, 10, 11, 15, 18, 76] ?_
  refine k_block ?_
  refine k_loop (fun n l => ∃ i, i + n = ex.length ∧ (True) ∧ l = [(.tmp 1, .av (vv (.int .i64 d))), (.tmp 2, .av (.ptr 1000 0)), (.tmp 4, .av (vv (.bool (exL (ex.take i) ((formedP k m kids.length ex cols wth agg rds), false)).1))), (.tmp 5, .av (vv (.int .i64 1))), (.tmp 6, .av (vv (.bool (exL (ex.take i) ((formedP k m kids.length ex cols wth agg rds), false)).2))), (.tmp 18, .av (.p (.ps (ex.map E.row)))), (.tmp 19, .av (vv (.int .i64 ex.length))), (.tmp 20, .av (vv (.int .i64 i))), (.var 1000, .n 8), (.cell 1000 0, .av (vv (.int .u8 k))), (.cell 1000 1, .av (vv (.int .i64 m))), (.cell 1000 2, .av (.p (.ps (kids.map Pl.row)))), (.cell 1000 3, .av (.p (.ps (ex.map E.row)))), (.cell 1000 4, .av (.p (.ps (cols.map irow)))), (.cell 1000 5, .av (.p (.ps (wth.map irow)))), (.cell 1000 6, .av (vv (.int .u8 agg))), (.cell 1000 7, .av (vv (.int .i64 rds)))]) (ex.length) hG ⟨_, ⟨by simp [exL], by simp, by simp⟩, 0, by simp, trivial, rfl⟩ ?_
  rintro n _ ⟨i, hin, hfa, rfl⟩
  refine sq ?_
  refine rg 5000 ?_
  refine pr [1, 3, 4, 7, 8, 10, 11, 15, 18, 76] ?_
  refine sq ?_
  refine cd ?_ ?_
  · intro h21_1
    have hlt : i < ex.length := by simpa using h21_1
    obtain ⟨x, hxe⟩ : ∃ x, ex[i] = x := ⟨_, rfl⟩
    have hx : ex[i]? = some x := by simp [hlt, hxe]
    have hw := wrap_succ (show i < Flat.lim by omega)
    have htk := exL_take (r := ((formedP k m kids.length ex cols wth agg rds), false)) hx
    simp only [exF] at htk
    obtain ⟨eo, ec, ev, ek⟩ := x
    refine k_skip ?_
    refine sq ?_
    refine k_block ?_
    refine sq ?_
    refine rg 6000 ?_ (h := by simp [*, E.row_eq]; exact is_rfl _)
    refine pr [1, 3, 4, 7, 8, 10, 11, 15, 18, 76] ?_
    refine sq ?_
    refine rc 7000 ?_
    refine oc id (spec196 eo ec ev ek) ?_
    refine oe 7100 ?_
    refine on ?_
    refine pr [1, 3, 4, 7, 8, 10, 11, 15, 18, 76] ?_
    refine sq ?_
    refine rc 8000 ?_
    iterate 2 (first | refine gp 8150 ?_ | refine os ?_ | refine gt 8150 ?_)
    refine oe 8200 ?_
    refine on ?_
    refine pr [1, 3, 4, 7, 8, 10, 11, 15, 18, 76] ?_
    refine rc 9000 ?_
    iterate 2 (first | refine gp 9150 ?_ | refine os ?_ | refine gt 9150 ?_)
    refine oe 9200 ?_
    refine on ?_
    refine k_nil ?_
    show AK _ _ _ _ _ _
    refine rg 10000 ?_
    refine k_nil ?_
    refine ⟨n - 1, by omega, _, ⟨?_, ?_, ?_⟩, i + 1, by omega, trivial, rfl⟩ <;> simp [*]
  · intro h21_1
    have hge : ex.length ≤ i := by simpa using h21_1
    have hte : ex.take i = ex := List.take_of_length_le hge
    refine k_exit ?_
    show AK _ _ _ _ _ _
    refine sq ?_
    refine sq ?_
    refine rc 11000 ?_
    iterate 2 (first | refine gp 11150 ?_ | refine os ?_ | refine gt 11150 ?_)
    refine oe 11200 ?_
    refine on ?_
    refine pr [1, 3, 4, 7, 11, 15, 42, 76] ?_
    refine cd ?_ ?_
    · intro h42_2
      have h42_2 : (d == 0 || !(exL ex ((formedP k m kids.length ex cols wth agg rds), false)).1) = true := by simpa using h42_2
      have hfin : fmP (Pl.mk k m kids ex cols wth agg rds) d = ((exL ex ((formedP k m kids.length ex cols wth agg rds), false)).1, 1, (exL ex ((formedP k m kids.length ex cols wth agg rds), false)).2) := by rw [fmP]; exact if_pos h42_2
      refine sq ?_
      refine rg 12000 ?_
      refine pr [1, 3, 4, 7, 11, 15, 46, 76] ?_
      refine k_ret ?_
      show retQ _ _ _ _ _ _ _
      simp [*]
    · intro h42_2
      have h42_2 : (d == 0 || !(exL ex ((formedP k m kids.length ex cols wth agg rds), false)).1) = false := by simpa using h42_2
      have hfin : fmP (Pl.mk k m kids ex cols wth agg rds) d = (fmL kids (IntKind.i64.wrap (d - 1)) (((exL ex ((formedP k m kids.length ex cols wth agg rds), false)).1, 1, (exL ex ((formedP k m kids.length ex cols wth agg rds), false)).2) : Fm)) := by rw [fmP]; exact if_neg (by rw [h42_2]; decide)
      refine k_skip ?_
      refine sq ?_
      refine sq ?_
      refine rg 13000 ?_
      refine pr [1, 2, 4, 7, 11, 15, 47, 76] ?_
      refine k_block ?_
      refine k_loop (fun n l => ∃ j, j + n = kids.length ∧ (True) ∧ l = [(.tmp 1, .av (vv (.int .i64 d))), (.tmp 4, .av (vv (.bool (fmL (kids.take j) (IntKind.i64.wrap (d - 1)) (((exL ex ((formedP k m kids.length ex cols wth agg rds), false)).1, 1, (exL ex ((formedP k m kids.length ex cols wth agg rds), false)).2) : Fm)).1))), (.tmp 5, .av (vv (.int .i64 (fmL (kids.take j) (IntKind.i64.wrap (d - 1)) (((exL ex ((formedP k m kids.length ex cols wth agg rds), false)).1, 1, (exL ex ((formedP k m kids.length ex cols wth agg rds), false)).2) : Fm)).2.1))), (.tmp 6, .av (vv (.bool (fmL (kids.take j) (IntKind.i64.wrap (d - 1)) (((exL ex ((formedP k m kids.length ex cols wth agg rds), false)).1, 1, (exL ex ((formedP k m kids.length ex cols wth agg rds), false)).2) : Fm)).2.2))), (.tmp 47, .av (.p (.ps (kids.map Pl.row)))), (.tmp 48, .av (vv (.int .i64 kids.length))), (.tmp 49, .av (vv (.int .i64 j)))]) (kids.length) hG ⟨_, ⟨by simp [fmL], by simp, by simp⟩, 0, by simp, trivial, rfl⟩ ?_
      rintro n _ ⟨j, hin, hfa, rfl⟩
      refine sq ?_
      refine rg 14000 ?_
      refine pr [1, 2, 4, 7, 11, 15, 47, 76] ?_
      refine sq ?_
      refine cd ?_ ?_
      · intro h50_3
        have hlt : j < kids.length := by simpa using h50_3
        obtain ⟨x, hxe⟩ : ∃ x, kids[j] = x := ⟨_, rfl⟩
        have hx : kids[j]? = some x := by simp [hlt, hxe]
        have hw := wrap_succ (show j < Flat.lim by omega)
        have htk := fmL_take (d := IntKind.i64.wrap (d - 1)) (s := (((exL ex ((formedP k m kids.length ex cols wth agg rds), false)).1, 1, (exL ex ((formedP k m kids.length ex cols wth agg rds), false)).2) : Fm)) hx
        obtain ⟨xk, xn, xq, xe, xc, xw, xa, xr⟩ := x
        have hmem : Pl.mk xk xn xq xe xc xw xa xr ∈ kids := hxe ▸ List.getElem_mem hlt
        refine k_skip ?_
        refine sq ?_
        refine k_block ?_
        refine sq ?_
        refine rg 15000 ?_ (h := by simp [*, Pl.row_eq]; exact is_rfl _)
        refine pr [1, 2, 4, 7, 11, 15, 47, 76] ?_
        refine sq ?_
        refine rc 16000 ?_
        refine oc id ((show Flat.Sp Try.prog 172 [(Pl.mk xk xn xq xe xc xw xa xr).av, _] [] _ [] from ih _ hmem (IntKind.i64.wrap (d - 1)))) ?_
        refine oe 16100 ?_
        refine on ?_
        refine pr [1, 2, 4, 7, 11, 15, 47, 76] ?_
        refine sq ?_
        refine rc 17000 ?_
        first | refine gp 17050 ?_ | refine os ?_ | refine gt 17050 ?_
        refine oe 17100 ?_
        refine on ?_
        refine pr [1, 2, 4, 7, 11, 15, 47, 76] ?_
        refine sq ?_
        refine rg 18000 ?_
        refine pr [1, 2, 4, 7, 11, 15, 47, 76] ?_
        refine rc 19000 ?_
        first | refine gp 19050 ?_ | refine os ?_ | refine gt 19050 ?_
        refine oe 19100 ?_
        refine on ?_
        refine k_nil ?_
        show AK _ _ _ _ _ _
        refine rg 20000 ?_
        refine k_nil ?_
        refine ⟨n - 1, by omega, _, ⟨?_, ?_, ?_⟩, j + 1, by omega, trivial, rfl⟩ <;> simp [*]
      · intro h50_3
        have hge : kids.length ≤ j := by simpa using h50_3
        have hta : kids.take j = kids := List.take_of_length_le hge
        refine k_exit ?_
        show AK _ _ _ _ _ _
        refine sq ?_
        refine rg 21000 ?_
        refine pr [4, 7] ?_
        refine k_ret ?_
        show retQ _ _ _ _ _ _ _
        simp [*]

theorem spec172 : ∀ (p : Pl), p.bnd → ∀ d : Int, Flat.Sp Try.prog 172 [p.av, vv (.int .i64 d)] [] (.tup [vv (.bool (fmP p d).1), vv (.int .i64 (fmP p d).2.1), vv (.bool (fmP p d).2.2)]) [] := by
  refine Pl.ind fun k m kids ex cols wth agg rds ih hb d => ?_
  rw [Pl.bnd] at hb
  exact spec172_step k m kids ex cols wth agg rds (Bnd_lim hb.1) (Bnd_lim hb.2.1) (fun x hx => ih x hx (Pl.bndL_mem hb.2.2.2.2 x hx)) d

attribute [local simp] Pl.av in
theorem spec173_step (k m : Int) (kids : List Pl) (ex : List E) (cols wth : List Int) (agg rds : Int) (hk : kids.length ≤ Flat.lim) (m1 : Int) (ih : ∀ x ∈ kids, ∀ m1, Flat.Sp Try.prog 173 [x.av, vv (.int .i64 m1)] [] (vv (.int .i64 (dpP x m1))) []) : Flat.Sp Try.prog 173 [(Pl.mk k m kids ex cols wth agg rds).av, vv (.int .i64 m1)] [] (vv (.int .i64 (dpP (Pl.mk k m kids ex cols wth agg rds) m1))) [] := by
  refine sk Try.func173 ?_
  intro F G hn hG
  refine sq ?_
  refine rg 1000 ?_
  refine pr [1, 3, 4, 6, 7, 29] ?_
  refine sq ?_
  refine rg 2000 ?_
  refine pr [1, 3, 4, 6, 7, 29] ?_
  refine sq ?_
  refine sq ?_
  refine rg 3000 ?_
  refine pr [1, 3, 4, 6, 7, 9, 10, 29] ?_
  refine cd ?_ ?_
  · intro h10_1
    have hm : decide (1 < m1) = true := h10_1
    have hfin : dpP (Pl.mk k m kids ex cols wth agg rds) m1 = IntKind.i64.wrap ((dpPL kids (IntKind.i64.wrap (m1 - 1)) 0) + 1) := by rw [dpP, if_pos hm]
    refine sq ?_
    refine rg 4000 ?_
    refine pr [1, 2, 4, 6, 7, 9, 12, 29] ?_
    refine k_block ?_
    refine k_loop (fun n l => ∃ i, i + n = kids.length ∧ (True) ∧ l = [(.tmp 1, .av (vv (.int .i64 m1))), (.tmp 5, .av (vv (.int .i64 (dpPL (kids.take i) (IntKind.i64.wrap (m1 - 1)) 0)))), (.tmp 12, .av (.p (.ps (kids.map Pl.row)))), (.tmp 13, .av (vv (.int .i64 kids.length))), (.tmp 14, .av (vv (.int .i64 i)))]) (kids.length) hG ⟨_, ⟨by simp [dpPL], by simp, by simp⟩, 0, by simp, trivial, rfl⟩ ?_
    rintro n _ ⟨i, hin, hfa, rfl⟩
    refine sq ?_
    refine rg 5000 ?_
    refine pr [1, 2, 4, 6, 7, 9, 12, 29] ?_
    refine sq ?_
    refine cd ?_ ?_
    · intro h15_2
      have hlt : i < kids.length := by simpa using h15_2
      obtain ⟨x, hxe⟩ : ∃ x, kids[i] = x := ⟨_, rfl⟩
      have hx : kids[i]? = some x := by simp [hlt, hxe]
      have hw := wrap_succ (show i < Flat.lim by omega)
      have htk := dpPL_take (m := IntKind.i64.wrap (m1 - 1)) (a := 0) hx
      obtain ⟨xk, xn, xq, xe, xc, xw, xa, xr⟩ := x
      have hmem : (Pl.mk xk xn xq xe xc xw xa xr) ∈ kids := hxe ▸ List.getElem_mem hlt
      refine k_skip ?_
      refine sq ?_
      refine k_block ?_
      refine sq ?_
      refine rg 6000 ?_ (h := by simp [*, Pl.row_eq]; exact is_rfl _)
      refine pr [1, 2, 4, 6, 7, 9, 12, 29] ?_
      refine sq ?_
      refine rc 7000 ?_
      refine oc id ((show Flat.Sp Try.prog 173 [(Pl.mk xk xn xq xe xc xw xa xr).av, _] [] _ [] from ih _ hmem (IntKind.i64.wrap (m1 - 1)))) ?_
      refine oe 7100 ?_
      refine on ?_
      refine pr [1, 2, 4, 6, 7, 9, 12, 29] ?_
      refine sq ?_
      refine rg 8000 ?_
      refine pr [1, 2, 4, 6, 7, 9, 12, 29] ?_
      refine cd ?_ ?_
      · intro h24_3
        have hnx : (dpPL (kids.take (i + 1)) (IntKind.i64.wrap (m1 - 1)) 0) = dpP (Pl.mk xk xn xq xe xc xw xa xr) (IntKind.i64.wrap (m1 - 1)) := by rw [htk]; exact if_pos h24_3
        clear htk
        refine rg 9000 ?_
        refine k_nil ?_
        show AK _ _ _ _ _ _
        refine rg 10000 ?_
        refine k_nil ?_
        refine ⟨n - 1, by omega, _, ⟨?_, ?_, ?_⟩, i + 1, by omega, trivial, rfl⟩ <;> simp [*]
      · intro h24_3
        have hnx : (dpPL (kids.take (i + 1)) (IntKind.i64.wrap (m1 - 1)) 0) = (dpPL (kids.take i) (IntKind.i64.wrap (m1 - 1)) 0) := by rw [htk]; exact if_neg (by rw [h24_3]; decide)
        clear htk
        refine k_skip ?_
        refine k_nil ?_
        show AK _ _ _ _ _ _
        refine rg 10000 ?_
        refine k_nil ?_
        refine ⟨n - 1, by omega, _, ⟨?_, ?_, ?_⟩, i + 1, by omega, trivial, rfl⟩ <;> simp [*]
    · intro h15_2
      have hge : kids.length ≤ i := by simpa using h15_2
      have hta : kids.take i = kids := List.take_of_length_le hge
      refine k_exit ?_
      show AK _ _ _ _ _ _
      refine sq ?_
      refine rg 11000 ?_
      refine pr [4, 5] ?_
      refine k_ret ?_
      show retQ _ _ _ _ _ _ _
      simp [*]
  · intro h10_1
    have hm : decide (1 < m1) = false := h10_1
    have hfin : dpP (Pl.mk k m kids ex cols wth agg rds) m1 = IntKind.i64.wrap (0 + 1) := by rw [dpP, if_neg (by rw [hm]; decide)]
    refine k_skip ?_
    refine sq ?_
    refine rg 11000 ?_
    refine pr [4, 5] ?_
    refine k_ret ?_
    show retQ _ _ _ _ _ _ _
    simp [*]

theorem spec173 : ∀ (p : Pl), p.bnd → ∀ m : Int, Flat.Sp Try.prog 173 [p.av, vv (.int .i64 m)] [] (vv (.int .i64 (dpP p m))) [] := by
  refine Pl.ind fun k n kids ex cols wth agg rds ih hb m => ?_
  rw [Pl.bnd] at hb
  exact spec173_step k n kids ex cols wth agg rds (Bnd_lim hb.1) m fun x hx => ih x hx (Pl.bndL_mem hb.2.2.2.2 x hx)

attribute [local simp] Pl.av in
theorem spec174_step (k m : Int) (kids : List Pl) (ex : List E) (cols wth : List Int) (agg rds : Int) (hk : kids.length ≤ Flat.lim) (ih : ∀ x ∈ kids, Flat.Sp Try.prog 174 [x.av] [] (vv (.int .i64 (lpQ x))) []) : Flat.Sp Try.prog 174 [(Pl.mk k m kids ex cols wth agg rds).av] [] (vv (.int .i64 (lpQ (Pl.mk k m kids ex cols wth agg rds)))) [] := by
  refine sk Try.func174 ?_
  intro F G hn hG
  refine sq ?_
  refine rg 1000 ?_
  refine pr [1, 32] ?_
  refine sq ?_
  refine rg 2000 ?_
  refine pr [1, 32] ?_
  refine sq ?_
  refine sq ?_
  refine rg 3000 ?_
  refine pr [1, 7, 8, 32] ?_
  refine k_block ?_
  refine k_loop (fun n l => ∃ i, i + n = kids.length ∧ (True) ∧ l = [(.tmp 1, .av (.ptr 1000 0)), (.tmp 3, .av (vv (.int .i64 (lpQL (kids.take i) k 0 0)))), (.tmp 8, .av (.p (.ps (kids.map Pl.row)))), (.tmp 9, .av (vv (.int .i64 kids.length))), (.tmp 10, .av (vv (.int .i64 i))), (.var 1000, .n 8), (.cell 1000 0, .av (vv (.int .u8 k))), (.cell 1000 1, .av (vv (.int .i64 m))), (.cell 1000 2, .av (.p (.ps (kids.map Pl.row)))), (.cell 1000 3, .av (.p (.ps (ex.map E.row)))), (.cell 1000 4, .av (.p (.ps (cols.map irow)))), (.cell 1000 5, .av (.p (.ps (wth.map irow)))), (.cell 1000 6, .av (vv (.int .u8 agg))), (.cell 1000 7, .av (vv (.int .i64 rds)))]) (kids.length) hG ⟨_, ⟨by simp [lpQL], by simp, by simp⟩, 0, by simp, trivial, rfl⟩ ?_
  rintro n _ ⟨i, hin, hfa, rfl⟩
  refine sq ?_
  refine rg 4000 ?_
  refine pr [1, 7, 8, 32] ?_
  refine sq ?_
  refine cd ?_ ?_
  · intro h11_1
    have hlt : i < kids.length := by simpa using h11_1
    obtain ⟨x, hxe⟩ : ∃ x, kids[i] = x := ⟨_, rfl⟩
    have hx : kids[i]? = some x := by simp [hlt, hxe]
    have hw := wrap_succ (show i < Flat.lim by omega)
    have htk := lpQL_take (k := k) (a := 0) hx
    obtain ⟨xk, xn, xq, xe, xc, xw, xa, xr⟩ := x
    have hmem : (Pl.mk xk xn xq xe xc xw xa xr) ∈ kids := hxe ▸ List.getElem_mem hlt
    refine k_skip ?_
    refine sq ?_
    refine k_block ?_
    refine sq ?_
    refine rg 5000 ?_ (h := by simp [*, Pl.row_eq]; exact is_rfl _)
    refine pr [1, 7, 8, 32] ?_
    refine sq ?_
    refine rc 6000 ?_
    refine oc id ((show Flat.Sp Try.prog 174 [(Pl.mk xk xn xq xe xc xw xa xr).av] [] _ [] from ih _ hmem)) ?_
    refine oe 6100 ?_
    refine on ?_
    refine pr [1, 7, 8, 32] ?_
    refine sq ?_
    refine sq ?_
    refine rc 7000 ?_
    iterate 2 (first | refine gp 7150 ?_ | refine os ?_ | refine gt 7150 ?_)
    refine oe 7200 ?_
    refine on ?_
    refine pr [1, 7, 8, 32] ?_
    refine cd ?_ ?_
    · intro h23_2
      have hli : lpI (Pl.mk xk xn xq xe xc xw xa xr) k i = IntKind.i64.wrap (lpQ (Pl.mk xk xn xq xe xc xw xa xr) + 1) := if_pos (by simpa using h23_2)
      rw [hli] at htk
      refine rg 8000 ?_
      refine pr [1, 7, 8, 32] ?_
      refine sq ?_
      refine rg 9000 ?_
      refine pr [1, 7, 8, 32] ?_
      refine cd ?_ ?_
      · intro h28_3
        have hnx := htk.trans (if_pos h28_3)
        clear htk
        refine rg 10000 ?_
        refine k_nil ?_
        show AK _ _ _ _ _ _
        refine rg 11000 ?_
        refine k_nil ?_
        refine ⟨n - 1, by omega, _, ⟨?_, ?_, ?_⟩, i + 1, by omega, trivial, rfl⟩ <;> simp [*]
      · intro h28_3
        have hnx := htk.trans (if_neg (by rw [h28_3]; decide))
        clear htk
        refine k_skip ?_
        refine k_nil ?_
        show AK _ _ _ _ _ _
        refine rg 11000 ?_
        refine k_nil ?_
        refine ⟨n - 1, by omega, _, ⟨?_, ?_, ?_⟩, i + 1, by omega, trivial, rfl⟩ <;> simp [*]
    · intro h23_2
      have hli : lpI (Pl.mk xk xn xq xe xc xw xa xr) k i = lpQ (Pl.mk xk xn xq xe xc xw xa xr) := if_neg (by simpa using h23_2)
      rw [hli] at htk
      refine k_skip ?_
      refine sq ?_
      refine rg 9000 ?_
      refine pr [1, 7, 8, 32] ?_
      refine cd ?_ ?_
      · intro h28_4
        have hnx := htk.trans (if_pos h28_4)
        clear htk
        refine rg 10000 ?_
        refine k_nil ?_
        show AK _ _ _ _ _ _
        refine rg 11000 ?_
        refine k_nil ?_
        refine ⟨n - 1, by omega, _, ⟨?_, ?_, ?_⟩, i + 1, by omega, trivial, rfl⟩ <;> simp [*]
      · intro h28_4
        have hnx := htk.trans (if_neg (by rw [h28_4]; decide))
        clear htk
        refine k_skip ?_
        refine k_nil ?_
        show AK _ _ _ _ _ _
        refine rg 11000 ?_
        refine k_nil ?_
        refine ⟨n - 1, by omega, _, ⟨?_, ?_, ?_⟩, i + 1, by omega, trivial, rfl⟩ <;> simp [*]
  · intro h11_1
    have hge : kids.length ≤ i := by simpa using h11_1
    have hta : kids.take i = kids := List.take_of_length_le hge
    refine k_exit ?_
    show AK _ _ _ _ _ _
    refine sq ?_
    refine rg 12000 ?_
    refine pr [2, 3] ?_
    refine k_ret ?_
    show retQ _ _ _ _ _ _ _
    simp [*, lpQ]

theorem spec174 : ∀ (p : Pl), p.bnd → Flat.Sp Try.prog 174 [p.av] [] (vv (.int .i64 (lpQ p))) [] := by
  refine Pl.ind fun k n kids ex cols wth agg rds ih hb => ?_
  rw [Pl.bnd] at hb
  exact spec174_step k n kids ex cols wth agg rds (Bnd_lim hb.1) fun x hx => ih x hx (Pl.bndL_mem hb.2.2.2.2 x hx)

end Go.Proofs
end
section
set_option linter.unusedVariables false
set_option linter.unusedSimpArgs false
namespace Go.Proofs
open Go.Flat
set_option maxRecDepth 100000
set_option linter.unusedSimpArgs false
set_option linter.unusedVariables false
attribute [local simp] Bool.and_assoc Bool.or_assoc evalG evalX efD skF guardG guardL isCall stepL evalOp ev evs lk tmpsL app AV.ok fresh vv putCells insV ins del putL place Go.Flat.look fillC fillR getCells loadF storeF binF scalarBin intBin strBin isShift shiftBin unF lenF maxF minF rowsF appendF builtinF idxF natOf sliceP sliceF optEv Flat.cut overwrite toPV toPVs constAV scalarC scalarCs AV.cells TI.isAgg allSome andAll scalarEq buildable Go.Flat.lim retQ resL resAll resOne PartOf noTmp closedIn refs refs.refsL isSomeV hasB ids leA leA.leL renA renA.renL callB refsAll backL dropIds renS LiesAt injB ownB freshB memN locId insAll leA_refl leL_refl okS frzS frzA frzA.frzL evalD feet fine updCells cellsFrom memP footRf footWf noTmpU updIds opOps opIds idsA footR footW guardTs opTs dstTs callR callW renLoc renC inBlockQ thenQ Value.oneCell' IntKind.bits IntKind.signed PV.up toPH toPHs

attribute [local simp] Val.row trow tOf in
theorem spec214 (c : Val) : Flat.Sp Try.prog 214 [.p (.ps [c.row])] [] (.p (.ps [trow (tOf c)])) [] := by
  refine sk Try.func214 ?_
  intro F G hn hG
  refine sq ?_
  refine rg 1000 ?_
  refine pr [0, 1, 2, 4, 5, 22] ?_
  refine sq ?_
  refine rg 2000 ?_
  refine pr [0, 1, 2, 4, 5, 22] ?_
  refine sq ?_
  refine sq ?_
  refine rg 3000 ?_
  refine pr [2, 4, 5, 22] ?_
  refine k_block ?_
  refine k_rounds 2 ?_
  show AK _ _ _ _ _ _
  refine sq ?_
  refine rg 4000 ?_
  refine pr [2, 4, 5, 22] ?_
  refine sq ?_
  refine ct ?_
  refine k_skip ?_
  refine sq ?_
  refine k_block ?_
  refine sq ?_
  refine rg 5000 ?_
  refine pr [2, 4, 5, 22] ?_
  refine sq ?_
  refine rg 6000 ?_
  refine pr [2, 4, 5, 22] ?_
  refine cd ?_ ?_
  · intro h13_1
    refine rg 7000 ?_
    refine k_nil ?_
    show AK _ _ _ _ _ _
    refine rg 9000 ?_
    refine k_nil ?_
    show AK _ _ _ _ _ _
    refine sq ?_
    refine rg 1004000 ?_
    refine pr [2, 4, 5, 22] ?_
    refine sq ?_
    refine ce ?_
    refine k_exit ?_
    show AK _ _ _ _ _ _
    refine sq ?_
    first | refine fz 7002 ?_ | refine fz 8002 ?_
    refine rg 10000 ?_
    refine pr [2, 3] ?_
    refine k_ret ?_
    show retQ _ _ _ _ _ _ _
    simp [*]
  · intro h13_1
    refine rg 8000 ?_
    refine k_nil ?_
    show AK _ _ _ _ _ _
    refine rg 9000 ?_
    refine k_nil ?_
    show AK _ _ _ _ _ _
    refine sq ?_
    refine rg 1004000 ?_
    refine pr [2, 4, 5, 22] ?_
    refine sq ?_
    refine ce ?_
    refine k_exit ?_
    show AK _ _ _ _ _ _
    refine sq ?_
    first | refine fz 7002 ?_ | refine fz 8002 ?_
    refine rg 10000 ?_
    refine pr [2, 3] ?_
    refine k_ret ?_
    show retQ _ _ _ _ _ _ _
    simp [*]

def tyEnd (op : Int) (l : List Int) : Bool × Int := if op == 7 || op == 8 then (l.getD 0 0 == l.getD 1 0, 1) else if op == 12 then ((l.getD 0 0 == 1) && (l.getD 1 0 == l.getD 2 0), l.getD 1 0) else (l.all (· == 1), 1)
mutual
/-- A right expression's type, by the document. -/
def tyR (ts : List Int) : E → Int × Int
  | .mk op col c kids => if op == 1 then (if offN col ts.length then (0, 1) else (ts.getD col.toNat 0, 0)) else if op == 2 then (tOf c, 0) else
      if (tyL ts kids []).2 != 0 then (0, (tyL ts kids []).2) else if (tyEnd op (tyL ts kids []).1).1 then ((tyEnd op (tyL ts kids []).1).2, 0) else (0, 11)
def tyL (ts : List Int) : List E → List Int → List Int × Int
  | [], acc => (acc, 0)
  | e :: r, acc => if (tyR ts e).2 != 0 then (acc, (tyR ts e).2) else tyL ts r (acc ++ [(tyR ts e).1])
end
theorem tyL_drop {ts : List Int} {kids : List E} {acc : List Int} {i : Nat} {x : E} (h : kids[i]? = some x) : tyL ts (kids.drop i) acc = if (tyR ts x).2 != 0 then (acc, (tyR ts x).2) else tyL ts (kids.drop (i + 1)) (acc ++ [(tyR ts x).1]) := by
  obtain ⟨h1, h2⟩ := List.getElem?_eq_some_iff.1 h
  rw [List.drop_eq_getElem_cons h1, h2, tyL]
def all1 (l : List Int) : Bool := l.all (· == 1)
theorem all1_take {l : List Int} {i : Nat} {x : Int} (h : l[i]? = some x) : all1 (l.take (i + 1)) = (all1 (l.take i) && (x == 1)) := by
  simp [all1, List.take_add_one, h, List.all_append]
theorem len2 {l : List Int} (h : l.length = 2) : ∃ a b, l = [a, b] := by
  match l, h with | [a, b], _ => exact ⟨a, b, rfl⟩
theorem len3 {l : List Int} (h : l.length = 3) : ∃ a b c, l = [a, b, c] := by
  match l, h with | [a, b, c], _ => exact ⟨a, b, c, rfl⟩
theorem okE_kn {op col : Int} {c : Val} {nk : Nat} (h : okE op col c nk = true) : (nk : Int) = kidsOf op := by
  simp only [okE, okA, Bool.and_eq_true, beq_iff_eq] at h
  exact h.1.2.2
theorem offN_f {i : Int} {n : Nat} (h : offN i n = false) : ∃ k : Nat, i = k ∧ k < n := by
  simp only [offN, Bool.or_eq_false_iff, decide_eq_false_iff_not, Int.not_lt, Int.not_le] at h
  obtain ⟨k, rfl⟩ := Int.eq_ofNat_of_zero_le h.1
  exact ⟨k, rfl, by omega⟩

attribute [local simp] E.av in
set_option maxHeartbeats 2000000 in
theorem spec208_step (ts : List Int) (hts : ts.length ≤ Flat.lim) (op col : Int) (c : Val) (kids : List E) (hok : okE op col c kids.length = true) (ih : ∀ x ∈ kids, Flat.Sp Try.prog 208 [x.av, .p (.ps (ts.map trow))] [] (.tup [vv (.int .u8 (tyR ts x).1), vv (.int .i64 (tyR ts x).2)]) []) : Flat.Sp Try.prog 208 [(E.mk op col c kids).av, .p (.ps (ts.map trow))] [] (.tup [vv (.int .u8 (tyR ts (E.mk op col c kids)).1), vv (.int .i64 (tyR ts (E.mk op col c kids)).2)]) [] := by
  refine sk Try.func208 ?_
  intro F G hn hG
  have hk3 := okE_len hok
  refine sq ?_
  refine rg 1000 ?_
  refine pr [1, 3, 4, 7, 8, 13, 14, 108] ?_
  refine sq ?_
  refine sq ?_
  refine rg 2000 ?_
  refine pr [1, 3, 4, 7, 8, 13, 14, 15, 17, 108] ?_
  refine cd ?_ ?_
  · intro h17_1
    have hop1 := h17_1
    have hfin0 : tyR ts (E.mk op col c kids) = if offN col ts.length then (0, 1) else (ts.getD col.toNat 0, 0) := by rw [tyR, if_pos h17_1]
    refine sq ?_
    refine sq ?_
    refine cv [(.tmp 27, vv (.bool (offN col ts.length)))] ?_ ?_
    · skip
      refine rc 3000 ?_ (h := by simp [*, offN]; exact is_rfl _)
      iterate 5 (first | refine gp 3450 ?_ (he := by intro hgg; (try simp only [Bool.and_eq_true] at hgg); simp [*, offN]; exact is_rfl _) | refine os ?_ | refine gt 3450 ?_ (he := by simp [*, offN]; exact is_rfl _))
      refine oe 3500 ?_ (h := by simp [*, offN]; exact is_rfl _)
      refine on ?_
      refine k_nil ?_
      refine ⟨rfl, ?_, ?_, ?_⟩ <;> simp [*, offN]
    refine pr [1, 3, 4, 7, 8, 13, 14, 15, 27, 108] ?_
    refine cd ?_ ?_
    · intro h27_2
      have hfin : tyR ts (E.mk op col c kids) = (0, 1) := by rw [hfin0]; exact if_pos h27_2
      refine sq ?_
      refine rg 4000 ?_
      refine pr [1, 3, 4, 7, 8, 13, 14, 15, 28, 108] ?_
      refine k_ret ?_
      show retQ _ _ _ _ _ _ _
      simp [*]
    · intro h27_2
      obtain ⟨k, rfl, hlt⟩ := offN_f h27_2
      obtain ⟨t, hte⟩ : ∃ t, ts[k] = t := ⟨_, rfl⟩
      have hfin : tyR ts (E.mk op (k : Int) c kids) = (t, 0) := by rw [hfin0, if_neg (by rw [h27_2]; decide)]; simp [hlt, hte]
      refine k_skip ?_
      refine sq ?_
      refine rg 5000 ?_ (h := by simp [*, trow]; exact is_rfl _)
      refine pr [1, 3, 4, 7, 8, 13, 14, 15, 33, 108] ?_
      refine k_ret ?_
      show retQ _ _ _ _ _ _ _
      simp [*, trow]
  · intro h17_1
    have hop1 := h17_1
    have h1n : ¬ ((op == 1) = true) := by rw [h17_1]; decide
    refine k_skip ?_
    refine sq ?_
    refine sq ?_
    refine rg 6000 ?_
    refine pr [1, 3, 4, 7, 8, 13, 14, 15, 35, 108] ?_
    refine cd ?_ ?_
    · intro h35_3
      have hfin : tyR ts (E.mk op col c kids) = (tOf c, 0) := by rw [tyR, if_neg h1n, if_pos h35_3]
      refine sq ?_
      refine rc 7000 ?_
      refine oc id (spec214 c) ?_ (hg := by simp [*, Val.row]) (hf := by simp [*, Val.row]; exact is_rfl _) (hx := by simp [*, Val.row]; exact is_rfl _) (hargs := by simp [*, Val.row]) (hB := by simp [*, Val.row]) (hL := by simp [*, Val.row]) (hd := by simp [*, Val.row]; exact is_rfl _)
      refine oe 7100 ?_
      refine on ?_
      refine pr [1, 3, 4, 7, 8, 13, 14, 15, 42, 108] ?_
      refine k_ret ?_
      show retQ _ _ _ _ _ _ _
      simp [*]
    · intro h35_3
      have hop2 := h35_3
      have h2n : ¬ ((op == 2) = true) := by rw [h35_3]; decide
      refine k_skip ?_
      refine sq ?_
      refine rg 8000 ?_
      refine pr [1, 3, 4, 7, 8, 13, 14, 15, 42, 108] ?_
      refine sq ?_
      refine sq ?_
      refine rg 9000 ?_
      refine pr [1, 3, 4, 7, 8, 13, 14, 15, 43, 108] ?_
      refine k_block ?_
      refine ow (.tmp 6) 900 42 1 ?_
      refine k_loop (fun n l => ∃ (acc : List Int), acc.length + n = kids.length ∧ (tyL ts kids [] = tyL ts (kids.drop acc.length) acc) ∧ l = [(.tmp 1, .av (.p (.ps (ts.map trow)))), (.tmp 2, .av (.ptr 1000 0)), (.tmp 6, .av (.sl 900 acc.length 0 acc.length)), (.tmp 43, .av (.p (.ps (kids.map E.row)))), (.tmp 44, .av (vv (.int .i64 kids.length))), (.tmp 45, .av (vv (.int .i64 acc.length))), (.var 1000, .n 6), (.cell 1000 0, .av (vv (.int .u8 op))), (.cell 1000 1, .av (vv (.int .i64 col))), (.cell 1000 2, .av (vv (.bool c.t))), (.cell 1000 3, .av (vv (.int .i64 c.n))), (.cell 1000 4, .av (vv (.string c.s))), (.cell 1000 5, .av (.p (.ps (kids.map E.row)))), (.arr 900, .arr 42 1 (acc.map trow) 0)]) (kids.length) hG ⟨_, ⟨by simp, by simp, by simp⟩, [], by simp, rfl, rfl⟩ ?_
      rintro n _ ⟨acc, hin, hcm, rfl⟩
      refine sq ?_
      refine rg 10000 ?_
      refine pr [1, 3, 4, 7, 8, 13, 14, 15, 43, 108] ?_
      refine sq ?_
      refine cd ?_ ?_
      · intro h46_4
        have hlt : acc.length < kids.length := by simpa using h46_4
        obtain ⟨x, hxe⟩ : ∃ x, kids[acc.length] = x := ⟨_, rfl⟩
        have hx : kids[acc.length]? = some x := by simp [hlt, hxe]
        have hw := wrap_succ (show acc.length < Flat.lim by simp only [Flat.lim]; omega)
        have hlim1 : acc.length + 1 ≤ 140737488355328 := by omega
        rw [tyL_drop hx] at hcm
        obtain ⟨xo, xc, xv, xk⟩ := x
        have hmem : (E.mk xo xc xv xk) ∈ kids := hxe ▸ List.getElem_mem hlt
        refine k_skip ?_
        refine sq ?_
        refine k_block ?_
        refine sq ?_
        refine rg 11000 ?_ (h := by simp [*, E.row_eq]; exact is_rfl _)
        refine pr [1, 3, 4, 7, 8, 13, 14, 15, 43, 108] ?_
        refine sq ?_
        refine rc 12000 ?_
        refine oc id ((show Flat.Sp Try.prog 208 [(E.mk xo xc xv xk).av, .p (.ps (ts.map trow))] [] _ [] from ih _ hmem)) ?_
        refine oe 12100 ?_
        refine on ?_
        refine pr [1, 3, 4, 7, 8, 13, 14, 15, 43, 108] ?_
        refine sq ?_
        refine sq ?_
        refine rg 13000 ?_
        refine pr [1, 3, 4, 7, 8, 13, 14, 15, 43, 108] ?_
        refine cd ?_ ?_
        · intro h56_5
          rw [if_pos h56_5] at hcm
          have hfin : tyR ts (E.mk op col c kids) = (0, (tyR ts (E.mk xo xc xv xk)).2) := by rw [tyR, if_neg h1n, if_neg h2n, hcm, if_pos h56_5]
          clear hcm
          refine sq ?_
          refine rg 14000 ?_
          refine pr [1, 3, 4, 7, 8, 13, 14, 15, 43, 108] ?_
          refine k_ret ?_
          show retQ _ _ _ _ _ _ _
          simp [*]
        · intro h56_5
          rw [if_neg (by rw [h56_5]; decide)] at hcm
          have hnext := hcm
          clear hcm
          refine k_skip ?_
          refine rg 15000 ?_
          refine k_nil ?_
          show AK _ _ _ _ _ _
          refine rg 16000 ?_
          refine k_nil ?_
          refine ⟨n - 1, by omega, _, ⟨?_, ?_, ?_⟩, acc ++ [(tyR ts (E.mk xo xc xv xk)).1], by simp; omega, by simpa using hnext, rfl⟩ <;> simp [*, trow]
      · intro h46_4
        have hge : kids.length ≤ acc.length := by simpa using h46_4
        have hty : tyL ts kids [] = (acc, 0) := by rw [hcm, List.drop_eq_nil_of_le hge]; rfl
        have hfin0 : tyR ts (E.mk op col c kids) = if (tyEnd op acc).1 then ((tyEnd op acc).2, 0) else (0, 11) := by rw [tyR, if_neg h1n, if_neg h2n, hty]; rfl
        clear hcm hty
        have htf : (acc.map trow).take acc.length = acc.map trow := List.take_of_length_le (by simp)
        refine fz 900 ?_
        refine k_exit ?_
        show AK _ _ _ _ _ _
        refine sq ?_
        refine rg 17000 ?_
        refine pr [2, 3, 4, 7, 11, 13, 14, 15, 63, 108] ?_
        refine sq ?_
        refine rg 18000 ?_
        refine pr [2, 3, 4, 7, 11, 13, 14, 15, 63, 108] ?_
        refine sq ?_
        refine sq ?_
        refine rg 19000 ?_
        refine pr [4, 7, 11, 13, 14, 15, 64, 108] ?_
        refine k_block ?_
        refine sq ?_
        refine sq ?_
        refine rg 25000 ?_
        refine pr [4, 7, 11, 13, 14, 15, 64, 78, 79, 108] ?_
        refine cd ?_ ?_
        · intro h77_6
          have hop : op = 7 ∨ op = 8 := by have := h77_6; simp at this; omega
          obtain ⟨ta, tb, rfl⟩ := len2 (l := acc) (by have hkn := okE_kn hok; rcases hop with rfl | rfl <;> simp [kidsOf] at hkn <;> omega)
          have hte : tyEnd op [ta, tb] = (ta == tb, 1) := by rcases hop with rfl | rfl <;> rfl
          rw [hte] at hfin0
          refine k_skip ?_
          refine ct ?_
          refine dr ?_
          refine de 27000 ?_
          refine dn ?_
          refine k_nil ?_
          show AK _ _ _ _ _ _
          refine sq ?_
          refine sq ?_
          refine rg 31000 ?_
          refine pr [4, 6, 12, 13, 106, 108] ?_
          refine cd ?_ ?_
          · intro h106_7
            have hfin : tyR ts (E.mk op col c kids) = (0, 11) := by rw [hfin0]; exact if_neg (by have hh := h106_7; simp at hh; first | (simp [hh]; done) | (simp; omega))
            clear hfin0
            refine sq ?_
            refine rg 32000 ?_
            refine pr [4, 6, 12, 13, 107, 108] ?_
            refine k_ret ?_
            show retQ _ _ _ _ _ _ _
            simp [*]
          · intro h106_7
            have hfin := hfin0.trans (if_pos (by have hh := h106_7; simp at hh; first | (simp [hh]; done) | (simp; omega)))
            clear hfin0
            refine k_skip ?_
            refine sq ?_
            refine rg 33000 ?_
            refine pr [4, 6] ?_
            refine k_ret ?_
            show retQ _ _ _ _ _ _ _
            simp [*]
        · intro h77_6
          refine rg 26000 ?_
          refine pr [4, 7, 11, 13, 14, 15, 64, 78, 80, 108] ?_
          refine cd ?_ ?_
          · intro h77_8
            have hop : op = 7 ∨ op = 8 := by have := h77_8; simp at this; omega
            obtain ⟨ta, tb, rfl⟩ := len2 (l := acc) (by have hkn := okE_kn hok; rcases hop with rfl | rfl <;> simp [kidsOf] at hkn <;> omega)
            have hte : tyEnd op [ta, tb] = (ta == tb, 1) := by rcases hop with rfl | rfl <;> rfl
            rw [hte] at hfin0
            refine dr ?_
            refine de 27000 ?_
            refine dn ?_
            refine k_nil ?_
            show AK _ _ _ _ _ _
            refine sq ?_
            refine sq ?_
            refine rg 31000 ?_
            refine pr [4, 6, 12, 13, 106, 108] ?_
            refine cd ?_ ?_
            · intro h106_9
              have hfin : tyR ts (E.mk op col c kids) = (0, 11) := by rw [hfin0]; exact if_neg (by have hh := h106_9; simp at hh; first | (simp [hh]; done) | (simp; omega))
              clear hfin0
              refine sq ?_
              refine rg 32000 ?_
              refine pr [4, 6, 12, 13, 107, 108] ?_
              refine k_ret ?_
              show retQ _ _ _ _ _ _ _
              simp [*]
            · intro h106_9
              have hfin := hfin0.trans (if_pos (by have hh := h106_9; simp at hh; first | (simp [hh]; done) | (simp; omega)))
              clear hfin0
              refine k_skip ?_
              refine sq ?_
              refine rg 33000 ?_
              refine pr [4, 6] ?_
              refine k_ret ?_
              show retQ _ _ _ _ _ _ _
              simp [*]
          · intro h77_8
            refine sq ?_
            refine rg 28000 ?_
            refine pr [4, 7, 11, 13, 14, 15, 65, 77, 87, 88, 89, 108] ?_
            refine cd ?_ ?_
            · intro h87_10
              have hop12 : op = 12 := by simpa using h87_10
              obtain ⟨ta, tb, tc, rfl⟩ := len3 (l := acc) (by have hkn := okE_kn hok; rw [hop12] at hkn; simp [kidsOf] at hkn; omega)
              have hte : tyEnd op [ta, tb, tc] = ((ta == 1) && (tb == tc), tb) := by rw [hop12]; rfl
              clear hop12
              rw [hte] at hfin0
              refine sq ?_
              refine cv [(.tmp 11, vv (.bool ((ta == 1) && (tb == tc))))] ?_ ?_
              · skip
                rcases h0 : ((ta == 1) : Bool) with _ | _
                · skip
                  refine dr ?_
                  refine de 29000 ?_
                  iterate 7 (first | refine dp 29650 ?_ | refine ds ?_ | refine dt 29650 ?_)
                  refine de 29700 ?_
                  refine dn ?_
                  refine k_nil ?_
                  refine ⟨rfl, ?_, ?_, ?_⟩ <;> simp [*]
                · skip
                  refine dr ?_
                  refine de 1029000 ?_
                  iterate 7 (first | refine dp 1029650 ?_ | refine ds ?_ | refine dt 1029650 ?_)
                  refine de 1029700 ?_
                  refine dn ?_
                  refine k_nil ?_
                  refine ⟨rfl, ?_, ?_, ?_⟩ <;> simp [*]
              refine pr [4, 7, 11, 13, 102, 108] ?_
              refine rg 30000 ?_
              refine k_nil ?_
              show AK _ _ _ _ _ _
              refine sq ?_
              refine sq ?_
              refine rg 31000 ?_
              refine pr [4, 6, 12, 13, 106, 108] ?_
              refine cd ?_ ?_
              · intro h106_11
                have hfin : tyR ts (E.mk op col c kids) = (0, 11) := by rw [hfin0]; exact if_neg (by have hh := h106_11; simp at hh; first | (simp [hh]; done) | (simp; omega))
                clear hfin0
                refine sq ?_
                refine rg 32000 ?_
                refine pr [4, 6, 12, 13, 107, 108] ?_
                refine k_ret ?_
                show retQ _ _ _ _ _ _ _
                simp [*]
              · intro h106_11
                have hfin := hfin0.trans (if_pos (by have hh := h106_11; simp at hh; first | (simp [hh]; done) | (simp; omega)))
                clear hfin0
                refine k_skip ?_
                refine sq ?_
                refine rg 33000 ?_
                refine pr [4, 6] ?_
                refine k_ret ?_
                show retQ _ _ _ _ _ _ _
                simp [*]
            · intro h87_10
              have hte : tyEnd op acc = (all1 acc, 1) := by unfold tyEnd; rw [if_neg (by simp_all), if_neg (by rw [h87_10]; decide)]; rfl
              rw [hte] at hfin0
              have hal3 : acc.length ≤ Flat.lim := by simp only [Flat.lim]; omega
              refine sq ?_
              refine rg 20000 ?_
              refine pr [4, 6, 11, 13, 14, 15, 65, 77, 105, 108] ?_
              refine k_block ?_
              refine k_loop (fun n l => ∃ j, j + n = acc.length ∧ True ∧ l = [(.tmp 11, .av (vv (.bool (all1 (acc.take j))))), (.tmp 12, .av (vv (.int .u8 1))), (.tmp 65, .av (.p (.ps (acc.map trow)))), (.tmp 66, .av (vv (.int .i64 acc.length))), (.tmp 67, .av (vv (.int .i64 j)))]) (acc.length) hG ⟨_, ⟨by simp [all1], by simp, by simp [htf]⟩, 0, by simp, trivial, rfl⟩ ?_
              rintro n2 _ ⟨j, hin2, hfa2, rfl⟩
              refine sq ?_
              refine rg 21000 ?_
              refine pr [4, 6, 11, 13, 14, 15, 65, 77, 105, 108] ?_
              refine sq ?_
              refine cd ?_ ?_
              · intro h68_12
                have hlt : j < acc.length := by simpa using h68_12
                obtain ⟨y, hxe⟩ : ∃ y, acc[j] = y := ⟨_, rfl⟩
                have hx : acc[j]? = some y := by simp [hlt, hxe]
                have hw := wrap_succ (show j < Flat.lim by omega)
                have htk := all1_take hx
                refine k_skip ?_
                refine sq ?_
                refine k_block ?_
                refine sq ?_
                refine rg 22000 ?_ (h := by simp [*, trow]; exact is_rfl _)
                refine pr [4, 6, 11, 13, 14, 15, 65, 77, 105, 108] ?_
                refine rc 23000 ?_ (h := by simp [*, trow]; exact is_rfl _)
                iterate 2 (first | refine gp 23150 ?_ (he := by intro hgg; (try simp only [Bool.and_eq_true] at hgg); simp [*, trow]; exact is_rfl _) | refine os ?_ | refine gt 23150 ?_ (he := by simp [*, trow]; exact is_rfl _))
                refine oe 23200 ?_ (h := by simp [*, trow]; exact is_rfl _)
                refine on ?_
                refine k_nil ?_
                show AK _ _ _ _ _ _
                refine rg 24000 ?_ (h := by simp [*, trow]; exact is_rfl _)
                refine k_nil ?_
                refine ⟨n2 - 1, by omega, _, ⟨?_, ?_, ?_⟩, j + 1, by omega, trivial, rfl⟩ <;> simp [*]
              · intro h68_12
                have hge : acc.length ≤ j := by simpa using h68_12
                obtain rfl : j = acc.length := by omega
                have hta : acc.take acc.length = acc := List.take_length
                refine k_exit ?_
                show AK _ _ _ _ _ _
                refine k_nil ?_
                show AK _ _ _ _ _ _
                refine sq ?_
                refine sq ?_
                refine rg 31000 ?_
                refine pr [4, 6, 12, 13, 106, 108] ?_
                refine cd ?_ ?_
                · intro h106_13
                  have hfin : tyR ts (E.mk op col c kids) = (0, 11) := by rw [hfin0]; exact if_neg (by have hh := h106_13; simp at hh; first | (simp [hh]; done) | (simp; omega))
                  clear hfin0
                  refine sq ?_
                  refine rg 32000 ?_
                  refine pr [4, 6, 12, 13, 107, 108] ?_
                  refine k_ret ?_
                  show retQ _ _ _ _ _ _ _
                  simp [*]
                · intro h106_13
                  have hfin := hfin0.trans (if_pos (by have hh := h106_13; simp at hh; first | (simp [hh]; done) | (simp; omega)))
                  clear hfin0
                  refine k_skip ?_
                  refine sq ?_
                  refine rg 33000 ?_
                  refine pr [4, 6] ?_
                  refine k_ret ?_
                  show retQ _ _ _ _ _ _ _
                  simp [*]

theorem spec208 (ts : List Int) (hts : ts.length ≤ Flat.lim) : ∀ e : E, e.good → Flat.Sp Try.prog 208 [e.av, .p (.ps (ts.map trow))] [] (.tup [vv (.int .u8 (tyR ts e).1), vv (.int .i64 (tyR ts e).2)]) [] := by
  refine E.ind fun op col c kids ih hg => ?_
  rw [E.good] at hg
  exact spec208_step ts hts op col c kids hg.1 fun x hx => ih x hx (E.goodL_mem hg.2 x hx)
def infQ (ts : List Int) (e : E) : Int × Int := if checkE e != 0 then (0, checkE e) else tyR ts e

attribute [local simp] E.av in
theorem spec197 (ts : List Int) (hts : ts.length ≤ Flat.lim) (op col : Int) (c : Val) (kids : List E) : Flat.Sp Try.prog 197 [(E.mk op col c kids).av, .p (.ps (ts.map trow))] [] (.tup [vv (.int .u8 (infQ ts (E.mk op col c kids)).1), vv (.int .i64 (infQ ts (E.mk op col c kids)).2)]) [] := by
  refine sk Try.func197 ?_
  intro F G hn hG
  refine sq ?_
  refine rg 1000 ?_
  refine pr [1, 3, 4, 17] ?_
  refine sq ?_
  refine rc 2000 ?_
  refine oc id (spec196 op col c kids) ?_
  refine oe 2100 ?_
  refine on ?_
  refine pr [1, 3, 4, 7, 9, 17] ?_
  refine sq ?_
  refine sq ?_
  refine rg 3000 ?_
  refine pr [1, 3, 4, 7, 10, 17] ?_
  refine cd ?_ ?_
  · intro h10_1
    have hfin : infQ ts (E.mk op col c kids) = (0, checkE (E.mk op col c kids)) := if_pos h10_1
    refine sq ?_
    refine rg 4000 ?_
    refine pr [1, 3, 4, 6, 12, 17] ?_
    refine k_ret ?_
    show retQ _ _ _ _ _ _ _
    simp [*]
  · intro h10_1
    have hfin : infQ ts (E.mk op col c kids) = tyR ts (E.mk op col c kids) := if_neg (by rw [h10_1]; decide)
    have hgood := checkE_good (e := (E.mk op col c kids)) (by simpa using h10_1)
    refine k_skip ?_
    refine sq ?_
    refine rc 5000 ?_
    refine oc id ((show Flat.Sp Try.prog 208 [(E.mk op col c kids).av, .p (.ps (ts.map trow))] [] _ [] from spec208 ts hts (E.mk op col c kids) hgood)) ?_
    refine oe 5100 ?_
    refine on ?_
    refine pr [4, 6] ?_
    refine k_ret ?_
    show retQ _ _ _ _ _ _ _
    simp [*]

end Go.Proofs
end
section
set_option linter.unusedVariables false
set_option linter.unusedSimpArgs false
namespace Go.Proofs
open Go.Flat
theorem unl_stick {w y : Int} {b : Bool} (h : w ≠ 0) : unlessF w b y = w := by simp [unlessF, h]
theorem unl_fold {y : Int} : ∀ (l : List Int) {w : Int}, w ≠ 0 → l.foldl (fun w t => unlessF w (t == 1) y) w = w
  | [], w, _ => rfl
  | t :: r, w, h => by rw [List.foldl_cons, unl_stick h]; exact unl_fold r h
theorem judgeL_stick {ts : List Int} {l : List E} (ih : ∀ x ∈ l, ∀ w, w ≠ 0 → (judge ts x w).2 = w) : ∀ w, w ≠ 0 → (judgeL ts l w).2 = w := by
  induction l with
  | nil => intro w _; rfl
  | cons x r hr =>
    intro w h
    rw [judgeL]
    simp only
    rw [ih x (by simp) w h]
    exact hr (fun y hy => ih y (by simp [hy])) w h
theorem judge_stick (ts : List Int) : ∀ (e : E) (w : Int), w ≠ 0 → (judge ts e w).2 = w := by
  refine E.ind fun op col c kids ih w h => ?_
  rw [judge]
  split
  · simp only [unl_stick h]
    rw [if_pos (by simpa using h)]
  · split
    · rfl
    · simp only
      have hk := judgeL_stick ih w h
      split
      · simp only [hk, unl_stick h]
      · split
        · simp only [hk, unl_stick h]
        · simp only [hk, unl_fold _ h]
theorem all_fold : ∀ l : List Int, l.foldl (fun w t => unlessF w (t == 1) 11) 0 = if l.all (· == 1) then 0 else 11
  | [] => rfl
  | t :: r => by
    rw [List.foldl_cons, List.all_cons]
    cases h : t == 1 with
    | true => rw [show unlessF 0 true 11 = 0 from rfl, all_fold r]; simp
    | false => rw [show unlessF 0 false 11 = 11 from rfl, unl_fold r (by decide)]; simp
/-- What an expression comes to: nothing where it fails. -/
def nil0 (r : Int × Int) : Int × Int := if r.2 != 0 then (0, r.2) else (r.1, 0)
theorem nil0_z {a w : Int} (h : w ≠ 0) : nil0 (a, w) = (0, w) := by unfold nil0; rw [if_pos (by simpa using h)]
theorem tyL_judge {ts : List Int} {l : List E} (ih : ∀ x ∈ l, tyR ts x = nil0 (judge ts x 0)) : ∀ acc : List Int,
    ((judgeL ts l 0).2 = 0 → tyL ts l acc = (acc ++ (judgeL ts l 0).1, 0)) ∧ ((judgeL ts l 0).2 ≠ 0 → (tyL ts l acc).2 = (judgeL ts l 0).2) := by
  induction l with
  | nil => intro acc; simp [judgeL, tyL]
  | cons x r hr =>
    intro acc
    rw [judgeL, tyL, ih x (by simp)]
    simp only
    by_cases h : (judge ts x 0).2 = 0
    · have e1 : nil0 (judge ts x 0) = ((judge ts x 0).1, 0) := by unfold nil0; rw [if_neg (by simp [h])]
      obtain ⟨g1, g2⟩ := hr (fun y hy => ih y (by simp [hy])) (acc ++ [(judge ts x 0).1])
      rw [e1, h]
      simp only [bne_self_eq_false, Bool.false_eq_true, if_false]
      exact ⟨fun h2 => by rw [g1 h2]; simp, g2⟩
    · have e1 : nil0 (judge ts x 0) = (0, (judge ts x 0).2) := by unfold nil0; rw [if_pos (by simpa using h)]
      rw [e1, judgeL_stick (fun y _ => judge_stick ts y) _ h]
      simp only
      rw [if_pos (by simpa using h)]
      exact ⟨fun h2 => absurd h2 h, fun _ => rfl⟩
theorem tyR_judge (ts : List Int) : ∀ e : E, tyR ts e = nil0 (judge ts e 0) := by
  refine E.ind fun op col c kids ih => ?_
  rw [tyR, judge]
  by_cases h1 : (op == 1) = true
  · rw [if_pos h1, if_pos h1]
    have hoff : (decide (0 ≤ col) && decide (col < ts.length)) = !offN col ts.length := by
      rw [Bool.eq_iff_iff]; simp [offN]
    simp only [hoff]
    cases h : offN col ts.length with
    | true => rfl
    | false => rfl
  · rw [if_neg h1, if_neg h1]
    by_cases h2 : (op == 2) = true
    · rw [if_pos h2, if_pos h2]; rfl
    · rw [if_neg h2, if_neg h2]
      obtain ⟨g1, g2⟩ := tyL_judge ih []
      simp only
      by_cases hw : (judgeL ts kids 0).2 = 0
      · rw [g1 hw, hw]
        simp only [List.nil_append, bne_self_eq_false, Bool.false_eq_true, if_false]
        unfold tyEnd
        by_cases h7 : (op == 7 || op == 8) = true
        · rw [if_pos h7, if_pos h7]
          simp only [at3]
          cases (judgeL ts kids 0).1.getD 0 0 == (judgeL ts kids 0).1.getD 1 0 <;> rfl
        · rw [if_neg h7, if_neg h7]
          by_cases h12 : (op == 12) = true
          · rw [if_pos h12, if_pos h12]
            simp only [at3]
            cases (judgeL ts kids 0).1.getD 0 0 == 1 && (judgeL ts kids 0).1.getD 1 0 == (judgeL ts kids 0).1.getD 2 0 <;> rfl
          · rw [if_neg h12, if_neg h12]
            simp only [all_fold]
            cases (judgeL ts kids 0).1.all (· == 1) <;> rfl
      · rw [if_pos (by rw [g2 hw]; simpa using hw), g2 hw]
        symm
        split
        · rw [unl_stick hw, nil0_z hw]
        · split
          · rw [unl_stick hw, nil0_z hw]
          · rw [unl_fold _ hw, nil0_z hw]
theorem infQ_eq (ts : List Int) (e : E) : infQ ts e = inferE ts e := by
  unfold infQ inferE
  rw [tyR_judge]
  rfl
end Go.Proofs
end
section
set_option linter.unusedVariables false
set_option linter.unusedSimpArgs false
namespace Go.Proofs
open Go.Flat
set_option maxRecDepth 100000
set_option linter.unusedSimpArgs false
set_option linter.unusedVariables false
attribute [local simp] Bool.and_assoc Bool.or_assoc evalG evalX efD skF guardG guardL isCall stepL evalOp ev evs lk tmpsL app AV.ok fresh vv putCells insV ins del putL place Go.Flat.look fillC fillR getCells loadF storeF binF scalarBin intBin strBin isShift shiftBin unF lenF maxF minF rowsF appendF builtinF idxF natOf sliceP sliceF optEv Flat.cut overwrite toPV toPVs constAV scalarC scalarCs AV.cells TI.isAgg allSome andAll scalarEq buildable Go.Flat.lim retQ resL resAll resOne PartOf noTmp closedIn refs refs.refsL isSomeV hasB ids leA leA.leL renA renA.renL callB refsAll backL dropIds renS LiesAt injB ownB freshB memN locId insAll leA_refl leL_refl okS frzS frzA frzA.frzL evalD feet fine updCells cellsFrom memP footRf footWf noTmpU updIds opOps opIds idsA footR footW guardTs opTs dstTs callR callW renLoc renC inBlockQ thenQ Value.oneCell' IntKind.bits IntKind.signed PV.up toPH toPHs

attribute [local simp] Pl.row_eq Pl.av
def atB (ts : List Int) (c : Int) : Bool := offN c ts.length
def atV (ts : List Int) (c : Int) : Int := ts.getD c.toNat 0
/-- The types at places; none if one is none. -/
def atQ (ts cols : List Int) : List Int × Bool := if cols.any (atB ts) then ([], false) else (cols.map (atV ts), true)
def tAt (ts : List Int) (c : Int) : List PV := trow (atV ts c)
theorem map_tAt (ts cols : List Int) : (cols.map (atV ts)).map trow = cols.map (tAt ts) := by rw [List.map_map]; rfl
theorem any_take {α : Type} {p : α → Bool} {l : List α} {i : Nat} {x : α} (h : l[i]? = some x) : (l.take (i + 1)).any p = ((l.take i).any p || p x) := by
  rw [List.take_add_one, h, List.any_append]; simp
theorem any_of {α : Type} {p : α → Bool} {l : List α} {x : α} {i : Nat} (h : l[i]? = some x) (hp : p x = true) : l.any p = true := List.any_eq_true.2 ⟨x, List.mem_of_getElem? h, hp⟩
theorem atQ_one {ts : List Int} {m : Int} (h : (atQ ts [m]).2 = true) : (atQ ts [m]).1 = [atV ts m] := by
  unfold atQ at h ⊢
  split at h
  · simp at h
  · rename_i hh; rw [if_neg hh]; rfl
theorem atQ_len (ts cols : List Int) : (atQ ts cols).1.length ≤ cols.length := by
  unfold atQ; split <;> simp

attribute [local simp] irow in
theorem spec198 (ts cols : List Int) (hc : cols.length ≤ Bnd) : Flat.Sp Try.prog 198 [.p (.ps (ts.map trow)), .p (.ps (cols.map irow))] [] (.tup [.sl 900 (atQ ts cols).1.length 0 (atQ ts cols).1.length, vv (.bool (atQ ts cols).2)]) [(.arr 900, .arr 42 1 ((atQ ts cols).1.map trow) 0)] := by
  refine sk Try.func198 ?_
  intro F G hn hG
  have hcl := Bnd_lim hc
  simp only [Bnd] at hc
  refine sq ?_
  refine rg 1000 ?_
  refine pr [0, 2, 4, 7, 8, 32] ?_
  refine sq ?_
  refine rg 2000 ?_
  refine pr [0, 2, 4, 7, 8, 32] ?_
  refine sq ?_
  refine sq ?_
  refine rg 3000 ?_
  refine pr [0, 1, 4, 7, 8, 32] ?_
  refine k_block ?_
  refine ow (.tmp 6) 900 42 1 ?_
  refine k_loop (fun n l => ∃ i, i + n = cols.length ∧ ((cols.take i).any (atB ts) = false) ∧ l = [(.tmp 0, .av (.p (.ps (ts.map trow)))), (.tmp 6, .av (.sl 900 i 0 i)), (.tmp 9, .av (.p (.ps (cols.map irow)))), (.tmp 10, .av (vv (.int .i64 cols.length))), (.tmp 11, .av (vv (.int .i64 i))), (.arr 900, .arr 42 1 ((cols.map (tAt ts)).take i) 0)]) (cols.length) hG ⟨_, ⟨by simp, by simp, by simp⟩, 0, by simp, rfl, rfl⟩ ?_
  rintro n _ ⟨i, hin, hfa, rfl⟩
  have hcm := hfa
  clear hfa
  refine sq ?_
  refine rg 4000 ?_
  refine pr [0, 1, 4, 7, 8, 32] ?_
  refine sq ?_
  refine cd ?_ ?_
  · intro h12_1
    have hlt : i < cols.length := by simpa using h12_1
    obtain ⟨x, hxe⟩ : ∃ x, cols[i] = x := ⟨_, rfl⟩
    have hx : cols[i]? = some x := by simp [hlt, hxe]
    have hw := wrap_succ (show i < Flat.lim by omega)
    have hmin : min i cols.length = i := by omega
    have hlim : (i + 1) * 8 ≤ 140737488355328 := by simp only [Flat.lim] at *; omega
    have hlim1 : i + 1 ≤ 140737488355328 := by simp only [Flat.lim] at *; omega
    have htm0 := tmap_succ (f := (tAt ts)) hx
    have hany := any_take (p := atB ts) hx
    refine k_skip ?_
    refine sq ?_
    refine k_block ?_
    refine sq ?_
    refine rg 5000 ?_
    refine pr [0, 1, 4, 7, 8, 32] ?_
    refine sq ?_
    refine sq ?_
    refine cv [(.tmp 22, vv (.bool (offN x ts.length)))] ?_ ?_
    · skip
      refine rc 6000 ?_ (h := by simp [*, offN]; exact is_rfl _)
      iterate 4 (first | refine gp 6350 ?_ (he := by intro hgg; (try simp only [Bool.and_eq_true] at hgg); simp [*, offN]; exact is_rfl _) | refine os ?_ | refine gt 6350 ?_ (he := by simp [*, offN]; exact is_rfl _))
      refine oe 6400 ?_ (h := by simp [*, offN]; exact is_rfl _)
      refine on ?_
      refine k_nil ?_
      refine ⟨rfl, ?_, ?_, ?_⟩ <;> simp [*, offN]
    refine pr [0, 1, 4, 7, 8, 32] ?_
    refine cd ?_ ?_
    · intro h22_2
      have hfin : atQ ts cols = ([], false) := if_pos (any_of hx h22_2)
      refine sq ?_
      refine rg 7000 ?_
      refine pr [0, 1, 4, 7, 8, 32] ?_
      refine fz 900 ?_
      refine ow (.tmp 4) 900 42 1 ?_
      refine k_ret ?_
      show retQ _ _ _ _ _ _ _
      simp [*]
    · intro h22_2
      have hnext : (cols.take (i + 1)).any (atB ts) = false := by rw [hany, hcm]; exact h22_2
      obtain ⟨k, rfl, hlk⟩ := offN_f h22_2
      obtain ⟨t, hte⟩ : ∃ t, ts[k] = t := ⟨_, rfl⟩
      have hat : tAt ts (k : Int) = [.v (.int .u8 t)] := by simp [tAt, atV, trow, hlk, hte]
      clear hany
      refine k_skip ?_
      refine rg 8000 ?_ (h := by simp [*, trow]; exact is_rfl _)
      refine k_nil ?_
      show AK _ _ _ _ _ _
      refine rg 9000 ?_ (h := by simp [*, trow]; exact is_rfl _)
      refine k_nil ?_
      refine ⟨n - 1, by omega, _, ⟨?_, ?_, ?_⟩, i + 1, by omega, hnext, rfl⟩ <;> simp [*]
  · intro h12_1
    have hge : cols.length ≤ i := by simpa using h12_1
    obtain rfl : i = cols.length := by omega
    have htm0 := tmap_all (f := (tAt ts)) (Nat.le_refl cols.length)
    have hfin : atQ ts cols = (cols.map (atV ts), true) := by unfold atQ; rw [if_neg (by rw [List.take_length] at hcm; rw [hcm]; decide)]
    have hmt := map_tAt ts cols
    refine k_exit ?_
    show AK _ _ _ _ _ _
    refine sq ?_
    refine rg 10000 ?_
    refine pr [4, 6] ?_
    refine k_ret ?_
    show retQ _ _ _ _ _ _ _
    simp [*]

/-- The types of some expressions. -/
def exQ (ts : List Int) : List E → List Int → List Int × Int
  | [], acc => (acc, 0)
  | e :: r, acc => if (infQ ts e).2 != 0 then ([], (infQ ts e).2) else exQ ts r (acc ++ [(infQ ts e).1])
theorem exQ_drop {ts : List Int} {kids : List E} {acc : List Int} {i : Nat} {x : E} (h : kids[i]? = some x) : exQ ts (kids.drop i) acc = if (infQ ts x).2 != 0 then ([], (infQ ts x).2) else exQ ts (kids.drop (i + 1)) (acc ++ [(infQ ts x).1]) := by
  obtain ⟨h1, h2⟩ := List.getElem?_eq_some_iff.1 h
  rw [List.drop_eq_getElem_cons h1, h2, exQ]

attribute [local simp] E.av in
theorem spec175 (ts : List Int) (hts : ts.length ≤ Flat.lim) (ex : List E) (he : ex.length ≤ Bnd) : Flat.Sp Try.prog 175 [.p (.ps (ex.map E.row)), .p (.ps (ts.map trow))] [] (.tup [.p (.ps ((exQ ts ex []).1.map trow)), vv (.int .i64 (exQ ts ex []).2)]) [] := by
  refine sk Try.func175 ?_
  intro F G hn hG
  have hel := Bnd_lim he
  simp only [Bnd] at he
  refine sq ?_
  refine rg 1000 ?_
  refine pr [0, 2, 4, 7, 8, 32] ?_
  refine sq ?_
  refine rg 2000 ?_
  refine pr [0, 2, 4, 7, 8, 32] ?_
  refine sq ?_
  refine sq ?_
  refine rg 3000 ?_
  refine pr [1, 2, 4, 7, 8, 32] ?_
  refine k_block ?_
  refine ow (.tmp 6) 900 42 1 ?_
  refine k_loop (fun n l => ∃ (acc : List Int), acc.length + n = ex.length ∧ (exQ ts ex [] = exQ ts (ex.drop acc.length) acc) ∧ l = [(.tmp 1, .av (.p (.ps (ts.map trow)))), (.tmp 6, .av (.sl 900 acc.length 0 acc.length)), (.tmp 11, .av (.p (.ps (ex.map E.row)))), (.tmp 12, .av (vv (.int .i64 ex.length))), (.tmp 13, .av (vv (.int .i64 acc.length))), (.arr 900, .arr 42 1 (acc.map trow) 0)]) (ex.length) hG ⟨_, ⟨by simp, by simp, by simp⟩, [], by simp, rfl, rfl⟩ ?_
  rintro n _ ⟨acc, hin, hcm, rfl⟩
  refine sq ?_
  refine rg 4000 ?_
  refine pr [1, 2, 4, 7, 8, 32] ?_
  refine sq ?_
  refine cd ?_ ?_
  · intro h14_1
    have hlt : acc.length < ex.length := by simpa using h14_1
    obtain ⟨x, hxe⟩ : ∃ x, ex[acc.length] = x := ⟨_, rfl⟩
    have hx : ex[acc.length]? = some x := by simp [hlt, hxe]
    have hw := wrap_succ (show acc.length < Flat.lim by omega)
    have hlim1 : acc.length + 1 ≤ 140737488355328 := by omega
    rw [exQ_drop hx] at hcm
    obtain ⟨xo, xc, xv, xk⟩ := x
    refine k_skip ?_
    refine sq ?_
    refine k_block ?_
    refine sq ?_
    refine rg 5000 ?_ (h := by simp [*, E.row_eq]; exact is_rfl _)
    refine pr [1, 2, 4, 7, 8, 32] ?_
    refine sq ?_
    refine rc 6000 ?_
    refine oc id ((show Flat.Sp Try.prog 197 [(E.mk xo xc xv xk).av, .p (.ps (ts.map trow))] [] _ [] from spec197 ts hts xo xc xv xk)) ?_
    refine oe 6100 ?_
    refine on ?_
    refine pr [1, 2, 4, 7, 8, 32] ?_
    refine sq ?_
    refine sq ?_
    refine rg 7000 ?_
    refine pr [1, 2, 4, 7, 8, 32] ?_
    refine cd ?_ ?_
    · intro h24_2
      rw [if_pos h24_2] at hcm
      have hfin : exQ ts ex [] = ([], (infQ ts (E.mk xo xc xv xk)).2) := hcm
      clear hcm
      refine sq ?_
      refine rg 8000 ?_
      refine pr [1, 2, 4, 7, 8, 32] ?_
      refine k_ret ?_
      show retQ _ _ _ _ _ _ _
      simp [*]
    · intro h24_2
      rw [if_neg (by rw [h24_2]; decide)] at hcm
      have hnext := hcm
      clear hcm
      refine k_skip ?_
      refine rg 9000 ?_
      refine k_nil ?_
      show AK _ _ _ _ _ _
      refine rg 10000 ?_
      refine k_nil ?_
      refine ⟨n - 1, by omega, _, ⟨?_, ?_, ?_⟩, acc ++ [(infQ ts (E.mk xo xc xv xk)).1], by simp; omega, by simpa using hnext, rfl⟩ <;> simp [*, trow]
  · intro h14_1
    have hge : ex.length ≤ acc.length := by simpa using h14_1
    have hfin : exQ ts ex [] = (acc, 0) := by rw [hcm, List.drop_eq_nil_of_le hge]; rfl
    clear hcm
    have htf : (acc.map trow).take acc.length = acc.map trow := List.take_of_length_le (by simp)
    refine fz 900 ?_
    refine k_exit ?_
    show AK _ _ _ _ _ _
    refine sq ?_
    refine rg 11000 ?_
    refine pr [4, 6] ?_
    refine k_ret ?_
    show retQ _ _ _ _ _ _ _
    simp [*]

def fitQ (l : List Int) : List Int × Int := if decide ((8 : Int) < l.length) then ([], 2) else (l, 0)
attribute [local simp] trow in
theorem spec176 (l : List Int) (hl : l.length ≤ 4194304) : Flat.Sp Try.prog 176 [.p (.ps (l.map trow))] [] (.tup [.p (.ps ((fitQ l).1.map trow)), vv (.int .i64 (fitQ l).2)]) [] := by
  refine sk Try.func176 ?_
  intro F G hn hG
  have hl0 : l.length ≤ 140737488355328 := by omega
  have hl1 : l.length * 1 ≤ 140737488355328 := by omega
  have htk : (l.map trow).take l.length = l.map trow := List.take_of_length_le (by simp)
  have htl : l.take l.length = l := List.take_length
  refine sq ?_
  refine rg 1000 ?_
  refine pr [0, 1, 2, 10] ?_
  refine sq ?_
  refine sq ?_
  refine rg 2000 ?_
  refine pr [0, 1, 2, 4, 6, 10] ?_
  refine cd ?_ ?_
  · intro h6_1
    have hfin : fitQ l = ([], 2) := if_pos h6_1
    refine sq ?_
    refine rg 3000 ?_
    refine pr [0, 1, 2, 4, 7, 10] ?_
    refine k_ret ?_
    show retQ _ _ _ _ _ _ _
    simp [*]
  · intro h6_1
    have hfin : fitQ l = (l, 0) := if_neg (by rw [h6_1]; decide)
    clear h6_1
    refine k_skip ?_
    refine sq ?_
    refine rg 4000 ?_
    refine pr [2, 4] ?_
    refine fz 4002 ?_
    refine k_ret ?_
    show retQ _ _ _ _ _ _ _
    simp [*]

attribute [local simp] trow in
theorem spec176o (l : List Int) (hl : l.length ≤ 4194304) : Flat.Sp Try.prog 176 [.sl 0 l.length 0 l.length] [(.arr 0, .arr 42 1 (l.map trow) 0)] (.tup [.p (.ps ((fitQ l).1.map trow)), vv (.int .i64 (fitQ l).2)]) [(.arr 0, .arr 42 1 (l.map trow) 0)] := by
  refine sk Try.func176 ?_
  intro F G hn hG
  have hl0 : l.length ≤ 140737488355328 := by omega
  have hl1 : l.length * 1 ≤ 140737488355328 := by omega
  have htk : (l.map trow).take l.length = l.map trow := List.take_of_length_le (by simp)
  have htl : l.take l.length = l := List.take_length
  refine sq ?_
  refine rg 1000 ?_
  refine pr [0, 1, 2, 10] ?_
  refine sq ?_
  refine sq ?_
  refine rg 2000 ?_
  refine pr [0, 1, 2, 4, 6, 10] ?_
  refine cd ?_ ?_
  · intro h6_1
    have hfin : fitQ l = ([], 2) := if_pos h6_1
    refine sq ?_
    refine rg 3000 ?_
    refine pr [0, 1, 2, 4, 7, 10] ?_
    refine k_ret ?_
    show retQ _ _ _ _ _ _ _
    simp [*]
  · intro h6_1
    have hfin : fitQ l = (l, 0) := if_neg (by rw [h6_1]; decide)
    clear h6_1
    refine k_skip ?_
    refine sq ?_
    refine rg 4000 ?_
    refine pr [2, 4] ?_
    refine fz 4002 ?_
    refine k_ret ?_
    show retQ _ _ _ _ _ _ _
    simp [*]

def joinQ (cols wth a b : List Int) : List Int × Int := if !(atQ a cols).2 || !(atQ b wth).2 then ([], 1) else if !((atQ a cols).1 == (atQ b wth).1) then ([], 11) else fitQ (a ++ b)

attribute [local simp] trow in
theorem spec177 (k m : Int) (kids : List Pl) (ex : List E) (cols wth : List Int) (agg rds : Int) (a b : List Int) (ha : a.length ≤ Bnd) (hb : b.length ≤ Bnd) (hab : (a ++ b).length ≤ Bnd) (hc : cols.length ≤ Bnd) (hw : wth.length ≤ Bnd) : Flat.Sp Try.prog 177 [(Pl.mk k m kids ex cols wth agg rds).av, .p (.ps (a.map trow)), .p (.ps (b.map trow))] [] (.tup [.p (.ps ((joinQ cols wth a b).1.map trow)), vv (.int .i64 (joinQ cols wth a b).2)]) [] := by
  refine sk Try.func177 ?_
  intro F G hn hG
  have hal := atQ_len a cols
  have hbl := atQ_len b wth
  simp only [Bnd, List.length_append] at ha hb hab
  have l1 : a.length ≤ 140737488355328 := by omega
  have l2 : a.length * 1 ≤ 140737488355328 := by omega
  have l3 : a.length + b.length ≤ 140737488355328 := by omega
  have l4 : (a.length + b.length) * 1 ≤ 140737488355328 := by omega
  have ht1 : ((atQ a cols).1.map trow).take (atQ a cols).1.length = (atQ a cols).1.map trow := List.take_of_length_le (by simp)
  have ht2 : ((atQ b wth).1.map trow).take (atQ b wth).1.length = (atQ b wth).1.map trow := List.take_of_length_le (by simp)
  refine sq ?_
  refine rg 1000 ?_
  refine pr [1, 4, 6, 44] ?_
  refine sq ?_
  refine rc 2000 ?_
  refine oc (fun _ => 2001) (spec198 a cols hc) ?_
  refine oe 2100 ?_
  refine on ?_
  refine pr [1, 4, 6, 12, 19, 44] ?_
  refine sq ?_
  refine rc 3000 ?_
  refine oc (fun _ => 3001) (spec198 b wth hw) ?_
  refine oe 3100 ?_
  refine on ?_
  refine pr [1, 3, 6, 12, 26, 44] ?_
  refine sq ?_
  refine sq ?_
  refine cv [(.tmp 31, vv (.bool (!(atQ a cols).2 || !(atQ b wth).2)))] ?_ ?_
  · skip
    rcases h0 : ((atQ a cols).2 : Bool) with _ | _
    · skip
      refine rc 4000 ?_
      iterate 2 (first | refine gp 4150 ?_ | refine os ?_ | refine gt 4150 ?_)
      refine oe 4200 ?_
      refine on ?_
      refine k_nil ?_
      refine ⟨rfl, ?_, ?_, ?_⟩ <;> simp [*]
    · skip
      refine rc 1004000 ?_
      iterate 2 (first | refine gp 1004150 ?_ | refine os ?_ | refine gt 1004150 ?_)
      refine oe 1004200 ?_
      refine on ?_
      refine k_nil ?_
      refine ⟨rfl, ?_, ?_, ?_⟩ <;> simp [*]
  refine pr [1, 3, 6, 9, 10, 11, 31, 44] ?_
  refine cd ?_ ?_
  · intro h31_1
    have hfin : joinQ cols wth a b = ([], 1) := if_pos h31_1
    refine sq ?_
    refine rg 5000 ?_
    refine pr [1, 3, 6, 9, 10, 11, 32, 44] ?_
    refine k_ret ?_
    show retQ _ _ _ _ _ _ _
    simp [*]
  · intro h31_1
    have hfin0 : joinQ cols wth a b = if !((atQ a cols).1 == (atQ b wth).1) then ([], 11) else fitQ (a ++ b) := if_neg (by rw [h31_1]; decide)
    refine k_skip ?_
    refine sq ?_
    refine sq ?_
    refine fz 2001 ?_
    refine fz 3001 ?_
    refine rc 6000 ?_
    refine oc id (spec31 (atQ a cols).1 (atQ b wth).1 (Nat.le_trans hal (Bnd_lim hc))) ?_
    refine oe 6100 ?_
    refine on ?_
    refine pr [1, 3, 6, 8, 35, 44] ?_
    refine cd ?_ ?_
    · intro h35_2
      have hfin : joinQ cols wth a b = ([], 11) := by rw [hfin0]; exact if_pos h35_2
      clear hfin0
      refine sq ?_
      refine rg 7000 ?_
      refine pr [1, 3, 6, 8, 36, 44] ?_
      refine k_ret ?_
      show retQ _ _ _ _ _ _ _
      simp [*]
    · intro h35_2
      have hfin : joinQ cols wth a b = fitQ (a ++ b) := by rw [hfin0]; exact if_neg (by rw [h35_2]; decide)
      clear hfin0
      refine k_skip ?_
      refine sq ?_
      refine rc 8000 ?_
      refine oc (fun _ => 8002) (spec176o (a ++ b) (by simp only [List.length_append]; omega)) ?_
      refine oe 8100 ?_
      refine on ?_
      refine pr [6, 8] ?_
      refine k_ret ?_
      show retQ _ _ _ _ _ _ _
      simp [*]

end Go.Proofs
end
section
set_option linter.unusedVariables false
set_option linter.unusedSimpArgs false
namespace Go.Proofs
open Go.Flat
set_option maxRecDepth 100000
set_option linter.unusedSimpArgs false
set_option linter.unusedVariables false
attribute [local simp] Bool.and_assoc Bool.or_assoc evalG evalX efD skF guardG guardL isCall stepL evalOp ev evs lk tmpsL app AV.ok fresh vv putCells insV ins del putL place Go.Flat.look fillC fillR getCells loadF storeF binF scalarBin intBin strBin isShift shiftBin unF lenF maxF minF rowsF appendF builtinF idxF natOf sliceP sliceF optEv Flat.cut overwrite toPV toPVs constAV scalarC scalarCs AV.cells TI.isAgg allSome andAll scalarEq buildable Go.Flat.lim retQ resL resAll resOne PartOf noTmp closedIn refs refs.refsL isSomeV hasB ids leA leA.leL renA renA.renL callB refsAll backL dropIds renS LiesAt injB ownB freshB memN locId insAll leA_refl leL_refl okS frzS frzA frzA.frzL evalD feet fine updCells cellsFrom memP footRf footWf noTmpU updIds opOps opIds idsA footR footW guardTs opTs dstTs callR callW renLoc renC inBlockQ thenQ Value.oneCell' IntKind.bits IntKind.signed PV.up toPH toPHs

attribute [local simp] Pl.row_eq Pl.av
theorem any_dropT {α : Type} {p : α → Bool} {l : List α} {i : Nat} {x : α} (h : l[i]? = some x) : (l.drop i).any p = (p x || (l.drop (i + 1)).any p) := by
  obtain ⟨h1, h2⟩ := List.getElem?_eq_some_iff.1 h
  rw [List.drop_eq_getElem_cons h1, h2]
  rfl

def redOk (ts cols : List Int) (m agg : Int) : Bool := if agg == 5 then (atQ ts cols).2 && (decide (1 ≤ m) && decide (m ≤ 8)) else if agg == 1 then (atQ ts cols).2 else (atQ ts cols).2 && (atQ ts [m]).2
def redOut (ts cols : List Int) (m agg : Int) : List Int := if agg == 5 then ts else if agg == 1 then (atQ ts cols).1 ++ [1] else (atQ ts cols).1 ++ (atQ ts [m]).1
def redQ (ts cols : List Int) (m agg : Int) : List Int × Int := if !redOk ts cols m agg then ([], 1) else if (agg == 2) && ((atQ ts [m]).1.getD 0 0 != 1) then ([], 11) else fitQ (redOut ts cols m agg)

attribute [local simp] trow irow in
set_option maxHeartbeats 2000000 in
theorem spec178 (k m : Int) (kids : List Pl) (ex : List E) (cols wth : List Int) (agg rds : Int) (ts : List Int) (ht : ts.length ≤ Bnd) (hc : cols.length ≤ Bnd) : Flat.Sp Try.prog 178 [(Pl.mk k m kids ex cols wth agg rds).av, .p (.ps (ts.map trow))] [] (.tup [.p (.ps ((redQ ts cols m agg).1.map trow)), vv (.int .i64 (redQ ts cols m agg).2)]) [] := by
  refine sk Try.func178 ?_
  intro F G hn hG
  have hcb : cols.length ≤ 1048576 := hc
  have hal := atQ_len ts cols
  have hbl := atQ_len ts [m]
  simp only [List.length_singleton] at hbl
  have l3 : (atQ ts cols).1.length + 1 ≤ 140737488355328 := by omega
  have l4 : (atQ ts cols).1.length + (atQ ts [m]).1.length ≤ 140737488355328 := by omega
  have ht1 : ((atQ ts cols).1.map trow).take (atQ ts cols).1.length = (atQ ts cols).1.map trow := List.take_of_length_le (by simp)
  have ht2 : ((atQ ts [m]).1.map trow).take (atQ ts [m]).1.length = (atQ ts [m]).1.map trow := List.take_of_length_le (by simp)
  have ht3 : ∀ v : List PV, ((atQ ts cols).1.map trow ++ [v]).take ((atQ ts cols).1.length + 1) = (atQ ts cols).1.map trow ++ [v] := fun v => List.take_of_length_le (by simp)
  have ht4 : ((atQ ts cols).1.map trow ++ (atQ ts [m]).1.map trow).take ((atQ ts cols).1.length + (atQ ts [m]).1.length) = (atQ ts cols).1.map trow ++ (atQ ts [m]).1.map trow := List.take_of_length_le (by simp)
  refine sq ?_
  refine rg 1000 ?_
  refine pr [1, 3, 4, 68] ?_
  refine sq ?_
  refine rc 2000 ?_
  refine oc (fun _ => 2001) (spec198 ts cols hc) ?_
  refine oe 2100 ?_
  refine on ?_
  refine pr [1, 3, 4, 10, 17, 68] ?_
  refine sq ?_
  refine rc 3000 ?_
  refine oc (fun _ => 3001) (spec198 ts [m] (by simp [Bnd])) ?_ (hg := by simp [*, irow]) (hf := by simp [*, irow]; exact is_rfl _) (hx := by simp [*, irow]; exact is_rfl _) (hargs := by simp [*, irow]) (hB := by simp [*, irow]) (hL := by simp [*, irow]) (hd := by simp [*, irow]; exact is_rfl _)
  refine oe 3100 ?_
  refine on ?_
  refine pr [1, 3, 4, 10, 25, 68] ?_
  refine sq ?_
  refine sq ?_
  refine fz 3001 ?_
  refine rg 4000 ?_
  refine pr [1, 3, 4, 10, 26, 68] ?_
  refine k_block ?_
  refine sq ?_
  refine rg 7000 ?_
  refine pr [1, 3, 4, 10, 26, 35, 36, 68] ?_
  refine cd ?_ ?_
  · intro h34_1
    have hk : redOk ts cols m agg = ((atQ ts cols).2 && (decide (1 ≤ m) && decide (m ≤ 8))) := if_pos h34_1
    have hro1 : redOut ts cols m agg = ts := if_pos h34_1
    have h2 : (agg == 2) = false := by have := eq_of_beq h34_1; rw [this]; rfl
    have hro : (redOut ts cols m agg).length ≤ 4194304 := by rw [hro1]; simp only [Bnd] at ht; omega
    have hrm : (redOut ts cols m agg).map trow = ts.map trow := by rw [hro1]
    clear hro1
    refine sq ?_
    refine cv [(.tmp 7, vv (.bool ((atQ ts cols).2 && (decide (1 ≤ m) && decide (m ≤ 8)))))] ?_ ?_
    · skip
      refine rc 8000 ?_
      iterate 3 (first | refine gp 8250 ?_ | refine os ?_ | refine gt 8250 ?_)
      refine oe 8300 ?_
      iterate 3 (first | refine gp 8550 ?_ | refine os ?_ | refine gt 8550 ?_)
      refine oe 8600 ?_
      refine on ?_
      refine k_nil ?_
      refine ⟨rfl, ?_, ?_, ?_⟩ <;> simp [*]
    refine pr [1, 3, 4, 9, 47, 48, 53, 68] ?_
    refine rg 9000 ?_
    refine k_nil ?_
    show AK _ _ _ _ _ _
    refine sq ?_
    refine sq ?_
    refine rg 12000 ?_
    refine pr [2, 3, 4, 7, 8, 9, 54, 68] ?_
    refine cd ?_ ?_
    · intro h54_2
      have hfin : redQ ts cols m agg = ([], 1) := by unfold redQ; rw [hk]; first | exact if_pos h54_2 | (simp only [Bool.not_and]; exact if_pos h54_2)
      refine sq ?_
      refine rg 13000 ?_
      refine pr [2, 3, 4, 7, 8, 9, 55, 68] ?_
      refine k_ret ?_
      show retQ _ _ _ _ _ _ _
      simp [*]
    · intro h54_2
      have hfin0 : redQ ts cols m agg = if (agg == 2) && ((atQ ts [m]).1.getD 0 0 != 1) then ([], 11) else fitQ (redOut ts cols m agg) := by unfold redQ; rw [hk]; first | exact if_neg (by rw [h54_2]; decide) | (simp only [Bool.not_and]; exact if_neg (by rw [h54_2]; decide))
      first | (have hv1 := atQ_one (ts := ts) (m := m) (by have hh := h54_2; simp at hh; exact hh.2); rw [hv1] at hfin0 ht4 hrm l4) | skip
      refine k_skip ?_
      refine sq ?_
      refine sq ?_
      refine rc 14000 ?_
      iterate 4 (first | refine gp 14350 ?_ | refine os ?_ | refine gt 14350 ?_)
      refine oe 14400 ?_
      refine on ?_
      refine pr [4, 7, 63, 68] ?_
      refine cd ?_ ?_
      · intro h63_3
        have hfin : redQ ts cols m agg = ([], 11) := by rw [hfin0]; exact if_pos (by first | exact absurd h63_3 (by decide) | (have hh := h63_3; simp at hh; simp [hh]))
        clear hfin0
        refine sq ?_
        refine rg 15000 ?_
        refine pr [4, 7, 64, 68] ?_
        refine k_ret ?_
        show retQ _ _ _ _ _ _ _
        simp [*]
      · intro h63_3
        have hfin : redQ ts cols m agg = fitQ (redOut ts cols m agg) := by rw [hfin0]; exact if_neg (by first | (simp [h2]; done) | (have hh := h63_3; simp at hh; simpa using hh))
        clear hfin0
        refine k_skip ?_
        refine sq ?_
        first | refine fz 2001 ?_ | skip
        refine rc 16000 ?_
        refine oc id ((show Flat.Sp Try.prog 176 [.p (.ps ((redOut ts cols m agg).map trow))] [] _ [] from spec176 (redOut ts cols m agg) hro)) ?_
        refine oe 16100 ?_
        refine on ?_
        refine pr [4, 6] ?_
        refine k_ret ?_
        show retQ _ _ _ _ _ _ _
        simp [*]
  · intro h34_1
    have h5 := h34_1
    refine sq ?_
    refine rg 10000 ?_
    refine pr [2, 3, 4, 10, 27, 34, 48, 49, 50, 68] ?_
    refine cd ?_ ?_
    · intro h48_4
      have hk : redOk ts cols m agg = (atQ ts cols).2 := by unfold redOk; rw [if_neg (by rw [h5]; decide), if_pos h48_4]
      have hro1 : redOut ts cols m agg = (atQ ts cols).1 ++ [1] := by unfold redOut; rw [if_neg (by rw [h5]; decide), if_pos h48_4]
      have h2 : (agg == 2) = false := by have := eq_of_beq h48_4; rw [this]; rfl
      have hro : (redOut ts cols m agg).length ≤ 4194304 := by rw [hro1]; simp only [List.length_append, List.length_singleton]; omega
      have hrm : (redOut ts cols m agg).map trow = (atQ ts cols).1.map trow ++ [[PV.v (.int .u8 1)]] := by rw [hro1]; simp [trow]
      clear hro1
      refine rg 11000 ?_
      refine k_nil ?_
      show AK _ _ _ _ _ _
      refine sq ?_
      refine sq ?_
      refine rg 12000 ?_
      refine pr [2, 3, 4, 7, 8, 9, 54, 68] ?_
      refine cd ?_ ?_
      · intro h54_5
        have hfin : redQ ts cols m agg = ([], 1) := by unfold redQ; rw [hk]; first | exact if_pos h54_5 | (simp only [Bool.not_and]; exact if_pos h54_5)
        refine sq ?_
        refine rg 13000 ?_
        refine pr [2, 3, 4, 7, 8, 9, 55, 68] ?_
        refine k_ret ?_
        show retQ _ _ _ _ _ _ _
        simp [*]
      · intro h54_5
        have hfin0 : redQ ts cols m agg = if (agg == 2) && ((atQ ts [m]).1.getD 0 0 != 1) then ([], 11) else fitQ (redOut ts cols m agg) := by unfold redQ; rw [hk]; first | exact if_neg (by rw [h54_5]; decide) | (simp only [Bool.not_and]; exact if_neg (by rw [h54_5]; decide))
        first | (have hv1 := atQ_one (ts := ts) (m := m) (by have hh := h54_5; simp at hh; exact hh.2); rw [hv1] at hfin0 ht4 hrm l4) | skip
        refine k_skip ?_
        refine sq ?_
        refine sq ?_
        refine rc 14000 ?_
        iterate 4 (first | refine gp 14350 ?_ | refine os ?_ | refine gt 14350 ?_)
        refine oe 14400 ?_
        refine on ?_
        refine pr [4, 7, 63, 68] ?_
        refine cd ?_ ?_
        · intro h63_6
          have hfin : redQ ts cols m agg = ([], 11) := by rw [hfin0]; exact if_pos (by first | exact absurd h63_6 (by decide) | (have hh := h63_6; simp at hh; simp [hh]))
          clear hfin0
          refine sq ?_
          refine rg 15000 ?_
          refine pr [4, 7, 64, 68] ?_
          refine k_ret ?_
          show retQ _ _ _ _ _ _ _
          simp [*]
        · intro h63_6
          have hfin : redQ ts cols m agg = fitQ (redOut ts cols m agg) := by rw [hfin0]; exact if_neg (by first | (simp [h2]; done) | (have hh := h63_6; simp at hh; simpa using hh))
          clear hfin0
          refine k_skip ?_
          refine sq ?_
          first | refine fz 2001 ?_ | skip
          refine rc 16000 ?_
          refine oc id ((show Flat.Sp Try.prog 176 [.p (.ps ((redOut ts cols m agg).map trow))] [] _ [] from spec176 (redOut ts cols m agg) hro)) ?_
          refine oe 16100 ?_
          refine on ?_
          refine pr [4, 6] ?_
          refine k_ret ?_
          show retQ _ _ _ _ _ _ _
          simp [*]
    · intro h48_4
      have hk : redOk ts cols m agg = ((atQ ts cols).2 && (atQ ts [m]).2) := by unfold redOk; rw [if_neg (by rw [h5]; decide), if_neg (by rw [h48_4]; decide)]
      have hro1 : redOut ts cols m agg = (atQ ts cols).1 ++ (atQ ts [m]).1 := by unfold redOut; rw [if_neg (by rw [h5]; decide), if_neg (by rw [h48_4]; decide)]
      have hro : (redOut ts cols m agg).length ≤ 4194304 := by rw [hro1]; simp only [List.length_append]; omega
      have hrm : (redOut ts cols m agg).map trow = (atQ ts cols).1.map trow ++ (atQ ts [m]).1.map trow := by rw [hro1]; simp
      clear hro1
      have hdef := True.intro
      refine sq ?_
      refine cv [(.tmp 7, vv (.bool ((atQ ts cols).2 && (atQ ts [m]).2)))] ?_ ?_
      · skip
        refine rc 5000 ?_
        first | refine gp 5050 ?_ | refine os ?_ | refine gt 5050 ?_
        refine oe 5100 ?_
        refine on ?_
        refine k_nil ?_
        refine ⟨rfl, ?_, ?_, ?_⟩ <;> simp [*]
      refine pr [2, 3, 4, 9, 31, 34, 53, 68] ?_
      refine rg 6000 ?_
      refine k_nil ?_
      show AK _ _ _ _ _ _
      refine sq ?_
      refine sq ?_
      refine rg 12000 ?_
      refine pr [2, 3, 4, 7, 8, 9, 54, 68] ?_
      refine cd ?_ ?_
      · intro h54_7
        have hfin : redQ ts cols m agg = ([], 1) := by unfold redQ; rw [hk]; first | exact if_pos h54_7 | (simp only [Bool.not_and]; exact if_pos h54_7)
        refine sq ?_
        refine rg 13000 ?_
        refine pr [2, 3, 4, 7, 8, 9, 55, 68] ?_
        refine k_ret ?_
        show retQ _ _ _ _ _ _ _
        simp [*]
      · intro h54_7
        have hfin0 : redQ ts cols m agg = if (agg == 2) && ((atQ ts [m]).1.getD 0 0 != 1) then ([], 11) else fitQ (redOut ts cols m agg) := by unfold redQ; rw [hk]; first | exact if_neg (by rw [h54_7]; decide) | (simp only [Bool.not_and]; exact if_neg (by rw [h54_7]; decide))
        first | (have hv1 := atQ_one (ts := ts) (m := m) (by have hh := h54_7; simp at hh; exact hh.2); rw [hv1] at hfin0 ht4 hrm l4) | skip
        refine k_skip ?_
        refine sq ?_
        refine sq ?_
        refine rc 14000 ?_
        iterate 4 (first | refine gp 14350 ?_ | refine os ?_ | refine gt 14350 ?_)
        refine oe 14400 ?_
        refine on ?_
        refine pr [4, 7, 63, 68] ?_
        refine cd ?_ ?_
        · intro h63_8
          have hfin : redQ ts cols m agg = ([], 11) := by rw [hfin0]; exact if_pos (by first | exact absurd h63_8 (by decide) | (have hh := h63_8; simp at hh; simp [hh]))
          clear hfin0
          refine sq ?_
          refine rg 15000 ?_
          refine pr [4, 7, 64, 68] ?_
          refine k_ret ?_
          show retQ _ _ _ _ _ _ _
          simp [*]
        · intro h63_8
          have hfin : redQ ts cols m agg = fitQ (redOut ts cols m agg) := by rw [hfin0]; exact if_neg (by first | (simp [h2]; done) | (have hh := h63_8; simp at hh; simpa using hh))
          clear hfin0
          refine k_skip ?_
          refine sq ?_
          first | refine fz 2001 ?_ | skip
          refine rc 16000 ?_
          refine oc id ((show Flat.Sp Try.prog 176 [.p (.ps ((redOut ts cols m agg).map trow))] [] _ [] from spec176 (redOut ts cols m agg) hro)) ?_
          refine oe 16100 ?_
          refine on ?_
          refine pr [4, 6] ?_
          refine k_ret ?_
          show retQ _ _ _ _ _ _ _
          simp [*]

attribute [local simp] srow in
theorem spec124 (ss : List (List Int)) (hs : ss.length ≤ Flat.lim) (hl : ∀ s ∈ ss, s.length ≤ Flat.lim) : Flat.Sp Try.prog 124 [.p (.ps (ss.map srow))] [] (vv (.int .i64 (checkSch ss))) [] := by
  refine sk Try.func124 ?_
  intro F G hn hG
  refine sq ?_
  refine rg 1000 ?_
  refine pr [0, 1, 2, 3, 4, 5, 6, 33] ?_
  refine sq ?_
  refine sq ?_
  refine rg 2000 ?_
  refine pr [0, 1, 2, 3, 4, 5, 6, 33] ?_
  refine k_block ?_
  refine k_loop (fun n l => ∃ i, i + n = ss.length ∧ ((ss.drop i).any badS = ss.any badS) ∧ l = [(.tmp 0, .av (.p (.ps (ss.map srow)))), (.tmp 7, .av (.p (.ps (ss.map srow)))), (.tmp 8, .av (vv (.int .i64 ss.length))), (.tmp 9, .av (vv (.int .i64 i)))]) (ss.length) hG ⟨_, ⟨by simp, by simp, by simp⟩, 0, by simp, rfl, rfl⟩ ?_
  rintro n _ ⟨i, hin, hfa, rfl⟩
  have hcm := hfa
  clear hfa
  refine sq ?_
  refine rg 3000 ?_
  refine pr [0, 1, 2, 3, 4, 5, 6, 33] ?_
  refine sq ?_
  refine cd ?_ ?_
  · intro h10_1
    have hlt : i < ss.length := by simpa using h10_1
    obtain ⟨x, hxe⟩ : ∃ x, ss[i] = x := ⟨_, rfl⟩
    have hx : ss[i]? = some x := by simp [hlt, hxe]
    have hw := wrap_succ (show i < Flat.lim by omega)
    have hdr := any_dropT (p := badS) hx
    have hxl := hl x (List.mem_of_getElem? hx)
    refine k_skip ?_
    refine sq ?_
    refine k_block ?_
    refine sq ?_
    refine rg 4000 ?_
    refine pr [0, 1, 2, 3, 4, 5, 6, 33] ?_
    refine sq ?_
    refine sq ?_
    refine rg 5000 ?_
    refine pr [0, 1, 2, 3, 4, 5, 6, 33] ?_
    refine k_block ?_
    refine k_loop (fun n l => ∃ j, j + n = x.length ∧ ((x.drop j).any badT = x.any badT) ∧ l = [(.tmp 0, .av (.p (.ps (ss.map srow)))), (.tmp 4, .av (.p (.ps (x.map trow)))), (.tmp 7, .av (.p (.ps (ss.map srow)))), (.tmp 8, .av (vv (.int .i64 ss.length))), (.tmp 9, .av (vv (.int .i64 i))), (.tmp 13, .av (.p (.ps (x.map trow)))), (.tmp 14, .av (vv (.int .i64 x.length))), (.tmp 15, .av (vv (.int .i64 j)))]) (x.length) hG ⟨_, ⟨by simp, by simp, by simp⟩, 0, by simp, rfl, rfl⟩ ?_
    rintro n2 _ ⟨j, hin2, hcm2, rfl⟩
    refine sq ?_
    refine rg 6000 ?_
    refine pr [0, 1, 2, 3, 4, 5, 6, 33] ?_
    refine sq ?_
    refine cd ?_ ?_
    · intro h16_2
      have hlt : j < x.length := by simpa using h16_2
      obtain ⟨y, hxe⟩ : ∃ y, x[j] = y := ⟨_, rfl⟩
      have hx : x[j]? = some y := by simp [hlt, hxe]
      have hw2 := wrap_succ (show j < Flat.lim by omega)
      have hdr2 := any_dropT (p := badT) hx
      refine k_skip ?_
      refine sq ?_
      refine k_block ?_
      refine sq ?_
      refine rg 7000 ?_
      refine pr [0, 1, 2, 3, 4, 5, 6, 33] ?_
      refine sq ?_
      refine cv [(.tmp 24, vv (.bool (badT y)))] ?_ ?_
      · skip
        refine rc 8000 ?_ (h := by simp [*, badT]; exact is_rfl _)
        iterate 2 (first | refine gp 8150 ?_ (he := by intro hgg; (try simp only [Bool.and_eq_true] at hgg); simp [*, badT]; exact is_rfl _) | refine os ?_ | refine gt 8150 ?_ (he := by simp [*, badT]; exact is_rfl _))
        refine oe 8200 ?_ (h := by simp [*, badT]; exact is_rfl _)
        refine on ?_
        refine k_nil ?_
        refine ⟨rfl, ?_, ?_, ?_⟩ <;> simp [*, badT]
      refine pr [0, 1, 2, 3, 4, 5, 6, 33] ?_
      refine cd ?_ ?_
      · intro h24_3
        have hbx : x.any badT = true := by rw [← hcm2, hdr2, h24_3]; rfl
        have hfin : checkSch ss = 4 := by unfold checkSch; rw [← hcm, hdr, badS, hbx]; simp
        refine sq ?_
        refine rg 9000 ?_
        refine pr [0, 1, 2, 3, 4, 5, 6, 33] ?_
        refine k_ret ?_
        show retQ _ _ _ _ _ _ _
        simp [*]
      · intro h24_3
        have hnext2 : (x.drop (j + 1)).any badT = x.any badT := by rw [← hcm2, hdr2, h24_3]; rfl
        refine k_skip ?_
        refine k_nil ?_
        show AK _ _ _ _ _ _
        refine rg 10000 ?_
        refine k_nil ?_
        refine ⟨n2 - 1, by omega, _, ⟨?_, ?_, ?_⟩, j + 1, by omega, hnext2, rfl⟩ <;> simp [*]
    · intro h16_2
      have hge : x.length ≤ j := by simpa using h16_2
      have hbx : x.any badT = false := by rw [← hcm2, List.drop_eq_nil_of_le hge]; rfl
      refine k_exit ?_
      show AK _ _ _ _ _ _
      refine sq ?_
      refine rg 11000 ?_
      refine pr [0, 1, 2, 3, 4, 5, 6, 33] ?_
      refine cd ?_ ?_
      · intro h28_4
        have hfin : checkSch ss = 4 := by unfold checkSch; rw [← hcm, hdr, badS, h28_4]; simp
        refine sq ?_
        refine rg 12000 ?_
        refine pr [0, 1, 2, 3, 4, 5, 6, 33] ?_
        refine k_ret ?_
        show retQ _ _ _ _ _ _ _
        simp [*]
      · intro h28_4
        have hnext : (ss.drop (i + 1)).any badS = ss.any badS := by rw [← hcm, hdr, badS, h28_4, hbx]; rfl
        refine k_skip ?_
        refine k_nil ?_
        show AK _ _ _ _ _ _
        refine rg 13000 ?_
        refine k_nil ?_
        refine ⟨n - 1, by omega, _, ⟨?_, ?_, ?_⟩, i + 1, by omega, hnext, rfl⟩ <;> simp [*]
  · intro h10_1
    have hge : ss.length ≤ i := by simpa using h10_1
    have hba : ss.any badS = false := by rw [← hcm, List.drop_eq_nil_of_le hge]; rfl
    refine k_exit ?_
    show AK _ _ _ _ _ _
    refine sq ?_
    refine sq ?_
    refine rg 14000 ?_
    refine pr [2, 3, 32, 33] ?_
    refine cd ?_ ?_
    · intro h32_5
      have hfin : checkSch ss = 4 := by unfold checkSch; rw [h32_5]; rfl
      refine sq ?_
      refine rg 15000 ?_
      refine pr [2, 3] ?_
      refine k_ret ?_
      show retQ _ _ _ _ _ _ _
      simp [*]
    · intro h32_5
      have hfin : checkSch ss = 0 := by unfold checkSch; rw [h32_5, hba]; rfl
      refine k_skip ?_
      refine sq ?_
      refine rg 16000 ?_
      refine pr [2, 3] ?_
      refine k_ret ?_
      show retQ _ _ _ _ _ _ _
      simp [*]

end Go.Proofs
end
section
set_option linter.unusedVariables false
set_option linter.unusedSimpArgs false
namespace Go.Proofs
open Go.Flat
set_option maxRecDepth 100000
set_option linter.unusedSimpArgs false
set_option linter.unusedVariables false
attribute [local simp] Bool.and_assoc Bool.or_assoc evalG evalX efD skF guardG guardL isCall stepL evalOp ev evs lk tmpsL app AV.ok fresh vv putCells insV ins del putL place Go.Flat.look fillC fillR getCells loadF storeF binF scalarBin intBin strBin isShift shiftBin unF lenF maxF minF rowsF appendF builtinF idxF natOf sliceP sliceF optEv Flat.cut overwrite toPV toPVs constAV scalarC scalarCs AV.cells TI.isAgg allSome andAll scalarEq buildable Go.Flat.lim retQ resL resAll resOne PartOf noTmp closedIn refs refs.refsL isSomeV hasB ids leA leA.leL renA renA.renL callB refsAll backL dropIds renS LiesAt injB ownB freshB memN locId insAll leA_refl leL_refl okS frzS frzA frzA.frzL evalD feet fine updCells cellsFrom memP footRf footWf noTmpU updIds opOps opIds idsA footR footW guardTs opTs dstTs callR callW renLoc renC inBlockQ thenQ Value.oneCell' IntKind.bits IntKind.signed PV.up toPH toPHs

attribute [local simp] Pl.row_eq Pl.av
def inA (k : Int) (A acc : List (List Int)) : List (List Int) := if (k == 10) && ((acc.length : Int) == 1) then A ++ [acc.getD 0 []] else A
def filQ (a : List Int) (ex : List E) : Int := if ((exQ a ex []).2 == 0) && ((exQ a ex []).1.getD 0 0 != 1) then 11 else (exQ a ex []).2
def nqS (a s : List Int) : Bool := !(s == a)
def fnQ (k m : Int) (ex : List E) (cols wth : List Int) (agg : Int) (l : List (List Int)) : List Int × Int :=
  if k == 3 then (if (exQ (l.getD 0 []) ex []).2 != 0 then ([], (exQ (l.getD 0 []) ex []).2) else fitQ (exQ (l.getD 0 []) ex []).1)
  else if k == 4 then (l.getD 0 [], filQ (l.getD 0 []) ex)
  else if k == 7 then joinQ cols wth (l.getD 0 []) (l.getD 1 [])
  else if k == 8 then redQ (l.getD 0 []) cols m agg
  else if l.any (nqS (l.getD 0 [])) then ([], 11) else (l.getD 0 [], 0)
mutual
/-- A right plan's schema, by the document. -/
def schR (S : List (List Int)) : Pl → List (List Int) → List Int × Int
  | .mk k m kids ex cols wth agg rds, A =>
    if k == 1 then (if offN m S.length then ([], 1) else (S.getD m.toNat [], 0))
    else if k == 2 then (if offN m A.length then ([], 1) else (A.getD (A.length - 1 - m.toNat) [], 0))
    else if (schL S kids k A []).2 != 0 then ([], (schL S kids k A []).2) else fnQ k m ex cols wth agg (schL S kids k A []).1
def schL (S : List (List Int)) : List Pl → Int → List (List Int) → List (List Int) → List (List Int) × Int
  | [], _, _, acc => (acc, 0)
  | x :: r, k, A, acc => if (schR S x (inA k A acc)).2 != 0 then (acc, (schR S x (inA k A acc)).2) else schL S r k A (acc ++ [(schR S x (inA k A acc)).1])
end
theorem schL_drop {S A acc : List (List Int)} {k : Int} {kids : List Pl} {i : Nat} {x : Pl} (h : kids[i]? = some x) : schL S (kids.drop i) k A acc = if (schR S x (inA k A acc)).2 != 0 then (acc, (schR S x (inA k A acc)).2) else schL S (kids.drop (i + 1)) k A (acc ++ [(schR S x (inA k A acc)).1]) := by
  obtain ⟨h1, h2⟩ := List.getElem?_eq_some_iff.1 h
  rw [List.drop_eq_getElem_cons h1, h2, schL]
def all8 (l : List (List Int)) : Prop := ∀ s ∈ l, s.length ≤ 8
theorem all8_getD {l : List (List Int)} (h : all8 l) (i : Nat) : (l.getD i []).length ≤ 8 := by
  rw [List.getD_eq_getElem?_getD]
  cases hi : l[i]? with
  | none => simp
  | some s => exact h s (List.mem_of_getElem? hi)
theorem all8_snoc {l : List (List Int)} {s : List Int} (h : all8 l) (hs : s.length ≤ 8) : all8 (l ++ [s]) := by
  intro x hx
  rcases List.mem_append.1 hx with hx | hx
  · exact h x hx
  · rw [List.mem_singleton.1 hx]; exact hs
theorem all8_inA {k : Int} {A acc : List (List Int)} (h : all8 A) (ha : all8 acc) : all8 (inA k A acc) := by
  unfold inA; split
  · exact all8_snoc h (all8_getD ha 0)
  · exact h
theorem fitQ_len (l : List Int) : (fitQ l).1.length ≤ 8 := by
  unfold fitQ; split
  · simp
  · rename_i h; simp at h; show l.length ≤ 8; omega
theorem fnQ_len {k m : Int} {ex : List E} {cols wth : List Int} {agg : Int} {l : List (List Int)} (h : all8 l) : (fnQ k m ex cols wth agg l).1.length ≤ 8 := by
  have h0 := all8_getD h 0
  unfold fnQ
  split
  · split
    · simp
    · exact fitQ_len _
  · split
    · exact h0
    · split
      · unfold joinQ
        split
        · simp
        · split
          · simp
          · exact fitQ_len _
      · split
        · unfold redQ
          split
          · simp
          · split
            · simp
            · exact fitQ_len _
        · split
          · simp
          · exact h0
theorem schL_len {S : List (List Int)} {l : List Pl} (ih : ∀ x ∈ l, ∀ A, all8 A → (schR S x A).1.length ≤ 8) {k : Int} {A : List (List Int)} (hA : all8 A) : ∀ acc, all8 acc → all8 (schL S l k A acc).1 := by
  induction l with
  | nil => intro acc h; rw [schL]; exact h
  | cons x r hr =>
    intro acc h
    rw [schL]
    split
    · exact h
    · exact hr (fun y hy => ih y (by simp [hy])) _ (all8_snoc h (ih x (by simp) _ (all8_inA hA h)))
theorem schR_len {S : List (List Int)} (hS : all8 S) : ∀ (p : Pl) (A : List (List Int)), all8 A → (schR S p A).1.length ≤ 8 := by
  refine Pl.ind fun k m kids ex cols wth agg rds ih A hA => ?_
  rw [schR]
  split
  · split
    · simp
    · exact all8_getD hS _
  · split
    · split
      · simp
      · exact all8_getD hA _
    · split
      · simp
      · exact fnQ_len (schL_len ih hA [] (by intro s hs; simp at hs))
theorem len2L {l : List (List Int)} (h : l.length = 2) : ∃ a b, l = [a, b] := by
  match l, h with | [a, b], _ => exact ⟨a, b, rfl⟩
theorem getD_at {l : List (List Int)} {i : Nat} {a : List Int} (h : i < l.length) (he : l[i] = a) : l.getD i [] = a := by
  rw [List.getD_eq_getElem?_getD, List.getElem?_eq_getElem h, he]; rfl
theorem exQ_len {ts : List Int} : ∀ {ex : List E} {acc : List Int}, (exQ ts ex acc).2 = 0 → (exQ ts ex acc).1.length = acc.length + ex.length
  | [], acc, _ => by simp [exQ]
  | e :: r, acc, h => by
    rw [exQ] at h ⊢
    split at h
    · rename_i hc; simp at hc; exact absurd h hc
    · rename_i hc
      rw [if_neg hc, exQ_len h]
      simp; omega
theorem exQ_le {ts : List Int} : ∀ {ex : List E} {acc : List Int}, (exQ ts ex acc).1.length ≤ acc.length + ex.length
  | [], acc => by simp [exQ]
  | e :: r, acc => by
    rw [exQ]
    split
    · simp
    · have := exQ_le (ts := ts) (ex := r) (acc := acc ++ [(infQ ts e).1])
      simp at this ⊢; omega
theorem exQ_one {ts : List Int} {ex : List E} (h1 : ex.length = 1) (h : (exQ ts ex []).2 = 0) : ∃ t, (exQ ts ex []).1 = [t] := by
  have := exQ_len h
  rw [h1] at this
  exact List.length_eq_one_iff.1 this
theorem formed_kq {k m : Int} {nk : Nat} {ex : List E} {cols wth : List Int} {agg rds : Int} (h : formedP k m nk ex cols wth agg rds = true) (h1 : (k == 1) = false) (h2 : (k == 2) = false) : 0 < nk ∧ ((k == 7) = true → nk = 2) ∧ ((k == 4) = true → ex.length = 1) := by
  have hp : okP1 k nk = true := by
    unfold formedP at h
    repeat' split at h
    all_goals (simp only [okP2, Bool.and_eq_true] at h)
    · exact h.1.1
    · exact h.1.1
    · exact h.1.1
    · exact h.1
  simp only [okP1, manyP, h1, h2, Bool.or_false, Bool.and_eq_true, Bool.false_eq_true, if_false] at hp
  obtain ⟨-, -, hp⟩ := hp
  refine ⟨?_, fun h7 => ?_, fun h4 => ?_⟩
  · split at hp
    · simp at hp; omega
    · split at hp
      · simp at hp; omega
      · simp at hp; omega
  · rw [h7] at hp
    simp at hp; omega
  · unfold formedP at h
    rw [if_pos h4, Bool.and_eq_true] at h
    have := h.2
    simp at this; omega

attribute [local simp] srow in
set_option maxHeartbeats 4000000 in
theorem spec126_step (S A : List (List Int)) (hS8 : all8 S) (hA8 : all8 A) (hAl : A.length ≤ 1000) (k m : Int) (kids : List Pl) (ex : List E) (cols wth : List Int) (agg rds : Int) (hf : formedP k m kids.length ex cols wth agg rds = true) (hkb : kids.length ≤ Bnd) (heb : ex.length ≤ Bnd) (hcb : cols.length ≤ Bnd) (hwb : wth.length ≤ Bnd) (ih : ∀ x ∈ kids, ∀ A2 : List (List Int), all8 A2 → A2.length ≤ A.length + 1 → Flat.Sp Try.prog 126 [x.av, .p (.ps (S.map srow)), .p (.ps (A2.map srow))] [] (.tup [.p (.ps ((schR S x A2).1.map trow)), vv (.int .i64 (schR S x A2).2)]) []) : Flat.Sp Try.prog 126 [(Pl.mk k m kids ex cols wth agg rds).av, .p (.ps (S.map srow)), .p (.ps (A.map srow))] [] (.tup [.p (.ps ((schR S (Pl.mk k m kids ex cols wth agg rds) A).1.map trow)), vv (.int .i64 (schR S (Pl.mk k m kids ex cols wth agg rds) A).2)]) [] := by
  refine sk Try.func126 ?_
  intro F G hn hG
  have hkl := Bnd_lim hkb
  refine sq ?_
  refine rg 1000 ?_
  refine pr [1, 4, 6, 18, 19, 179] ?_
  refine sq ?_
  refine sq ?_
  refine rg 2000 ?_
  refine pr [1, 4, 6, 18, 19, 20, 22, 179] ?_
  refine cd ?_ ?_
  · intro h22_1
    have hfin0 : schR S (Pl.mk k m kids ex cols wth agg rds) A = if offN m S.length then ([], 1) else (S.getD m.toNat [], 0) := by rw [schR, if_pos h22_1]
    refine sq ?_
    refine sq ?_
    refine cv [(.tmp 32, vv (.bool (offN m S.length)))] ?_ ?_
    · skip
      refine rc 3000 ?_ (h := by simp [*, offN]; exact is_rfl _)
      iterate 5 (first | refine gp 3450 ?_ (he := by intro hgg; (try simp only [Bool.and_eq_true] at hgg); simp [*, offN]; exact is_rfl _) | refine os ?_ | refine gt 3450 ?_ (he := by simp [*, offN]; exact is_rfl _))
      refine oe 3500 ?_ (h := by simp [*, offN]; exact is_rfl _)
      refine on ?_
      refine k_nil ?_
      refine ⟨rfl, ?_, ?_, ?_⟩ <;> simp [*, offN]
    refine pr [1, 4, 6, 18, 19, 20, 32, 179] ?_
    refine cd ?_ ?_
    · intro h32_2
      have hfin : schR S (Pl.mk k m kids ex cols wth agg rds) A = ([], 1) := by rw [hfin0]; exact if_pos h32_2
      clear hfin0
      refine sq ?_
      refine rg 4000 ?_
      refine pr [1, 4, 6, 18, 19, 20, 33, 179] ?_
      refine k_ret ?_
      show retQ _ _ _ _ _ _ _
      simp [*]
    · intro h32_2
      obtain ⟨q, rfl, hlq⟩ := offN_f h32_2
      obtain ⟨t, hte⟩ : ∃ t, S[q] = t := ⟨_, rfl⟩
      have hfin : schR S (Pl.mk k (q : Int) kids ex cols wth agg rds) A = (t, 0) := by rw [hfin0, if_neg (by rw [h32_2]; decide)]; simp [hlq, hte]
      clear hfin0
      refine k_skip ?_
      refine sq ?_
      refine rg 5000 ?_
      refine pr [1, 4, 6, 18, 19, 20, 38, 179] ?_
      refine k_ret ?_
      show retQ _ _ _ _ _ _ _
      simp [*]
  · intro h22_1
    have hk1 := h22_1
    have h1n : ¬ ((k == 1) = true) := by rw [h22_1]; decide
    refine k_skip ?_
    refine sq ?_
    refine sq ?_
    refine rg 6000 ?_
    refine pr [1, 4, 6, 18, 19, 20, 40, 179] ?_
    refine cd ?_ ?_
    · intro h40_3
      have hfin0 : schR S (Pl.mk k m kids ex cols wth agg rds) A = if offN m A.length then ([], 1) else (A.getD (A.length - 1 - m.toNat) [], 0) := by rw [schR, if_neg h1n, if_pos h40_3]
      refine sq ?_
      refine sq ?_
      refine cv [(.tmp 50, vv (.bool (offN m A.length)))] ?_ ?_
      · skip
        refine rc 7000 ?_ (h := by simp [*, offN]; exact is_rfl _)
        iterate 5 (first | refine gp 7450 ?_ (he := by intro hgg; (try simp only [Bool.and_eq_true] at hgg); simp [*, offN]; exact is_rfl _) | refine os ?_ | refine gt 7450 ?_ (he := by simp [*, offN]; exact is_rfl _))
        refine oe 7500 ?_ (h := by simp [*, offN]; exact is_rfl _)
        refine on ?_
        refine k_nil ?_
        refine ⟨rfl, ?_, ?_, ?_⟩ <;> simp [*, offN]
      refine pr [1, 4, 6, 18, 19, 20, 50, 179] ?_
      refine cd ?_ ?_
      · intro h50_4
        have hfin : schR S (Pl.mk k m kids ex cols wth agg rds) A = ([], 1) := by rw [hfin0]; exact if_pos h50_4
        clear hfin0
        refine sq ?_
        refine rg 8000 ?_
        refine pr [1, 4, 6, 18, 19, 20, 51, 179] ?_
        refine k_ret ?_
        show retQ _ _ _ _ _ _ _
        simp [*]
      · intro h50_4
        obtain ⟨q, rfl, hlq⟩ := offN_f h50_4
        obtain ⟨z, hz⟩ : ∃ z, A.length - 1 - q = z := ⟨_, rfl⟩
        have hzl : z < A.length := by omega
        have hwi : IntKind.i64.wrap (IntKind.i64.wrap ((A.length : Int) - 1) - q) = z := by rw [w64_in (n := (A.length : Int) - 1) (by omega) (by omega), w64_in (by omega) (by omega)]; omega
        obtain ⟨t, hte⟩ : ∃ t, A[z] = t := ⟨_, rfl⟩
        have hfin : schR S (Pl.mk k (q : Int) kids ex cols wth agg rds) A = (t, 0) := by rw [hfin0, if_neg (by rw [h50_4]; decide)]; simp [hz, hzl, hte]
        clear hfin0 hz
        refine k_skip ?_
        refine sq ?_
        refine rg 9000 ?_
        refine pr [1, 4, 6, 18, 19, 20, 60, 179] ?_
        refine k_ret ?_
        show retQ _ _ _ _ _ _ _
        simp [*]
    · intro h40_3
      have h2n : ¬ ((k == 2) = true) := by rw [h40_3]; decide
      obtain ⟨hk0, hk7, hk4⟩ := formed_kq hf hk1 h40_3
      refine k_skip ?_
      refine sq ?_
      refine rg 10000 ?_
      refine pr [1, 4, 6, 18, 19, 20, 60, 179] ?_
      refine sq ?_
      refine sq ?_
      refine rg 11000 ?_
      refine pr [1, 4, 6, 18, 19, 20, 61, 179] ?_
      refine k_block ?_
      refine ow (.tmp 8) 900 45 1 ?_
      refine k_loop (fun n l => ∃ (acc : List (List Int)), acc.length + n = kids.length ∧ (all8 acc ∧ schL S kids k A [] = schL S (kids.drop acc.length) k A acc) ∧ l = [(.tmp 1, .av (.p (.ps (S.map srow)))), (.tmp 2, .av (.p (.ps (A.map srow)))), (.tmp 3, .av (.ptr 1000 0)), (.tmp 8, .av (.sl 900 acc.length 0 acc.length)), (.tmp 61, .av (.p (.ps (kids.map Pl.row)))), (.tmp 62, .av (vv (.int .i64 kids.length))), (.tmp 63, .av (vv (.int .i64 acc.length))), (.var 1000, .n 8), (.cell 1000 0, .av (vv (.int .u8 k))), (.cell 1000 1, .av (vv (.int .i64 m))), (.cell 1000 2, .av (.p (.ps (kids.map Pl.row)))), (.cell 1000 3, .av (.p (.ps (ex.map E.row)))), (.cell 1000 4, .av (.p (.ps (cols.map irow)))), (.cell 1000 5, .av (.p (.ps (wth.map irow)))), (.cell 1000 6, .av (vv (.int .u8 agg))), (.cell 1000 7, .av (vv (.int .i64 rds))), (.arr 900, .arr 45 1 (acc.map srow) 0)]) (kids.length) hG ⟨_, ⟨by simp, by simp, by simp⟩, [], by simp, ⟨by intro s hs; simp at hs, rfl⟩, rfl⟩ ?_
      rintro n _ ⟨acc, hin, ⟨hac8, hcm⟩, rfl⟩
      refine sq ?_
      refine rg 12000 ?_
      refine pr [1, 4, 6, 18, 19, 20, 61, 179] ?_
      refine sq ?_
      refine cd ?_ ?_
      · intro h64_5
        have hlt : acc.length < kids.length := by simpa using h64_5
        obtain ⟨x, hxe⟩ : ∃ x, kids[acc.length] = x := ⟨_, rfl⟩
        have hx : kids[acc.length]? = some x := by simp [hlt, hxe]
        have hw := wrap_succ (show acc.length < Flat.lim by omega)
        simp only [Bnd] at hkb
        have hlim1 : acc.length + 1 ≤ 140737488355328 := by omega
        have hlim2 : (acc.length + 1) * 24 ≤ 140737488355328 := by omega
        rw [schL_drop hx] at hcm
        obtain ⟨xk, xn, xq, xe, xc, xw, xa, xr⟩ := x
        have hmem : (Pl.mk xk xn xq xe xc xw xa xr) ∈ kids := hxe ▸ List.getElem_mem hlt
        have hA28 := all8_inA (k := k) hA8 hac8
        have hr8 := schR_len hS8 (Pl.mk xk xn xq xe xc xw xa xr) _ hA28
        obtain ⟨A2, hA2⟩ : ∃ A2, inA k A acc = A2 := ⟨_, rfl⟩
        rw [hA2] at hcm hA28 hr8
        refine k_skip ?_
        refine sq ?_
        refine k_block ?_
        refine sq ?_
        refine rg 13000 ?_ (h := by simp [*, Pl.row_eq]; exact is_rfl _)
        refine pr [1, 4, 6, 18, 19, 20, 61, 179] ?_
        refine sq ?_
        refine rg 14000 ?_
        refine pr [1, 4, 6, 18, 19, 20, 61, 179] ?_
        refine sq ?_
        refine sq ?_
        refine rc 15000 ?_
        iterate 2 (first | refine gp 15150 ?_ | refine os ?_ | refine gt 15150 ?_)
        refine oe 15200 ?_
        refine on ?_
        refine pr [1, 4, 6, 18, 19, 20, 61, 179] ?_
        refine cd ?_ ?_
        · intro h75_6
          have hacl : acc.length = 1 := by have hh := h75_6; simp at hh; omega
          have h0l : 0 < acc.length := by omega
          obtain ⟨a, h0e⟩ : ∃ a, acc[0] = a := ⟨_, rfl⟩
          have hA2m : A2 = A ++ [a] := by rw [← hA2]; unfold inA; rw [if_pos h75_6, getD_at h0l h0e]
          have hm2 : A2.map srow = A.map srow ++ [srow a] := by rw [hA2m]; simp
          have hA2l : A2.length ≤ A.length + 1 := by rw [hA2m]; simp
          have hq1 : A.length + 1 ≤ 140737488355328 := by omega
          have hq2 : (A.length + 1) * 24 ≤ 140737488355328 := by omega
          have hq3 : A.length ≤ 140737488355328 := by omega
          have hq4 : A.length * 24 ≤ 140737488355328 := by omega
          have hqt : (A.map srow ++ [srow a]).take (A.length + 1) = A.map srow ++ [srow a] := List.take_of_length_le (by simp)
          simp only [srow] at hm2 hqt
          clear hA2m hA2 hacl
          refine dr ?_
          refine de 16000 ?_
          refine dn ?_
          refine pr [1, 4, 6, 18, 19, 20, 61, 179] ?_
          refine fz 16002 ?_
          refine sq ?_
          refine rc 17000 ?_
          refine oc id ((show Flat.Sp Try.prog 126 [(Pl.mk xk xn xq xe xc xw xa xr).av, .p (.ps (S.map srow)), .p (.ps (A2.map srow))] [] _ [] from ih _ hmem A2 hA28 hA2l)) ?_
          refine oe 17100 ?_
          refine on ?_
          refine pr [1, 4, 6, 18, 19, 20, 61, 179] ?_
          refine sq ?_
          refine sq ?_
          refine rg 18000 ?_
          refine pr [1, 4, 6, 18, 19, 20, 61, 179] ?_
          refine cd ?_ ?_
          · intro h92_7
            rw [if_pos h92_7] at hcm
            have hfin : schR S (Pl.mk k m kids ex cols wth agg rds) A = ([], (schR S (Pl.mk xk xn xq xe xc xw xa xr) A2).2) := by rw [schR, if_neg h1n, if_neg h2n, hcm, if_pos h92_7]
            clear hcm
            refine sq ?_
            refine rg 19000 ?_
            refine pr [1, 4, 6, 18, 19, 20, 61, 179] ?_
            refine k_ret ?_
            show retQ _ _ _ _ _ _ _
            simp [*]
          · intro h92_7
            rw [if_neg (by rw [h92_7]; decide)] at hcm
            have hnext := hcm
            have hac9 := all8_snoc hac8 hr8
            clear hcm hm2
            refine k_skip ?_
            refine rg 20000 ?_
            refine k_nil ?_
            show AK _ _ _ _ _ _
            refine rg 21000 ?_
            refine k_nil ?_
            refine ⟨n - 1, by omega, _, ⟨?_, ?_, ?_⟩, acc ++ [(schR S (Pl.mk xk xn xq xe xc xw xa xr) A2).1], by simp; omega, ⟨hac9, by simpa using hnext⟩, rfl⟩ <;> simp [*, srow]
        · intro h75_6
          have hA2m : A2 = A := by rw [← hA2]; unfold inA; rw [if_neg (by rw [h75_6]; decide)]
          have hm2 : A2.map srow = A.map srow := by rw [hA2m]
          have hA2l : A2.length ≤ A.length + 1 := by rw [hA2m]; omega
          clear hA2m hA2
          refine k_skip ?_
          refine sq ?_
          refine rc 17000 ?_
          refine oc id ((show Flat.Sp Try.prog 126 [(Pl.mk xk xn xq xe xc xw xa xr).av, .p (.ps (S.map srow)), .p (.ps (A2.map srow))] [] _ [] from ih _ hmem A2 hA28 hA2l)) ?_
          refine oe 17100 ?_
          refine on ?_
          refine pr [1, 4, 6, 18, 19, 20, 61, 179] ?_
          refine sq ?_
          refine sq ?_
          refine rg 18000 ?_
          refine pr [1, 4, 6, 18, 19, 20, 61, 179] ?_
          refine cd ?_ ?_
          · intro h92_8
            rw [if_pos h92_8] at hcm
            have hfin : schR S (Pl.mk k m kids ex cols wth agg rds) A = ([], (schR S (Pl.mk xk xn xq xe xc xw xa xr) A2).2) := by rw [schR, if_neg h1n, if_neg h2n, hcm, if_pos h92_8]
            clear hcm
            refine sq ?_
            refine rg 19000 ?_
            refine pr [1, 4, 6, 18, 19, 20, 61, 179] ?_
            refine k_ret ?_
            show retQ _ _ _ _ _ _ _
            simp [*]
          · intro h92_8
            rw [if_neg (by rw [h92_8]; decide)] at hcm
            have hnext := hcm
            have hac9 := all8_snoc hac8 hr8
            clear hcm hm2
            refine k_skip ?_
            refine rg 20000 ?_
            refine k_nil ?_
            show AK _ _ _ _ _ _
            refine rg 21000 ?_
            refine k_nil ?_
            refine ⟨n - 1, by omega, _, ⟨?_, ?_, ?_⟩, acc ++ [(schR S (Pl.mk xk xn xq xe xc xw xa xr) A2).1], by simp; omega, ⟨hac9, by simpa using hnext⟩, rfl⟩ <;> simp [*, srow]
      · intro h64_5
        have hge : kids.length ≤ acc.length := by simpa using h64_5
        have hty : schL S kids k A [] = (acc, 0) := by rw [hcm, List.drop_eq_nil_of_le hge]; rfl
        have hfin0 : schR S (Pl.mk k m kids ex cols wth agg rds) A = fnQ k m ex cols wth agg acc := by rw [schR, if_neg h1n, if_neg h2n, hty]; rfl
        clear hcm hty
        have htf : (acc.map srow).take acc.length = acc.map srow := List.take_of_length_le (by simp)
        have h0l : 0 < acc.length := by omega
        obtain ⟨a, h0e⟩ : ∃ a, acc[0] = a := ⟨_, rfl⟩
        have hg0 := getD_at h0l h0e
        have ha8 : a.length ≤ 8 := hg0 ▸ all8_getD hac8 0
        have ha : a.length ≤ Flat.lim := Nat.le_trans ha8 (by simp [Flat.lim])
        refine fz 900 ?_
        refine k_exit ?_
        show AK _ _ _ _ _ _
        refine sq ?_
        refine sq ?_
        refine rg 22000 ?_
        refine pr [3, 4, 6, 9, 14, 18, 19, 20, 100, 179] ?_
        refine k_block ?_
        refine sq ?_
        refine rg 23000 ?_
        refine pr [3, 4, 6, 9, 14, 18, 19, 20, 100, 102, 103, 179] ?_
        refine cd ?_ ?_
        · intro h101_9
          have hfin1 : schR S (Pl.mk k m kids ex cols wth agg rds) A = if (exQ a ex []).2 != 0 then ([], (exQ a ex []).2) else fitQ (exQ a ex []).1 := by rw [hfin0]; unfold fnQ; rw [if_pos h101_9, hg0]
          clear hfin0
          refine sq ?_
          refine dr ?_
          refine de 24000 ?_
          refine dc id (spec175 a ha ex heb) ?_
          refine de 24100 ?_
          refine dn ?_
          refine pr [6, 9, 14, 16, 19, 20, 112, 119, 163, 179] ?_
          refine sq ?_
          refine sq ?_
          refine rg 25000 ?_
          refine pr [6, 9, 14, 16, 19, 20, 113, 119, 163, 179] ?_
          refine cd ?_ ?_
          · intro h113_10
            have hfin : schR S (Pl.mk k m kids ex cols wth agg rds) A = ([], (exQ a ex []).2) := by rw [hfin1]; exact if_pos h113_10
            clear hfin1
            refine sq ?_
            refine rg 26000 ?_
            refine pr [6, 9, 14, 15, 19, 20, 115, 119, 163, 179] ?_
            refine k_ret ?_
            show retQ _ _ _ _ _ _ _
            simp [*]
          · intro h113_10
            have hfin : schR S (Pl.mk k m kids ex cols wth agg rds) A = fitQ (exQ a ex []).1 := by rw [hfin1]; exact if_neg (by rw [h113_10]; decide)
            clear hfin1
            refine k_skip ?_
            refine sq ?_
            refine rc 27000 ?_
            refine oc id (spec176 (exQ a ex []).1 (Nat.le_trans exQ_le (by simp only [Bnd] at heb; simp only [List.length_nil]; omega))) ?_
            refine oe 27100 ?_
            refine on ?_
            refine pr [6, 9, 19, 20, 163, 179] ?_
            refine k_ret ?_
            show retQ _ _ _ _ _ _ _
            simp [*]
        · intro h101_9
          have h3n : ¬ ((k == 3) = true) := by rw [h101_9]; decide
          refine sq ?_
          refine rg 28000 ?_
          refine pr [3, 4, 6, 9, 16, 18, 19, 20, 100, 101, 119, 120, 121, 179] ?_
          refine cd ?_ ?_
          · intro h119_11
            have hfin1 : schR S (Pl.mk k m kids ex cols wth agg rds) A = (a, filQ a ex) := by rw [hfin0]; unfold fnQ; rw [if_neg h3n, if_pos h119_11, hg0]
            have hex1 := hk4 h119_11
            clear hfin0
            refine sq ?_
            refine dr ?_
            refine de 29000 ?_
            refine dc id (spec175 a ha ex heb) ?_
            refine de 29100 ?_
            refine dn ?_
            refine pr [6, 9, 16, 18, 19, 20, 130, 142, 163, 179] ?_
            refine sq ?_
            refine sq ?_
            refine cv [(.tmp 137, vv (.bool (((exQ a ex []).2 == 0) && ((exQ a ex []).1.getD 0 0 != 1))))] ?_ ?_
            · skip
              rcases h0 : (((exQ a ex []).2 == 0) : Bool) with _ | _
              · skip
                refine rc 30000 ?_
                iterate 4 (first | refine gp 30350 ?_ | refine os ?_ | refine gt 30350 ?_)
                refine oe 30400 ?_
                refine on ?_
                refine k_nil ?_
                refine ⟨rfl, ?_, ?_, ?_⟩ <;> simp [*]
              · skip
                obtain ⟨t, hq1⟩ := exQ_one hex1 (by simpa using h0)
                refine rc 1030000 ?_
                iterate 4 (first | refine gp 1030350 ?_ | refine os ?_ | refine gt 1030350 ?_)
                refine oe 1030400 ?_
                refine on ?_
                refine k_nil ?_
                refine ⟨rfl, ?_, ?_, ?_⟩ <;> simp [*]
            refine pr [6, 9, 17, 18, 19, 20, 137, 142, 163, 179] ?_
            refine cd ?_ ?_
            · intro h137_12
              have hfin : schR S (Pl.mk k m kids ex cols wth agg rds) A = (a, 11) := by rw [hfin1]; unfold filQ; simp only [List.getD_eq_getElem?_getD]; rw [if_pos h137_12]
              clear hfin1
              refine rg 31000 ?_
              refine pr [6, 9, 17, 18, 19, 20, 138, 142, 163, 179] ?_
              refine sq ?_
              refine rg 32000 ?_
              refine pr [6, 9, 19, 20, 163, 179] ?_
              refine k_ret ?_
              show retQ _ _ _ _ _ _ _
              simp [*]
            · intro h137_12
              have hfin : schR S (Pl.mk k m kids ex cols wth agg rds) A = (a, (exQ a ex []).2) := by rw [hfin1]; unfold filQ; simp only [List.getD_eq_getElem?_getD]; rw [if_neg (by rw [h137_12]; decide)]
              clear hfin1
              refine k_skip ?_
              refine sq ?_
              refine rg 32000 ?_
              refine pr [6, 9, 19, 20, 163, 179] ?_
              refine k_ret ?_
              show retQ _ _ _ _ _ _ _
              simp [*]
          · intro h119_11
            have h4n : ¬ ((k == 4) = true) := by rw [h119_11]; decide
            refine sq ?_
            refine rg 33000 ?_
            refine pr [3, 4, 6, 9, 19, 20, 100, 101, 142, 143, 144, 179] ?_
            refine cd ?_ ?_
            · intro h142_13
              obtain ⟨a2, b, hab⟩ := len2L (l := acc) (by have := hk7 h142_13; omega)
              have haa : a2 = a := by rw [← hg0, hab]; rfl
              clear hg0 h0e h0l htf
              subst hab
              subst haa
              have hb8 : b.length ≤ 8 := hac8 b (by simp)
              have hfin : schR S (Pl.mk k m kids ex cols wth agg rds) A = joinQ cols wth a2 b := by rw [hfin0]; unfold fnQ; rw [if_neg h3n, if_neg h4n, if_pos h142_13]; rfl
              clear hfin0 hk7 hac8
              refine sq ?_
              refine dr ?_
              refine de 34000 ?_
              refine dc id ((show Flat.Sp Try.prog 177 [(Pl.mk k m kids ex cols wth agg rds).av, .p (.ps (a2.map trow)), .p (.ps (b.map trow))] [] _ [] from spec177 k m kids ex cols wth agg rds a2 b (by simp only [Bnd]; omega) (by simp only [Bnd]; omega) (by simp only [Bnd, List.length_append]; omega) hcb hwb)) ?_
              refine de 34100 ?_
              refine dn ?_
              refine pr [6, 9, 19, 20, 163, 179] ?_
              refine k_ret ?_
              show retQ _ _ _ _ _ _ _
              simp [*]
            · intro h142_13
              have h7n : ¬ ((k == 7) = true) := by rw [h142_13]; decide
              refine sq ?_
              refine rg 35000 ?_
              refine pr [3, 4, 6, 9, 19, 20, 154, 155, 156, 179] ?_
              refine cd ?_ ?_
              · intro h154_14
                have hfin : schR S (Pl.mk k m kids ex cols wth agg rds) A = redQ a cols m agg := by rw [hfin0]; unfold fnQ; rw [if_neg h3n, if_neg h4n, if_neg h7n, if_pos h154_14, hg0]
                clear hfin0
                refine sq ?_
                refine dr ?_
                refine de 36000 ?_
                refine dc id ((show Flat.Sp Try.prog 178 [(Pl.mk k m kids ex cols wth agg rds).av, .p (.ps (a.map trow))] [] _ [] from spec178 k m kids ex cols wth agg rds a (by simp only [Bnd]; omega) hcb)) ?_
                refine de 36100 ?_
                refine dn ?_
                refine pr [6, 9, 19, 20, 163, 179] ?_
                refine k_ret ?_
                show retQ _ _ _ _ _ _ _
                simp [*]
              · intro h154_14
                have hfin1 : schR S (Pl.mk k m kids ex cols wth agg rds) A = if acc.any (nqS a) then ([], 11) else (a, 0) := by rw [hfin0]; unfold fnQ; rw [if_neg h3n, if_neg h4n, if_neg h7n, if_neg (by rw [h154_14]; decide), hg0]
                have hacl : acc.length ≤ Flat.lim := by omega
                clear hfin0
                refine k_skip ?_
                refine k_nil ?_
                show AK _ _ _ _ _ _
                refine sq ?_
                refine sq ?_
                refine rg 37000 ?_
                refine pr [6, 9, 19, 20, 163, 179] ?_
                refine k_block ?_
                refine k_loop (fun n l => ∃ j, j + n = acc.length ∧ ((acc.drop j).any (nqS a) = acc.any (nqS a)) ∧ l = [(.tmp 8, .av (.p (.ps (acc.map srow)))), (.tmp 163, .av (.p (.ps (acc.map srow)))), (.tmp 164, .av (vv (.int .i64 acc.length))), (.tmp 165, .av (vv (.int .i64 j)))]) (acc.length) hG ⟨_, ⟨by simp, by simp, by simp⟩, 0, by simp, rfl, rfl⟩ ?_
                rintro n2 _ ⟨j, hin2, hcm2, rfl⟩
                refine sq ?_
                refine rg 38000 ?_
                refine pr [6, 9, 19, 20, 163, 179] ?_
                refine sq ?_
                refine cd ?_ ?_
                · intro h166_15
                  have hlt : j < acc.length := by simpa using h166_15
                  obtain ⟨y, hxe⟩ : ∃ y, acc[j] = y := ⟨_, rfl⟩
                  have hx : acc[j]? = some y := by simp [hlt, hxe]
                  have hw := wrap_succ (show j < Flat.lim by omega)
                  have hdr := any_dropT (p := nqS a) hx
                  have hy8 := hac8 y (List.mem_of_getElem? hx)
                  refine k_skip ?_
                  refine sq ?_
                  refine k_block ?_
                  refine sq ?_
                  refine rg 39000 ?_
                  refine pr [6, 9, 19, 20, 163, 179] ?_
                  refine sq ?_
                  refine rc 40000 ?_
                  refine oc id (spec31 y a (Nat.le_trans hy8 (by simp [Flat.lim]))) ?_
                  refine oe 40100 ?_
                  refine on ?_
                  refine pr [6, 9, 19, 20, 163, 179] ?_
                  refine cd ?_ ?_
                  · intro h174_16
                    have hba : acc.any (nqS a) = true := by rw [← hcm2, hdr, show nqS a y = true from h174_16]; rfl
                    have hfin : schR S (Pl.mk k m kids ex cols wth agg rds) A = ([], 11) := by rw [hfin1, hba]; rfl
                    clear hfin1
                    refine sq ?_
                    refine rg 41000 ?_
                    refine pr [6, 9, 19, 20, 163, 179] ?_
                    refine k_ret ?_
                    show retQ _ _ _ _ _ _ _
                    simp [*]
                  · intro h174_16
                    have hnext2 : (acc.drop (j + 1)).any (nqS a) = acc.any (nqS a) := by rw [← hcm2, hdr, show nqS a y = false from h174_16]; rfl
                    refine k_skip ?_
                    refine k_nil ?_
                    show AK _ _ _ _ _ _
                    refine rg 42000 ?_
                    refine k_nil ?_
                    refine ⟨n2 - 1, by omega, _, ⟨?_, ?_, ?_⟩, j + 1, by omega, hnext2, rfl⟩ <;> simp [*]
                · intro h166_15
                  have hge : acc.length ≤ j := by simpa using h166_15
                  have hba : acc.any (nqS a) = false := by rw [← hcm2, List.drop_eq_nil_of_le hge]; rfl
                  have hfin : schR S (Pl.mk k m kids ex cols wth agg rds) A = (a, 0) := by rw [hfin1, hba]; rfl
                  clear hfin1
                  refine k_exit ?_
                  show AK _ _ _ _ _ _
                  refine sq ?_
                  refine rg 43000 ?_
                  refine pr [6, 8] ?_
                  refine k_ret ?_
                  show retQ _ _ _ _ _ _ _
                  simp [*]

end Go.Proofs
end
section
set_option linter.unusedVariables false
set_option linter.unusedSimpArgs false
namespace Go.Proofs
open Go.Flat
theorem exL_split : ∀ (ex : List E) (b g : Bool), exL ex (b, g) = ((exL ex (b, false)).1, g || (exL ex (b, false)).2)
  | [], b, g => by simp [exL]
  | e :: r, b, g => by
    simp only [exL_cons, exF, Bool.false_or]
    rw [exL_split r _ (g || _), exL_split r _ (checkE e == 2)]
    simp [Bool.or_assoc]
/-- What a plan's survey says beside the document's count. -/
def Like (p : Pl) : Prop := ∀ (d lo : Int) (s : PSrv), 1 ≤ d → d ≤ 17 →
  (plook p d lo s).1 = IntKind.i64.wrap (s.1 + (fmP p (17 - d)).2.1) ∧ (plook p d lo s).2.2.2.1 = (s.2.2.2.1 || !(fmP p (17 - d)).1) ∧ (plook p d lo s).2.2.2.2 = (s.2.2.2.2 || (fmP p (17 - d)).2.2)
theorem fmL_like {l : List Pl} (ih : ∀ x ∈ l, Like x) {d : Int} (h0 : 1 ≤ d) (h1 : d ≤ 16) (k lo : Int) : ∀ (i : Int) (s : PSrv) (t : Fm) (a : Int) (b w : Bool), s.1 = IntKind.i64.wrap (a + t.2.1) → s.2.2.2.1 = (b || !t.1) → s.2.2.2.2 = (w || t.2.2) →
    (plookL l k i d lo s).1 = IntKind.i64.wrap (a + (fmL l (17 - (d + 1)) t).2.1) ∧ (plookL l k i d lo s).2.2.2.1 = (b || !(fmL l (17 - (d + 1)) t).1) ∧ (plookL l k i d lo s).2.2.2.2 = (w || (fmL l (17 - (d + 1)) t).2.2) := by
  induction l with
  | nil => intro i s t a b w e1 e2 e3; rw [plookL, fmL]; exact ⟨e1, e2, e3⟩
  | cons x r hr =>
    intro i s t a b w e1 e2 e3
    rw [plookL, fmL]
    obtain ⟨g1, g2, g3⟩ := ih x (by simp) (d + 1) (IntKind.i64.wrap (lo + morP k i)) s (by omega) (by omega)
    rw [w64_in (n := d + 1) (by omega) (by omega)]
    refine hr (fun y hy => ih y (by simp [hy])) (i + 1) _ _ a b w ?_ ?_ ?_
    · rw [g1, e1, w64_add, w64_r, Int.add_assoc]
    · rw [g2, e2]; cases b <;> cases t.1 <;> simp
    · rw [g3, e3, Bool.or_assoc]
theorem like : ∀ p : Pl, Like p := by
  refine Pl.ind fun k m kids ex cols wth agg rds ih d lo s h0 h1 => ?_
  rw [plook, fmP]
  rw [exL_split ex _ s.2.2.2.2]
  have hd : decide (d > 16) = (17 - d == 0) := by
    by_cases h : d = 17
    · subst h; rfl
    · have e1 : ¬ d > 16 := by omega
      have e2 : ¬ 17 - d = 0 := by omega
      simp [e1, e2]
  rw [hd, Bool.or_comm (17 - d == 0)]
  split
  · exact ⟨rfl, rfl, rfl⟩
  · rename_i hc
    have hdn : d ≤ 16 := by
      by_cases h : d ≤ 16
      · exact h
      · have : d = 17 := by omega
        subst this; simp at hc
    have hok : (exL ex (formedP k m kids.length ex cols wth agg rds, false)).1 = true := by
      cases h : (exL ex (formedP k m kids.length ex cols wth agg rds, false)).1 with
      | true => rfl
      | false => rw [h] at hc; simp at hc
    have e1 : IntKind.i64.wrap (17 - d - 1) = 17 - (d + 1) := by rw [w64_in (by omega) (by omega)]; omega
    rw [e1]
    exact fmL_like ih h0 hdn k lo 0 _ _ s.1 s.2.2.2.1 s.2.2.2.2 rfl rfl rfl
theorem fmL_ok : ∀ {l : List Pl} {d : Int} {t : Fm}, (fmL l d t).1 = true → t.1 = true ∧ ∀ x ∈ l, (fmP x d).1 = true
  | [], d, t, h => ⟨by rwa [fmL] at h, by simp⟩
  | y :: r, d, t, h => by
    rw [fmL] at h
    obtain ⟨h1, h2⟩ := fmL_ok h
    simp only [Bool.and_eq_true] at h1
    refine ⟨h1.1, fun x hx => ?_⟩
    rcases List.mem_cons.1 hx with rfl | hx
    · exact h1.2
    · exact h2 x hx
/-- A right plan: its kids are. -/
theorem fmP_ok {k m : Int} {kids : List Pl} {ex : List E} {cols wth : List Int} {agg rds d : Int} (h : (fmP (.mk k m kids ex cols wth agg rds) d).1 = true) : (exL ex (formedP k m kids.length ex cols wth agg rds, false)).1 = true ∧ (d ≠ 0 → ∀ x ∈ kids, (fmP x (IntKind.i64.wrap (d - 1))).1 = true) := by
  rw [fmP] at h
  split at h
  · rename_i hc
    have hok : (exL ex (formedP k m kids.length ex cols wth agg rds, false)).1 = true := h
    refine ⟨hok, fun hd => ?_⟩
    rw [hok] at hc
    simp at hc
    exact absurd hc hd
  · obtain ⟨h1, h2⟩ := fmL_ok h
    exact ⟨h1, fun _ => h2⟩
theorem dpPL_ge : ∀ (l : List Pl) (m a : Int), a ≤ dpPL l m a ∧ ∀ x ∈ l, dpP x m ≤ dpPL l m a
  | [], m, a => by simp [dpPL]
  | y :: r, m, a => by
    rw [dpPL]
    obtain ⟨h1, h2⟩ := dpPL_ge r m (if decide (a < dpP y m) then dpP y m else a)
    have h3 : a ≤ (if decide (a < dpP y m) then dpP y m else a) ∧ dpP y m ≤ (if decide (a < dpP y m) then dpP y m else a) := by
      by_cases h : a < dpP y m
      · simp only [h, decide_true, if_true]; omega
      · simp only [h, decide_false]; simp; omega
    refine ⟨by omega, fun x hx => ?_⟩
    rcases List.mem_cons.1 hx with rfl | hx
    · omega
    · exact h2 x hx
theorem dpPL_le {l : List Pl} {m b : Int} (h : ∀ x ∈ l, dpP x m ≤ b) : ∀ a : Int, a ≤ b → dpPL l m a ≤ b := by
  induction l with
  | nil => intro a ha; rw [dpPL]; exact ha
  | cons x r hr =>
    intro a ha
    rw [dpPL]
    refine hr (fun y hy => h y (by simp [hy])) _ ?_
    split
    · exact h x (by simp)
    · exact ha
/-- How deep a plan is as far as a depth goes. -/
theorem dpP_bd : ∀ (p : Pl) (d : Int), 1 ≤ d → d ≤ 17 → 1 ≤ dpP p (18 - d) ∧ dpP p (18 - d) ≤ 18 - d := by
  refine Pl.ind fun k m kids ex cols wth agg rds ih d h0 h1 => ?_
  rw [dpP]
  by_cases h : d ≤ 16
  · have e1 : IntKind.i64.wrap (18 - d - 1) = 18 - (d + 1) := by rw [w64_in (by omega) (by omega)]; omega
    rw [if_pos (by simp; omega), e1]
    have g1 := (dpPL_ge kids (18 - (d + 1)) 0).1
    have g2 := dpPL_le (l := kids) (m := 18 - (d + 1)) (b := 18 - (d + 1)) (fun x hx => (ih x hx (d + 1) (by omega) (by omega)).2) 0 (by omega)
    rw [w64_in (by omega) (by omega)]
    omega
  · rw [if_neg (by simp; omega), w64_in (by omega) (by omega)]
    omega
theorem dpP_kids {k m : Int} {kids : List Pl} {ex : List E} {cols wth : List Int} {agg rds d : Int} (h0 : 1 ≤ d) (h1 : d ≤ 16) : dpP (.mk k m kids ex cols wth agg rds) (18 - d) = dpPL kids (18 - (d + 1)) 0 + 1 := by
  have e1 : IntKind.i64.wrap (18 - d - 1) = 18 - (d + 1) := by rw [w64_in (by omega) (by omega)]; omega
  rw [dpP, if_pos (by simp; omega), e1]
  have g1 := (dpPL_ge kids (18 - (d + 1)) 0).1
  have g2 := dpPL_le (l := kids) (m := 18 - (d + 1)) (b := 18 - (d + 1)) (fun x hx => (dpP_bd x (d + 1) (by omega) (by omega)).2) 0 (by omega)
  rw [w64_in (by omega) (by omega)]
/-- The depth that the survey comes to. -/
def Deep (p : Pl) : Prop := ∀ (d lo : Int) (s : PSrv), 1 ≤ d → d ≤ 17 → (fmP p (17 - d)).1 = true → (plook p d lo s).2.1 = max s.2.1 (d - 1 + dpP p (18 - d))
theorem deepL {l : List Pl} (ih : ∀ x ∈ l, Deep x) {d : Int} (h0 : 1 ≤ d) (h1 : d ≤ 16) (hf : ∀ x ∈ l, (fmP x (17 - (d + 1))).1 = true) (k lo : Int) : ∀ (i : Int) (s : PSrv) (a : Int), 0 ≤ a → s.2.1 ≥ d + a → (plookL l k i d lo s).2.1 = max s.2.1 (d + dpPL l (18 - (d + 1)) a) := by
  induction l with
  | nil => intro i s a ha hs; rw [plookL, dpPL]; omega
  | cons x r hr =>
    intro i s a ha hs
    rw [plookL, dpPL, w64_in (n := d + 1) (by omega) (by omega)]
    have g := ih x (by simp) (d + 1) (IntKind.i64.wrap (lo + morP k i)) s (by omega) (by omega) (hf x (by simp))
    have hb := dpP_bd x (d + 1) (by omega) (by omega)
    have hm : (if decide (a < dpP x (18 - (d + 1))) then dpP x (18 - (d + 1)) else a) = max a (dpP x (18 - (d + 1))) := by
      by_cases h : a < dpP x (18 - (d + 1))
      · simp only [h, decide_true, if_true]; omega
      · simp only [h, decide_false]; simp; omega
    rw [hm, hr (fun y hy => ih y (by simp [hy])) (fun y hy => hf y (by simp [hy])) (i + 1) (plook x (d + 1) (IntKind.i64.wrap (lo + morP k i)) s) (max a (dpP x (18 - (d + 1)))) (by omega) (by rw [g]; omega), g]
    have g1 := (dpPL_ge r (18 - (d + 1)) (max a (dpP x (18 - (d + 1))))).1
    omega
theorem deep_eq : ∀ p : Pl, Deep p := by
  refine Pl.ind fun k m kids ex cols wth agg rds ih d lo s h0 h1 hf => ?_
  obtain ⟨f1, f2⟩ := fmP_ok hf
  rw [plook]
  rw [exL_split ex _ s.2.2.2.2]
  simp only [f1]
  have hmx : (if d > s.2.1 then d else s.2.1) = max s.2.1 d := by split <;> omega
  by_cases h : d ≤ 16
  · have e1 : IntKind.i64.wrap (17 - d - 1) = 17 - (d + 1) := by rw [w64_in (by omega) (by omega)]; omega
    rw [e1] at f2
    rw [if_neg (by simp; omega), deepL ih h0 h (f2 (by omega)) k lo 0 _ 0 (by omega) (by simp only [hmx]; omega), dpP_kids h0 h]
    simp only [hmx]
    have g1 := (dpPL_ge kids (18 - (d + 1)) 0).1
    omega
  · have : d = 17 := by omega
    subst this
    rw [if_pos (by simp)]
    have := dpP_bd (.mk k m kids ex cols wth agg rds) 17 (by omega) (by omega)
    simp only [hmx]
    omega
theorem lpQL_ge : ∀ (l : List Pl) (k i a : Int), a ≤ lpQL l k i a
  | [], k, i, a => by simp [lpQL]
  | y :: r, k, i, a => by
    rw [lpQL]
    refine Int.le_trans ?_ (lpQL_ge r k (i + 1) _)
    generalize (if (k == 10 && i == 1) = true then IntKind.i64.wrap (lpQ y + 1) else lpQ y) = z
    by_cases h : a < z
    · simp only [h, decide_true, if_true]; omega
    · simp only [h, decide_false]; simp
/-- The loops that the survey comes to. -/
def Loop (p : Pl) : Prop := ∀ (d lo : Int) (s : PSrv), 1 ≤ d → d ≤ 17 → 0 ≤ lo → lo < d → (fmP p (17 - d)).1 = true → dpP p (18 - d) ≤ 17 - d → (plook p d lo s).2.2.1 = max s.2.2.1 (lo + lpQ p) ∧ 0 ≤ lpQ p ∧ lpQ p ≤ 16 - d
theorem loopL {l : List Pl} (ih : ∀ x ∈ l, Loop x) {d lo : Int} (h0 : 1 ≤ d) (h1 : d ≤ 16) (hl0 : 0 ≤ lo) (hl : lo < d) (hf : ∀ x ∈ l, (fmP x (17 - (d + 1))).1 = true) (hd : ∀ x ∈ l, dpP x (18 - (d + 1)) ≤ 17 - (d + 1)) (k : Int) : ∀ (i : Int) (s : PSrv) (a : Int), 0 ≤ a → a ≤ 16 - d → s.2.2.1 ≥ lo + a → (plookL l k i d lo s).2.2.1 = max s.2.2.1 (lo + lpQL l k i a) ∧ lpQL l k i a ≤ 16 - d := by
  induction l with
  | nil => intro i s a ha ha2 hs; rw [plookL, lpQL]; omega
  | cons x r hr =>
    intro i s a ha ha2 hs
    rw [plookL, lpQL, w64_in (n := d + 1) (by omega) (by omega)]
    have hmo : 0 ≤ morP k i ∧ morP k i ≤ 1 := by unfold morP; split <;> omega
    rw [w64_in (n := lo + morP k i) (by omega) (by omega)]
    obtain ⟨g, g2, g3⟩ := ih x (by simp) (d + 1) (lo + morP k i) s (by omega) (by omega) (by omega) (by omega) (hf x (by simp)) (hd x (by simp))
    have hz : (if (k == 10 && i == 1) = true then IntKind.i64.wrap (lpQ x + 1) else lpQ x) = lpQ x + morP k i := by
      unfold morP
      split
      · rw [w64_in (by omega) (by omega)]
      · omega
    rw [hz]
    have hm : (if decide (a < lpQ x + morP k i) then lpQ x + morP k i else a) = max a (lpQ x + morP k i) := by
      by_cases h : a < lpQ x + morP k i
      · simp only [h, decide_true, if_true]; omega
      · simp only [h, decide_false]; simp; omega
    rw [hm]
    obtain ⟨q1, q2⟩ := hr (fun y hy => ih y (by simp [hy])) (fun y hy => hf y (by simp [hy])) (fun y hy => hd y (by simp [hy])) (i + 1) (plook x (d + 1) (lo + morP k i) s) (max a (lpQ x + morP k i)) (by omega) (by omega) (by rw [g]; omega)
    refine ⟨?_, q2⟩
    rw [q1, g]
    have g1 := lpQL_ge r k (i + 1) (max a (lpQ x + morP k i))
    omega
theorem loop_eq : ∀ p : Pl, Loop p := by
  refine Pl.ind fun k m kids ex cols wth agg rds ih d lo s h0 h1 hl0 hl hf hd => ?_
  obtain ⟨f1, f2⟩ := fmP_ok hf
  rw [plook]
  rw [exL_split ex _ s.2.2.2.2]
  simp only [f1]
  have hmx : (if lo > s.2.2.1 then lo else s.2.2.1) = max s.2.2.1 lo := by split <;> omega
  have hb := dpP_bd (.mk k m kids ex cols wth agg rds) d h0 h1
  have h : d ≤ 16 := by omega
  have e1 : IntKind.i64.wrap (17 - d - 1) = 17 - (d + 1) := by rw [w64_in (by omega) (by omega)]; omega
  rw [e1] at f2
  rw [dpP_kids h0 h] at hd
  obtain ⟨q1, q2⟩ := loopL ih h0 h hl0 hl (f2 (by omega)) (fun x hx => by have := (dpPL_ge kids (18 - (d + 1)) 0).2 x hx; omega) k 0 (IntKind.i64.wrap (s.1 + 1), (if d > s.2.1 then d else s.2.1), (if lo > s.2.2.1 then lo else s.2.2.1), s.2.2.2.1 || !true, s.2.2.2.2 || (exL ex (formedP k m kids.length ex cols wth agg rds, false)).2) 0 (by omega) (by omega) (by simp only [hmx]; omega)
  have g1 := lpQL_ge kids k 0 0
  rw [if_neg (by simp; omega), q1, lpQ]
  simp only [hmx]
  omega
/-- The document's check. -/
def checkPr (p : Pl) : Int := if !(fmP p 16).1 then 4 else if (fmP p 16).2.2 || (decide (64 < (fmP p 16).2.1) || (decide (16 < dpP p 17) || decide (2 < lpQ p))) then 2 else 0
theorem fmL_wrap : ∀ (l : List Pl) (d : Int) (t : Fm), IntKind.i64.wrap t.2.1 = t.2.1 → IntKind.i64.wrap (fmL l d t).2.1 = (fmL l d t).2.1
  | [], d, t, h => by rw [fmL]; exact h
  | x :: r, d, t, h => by rw [fmL]; exact fmL_wrap r d _ (w64_w _)
theorem fmP_wrap (p : Pl) (d : Int) : IntKind.i64.wrap (fmP p d).2.1 = (fmP p d).2.1 := by
  obtain ⟨k, m, kids, ex, cols, wth, agg, rds⟩ := p
  rw [fmP]
  split
  · rfl
  · exact fmL_wrap _ _ _ rfl
theorem checkPr_eq (p : Pl) : checkPr p = checkP p := by
  obtain ⟨a1, a2, a3⟩ := like p 1 0 (0, 0, 0, false, false) (by omega) (by omega)
  simp only [show (17 : Int) - 1 = 16 by omega, Int.zero_add, Bool.false_or] at a1 a2 a3
  rw [fmP_wrap] at a1
  unfold checkP checkPr surveyP
  simp only
  rw [a1, a2, a3]
  cases hf : (fmP p 16).1 with
  | false => rfl
  | true =>
    have b := deep_eq p 1 0 (0, 0, 0, false, false) (by omega) (by omega) hf
    have hb := dpP_bd p 1 (by omega) (by omega)
    simp only [show (18 : Int) - 1 = 17 by omega] at b hb
    have b' : (plook p 1 0 (0, 0, 0, false, false)).2.1 = dpP p 17 := by rw [b]; omega
    rw [b']
    by_cases hd : dpP p 17 ≤ 16
    · obtain ⟨c, c2, c3⟩ := loop_eq p 1 0 (0, 0, 0, false, false) (by omega) (by omega) (by omega) (by omega) hf hd
      have c' : (plook p 1 0 (0, 0, 0, false, false)).2.2.1 = lpQ p := by rw [c]; show max (0 : Int) (0 + lpQ p) = lpQ p; omega
      rw [c']
      cases (fmP p 16).2.2 <;> by_cases h1 : 64 < (fmP p 16).2.1 <;> by_cases h2 : 16 < dpP p 17 <;> by_cases h3 : 2 < lpQ p <;> simp [h1, h2, h3]
    · have h2 : 16 < dpP p 17 := by omega
      cases (fmP p 16).2.2 <;> by_cases h1 : 64 < (fmP p 16).2.1 <;> simp [h1, h2]
end Go.Proofs
end
section
set_option linter.unusedVariables false
set_option linter.unusedSimpArgs false
namespace Go.Proofs
open Go.Flat
set_option maxRecDepth 100000
set_option linter.unusedSimpArgs false
set_option linter.unusedVariables false
attribute [local simp] Bool.and_assoc Bool.or_assoc evalG evalX efD skF guardG guardL isCall stepL evalOp ev evs lk tmpsL app AV.ok fresh vv putCells insV ins del putL place Go.Flat.look fillC fillR getCells loadF storeF binF scalarBin intBin strBin isShift shiftBin unF lenF maxF minF rowsF appendF builtinF idxF natOf sliceP sliceF optEv Flat.cut overwrite toPV toPVs constAV scalarC scalarCs AV.cells TI.isAgg allSome andAll scalarEq buildable Go.Flat.lim retQ resL resAll resOne PartOf noTmp closedIn refs refs.refsL isSomeV hasB ids leA leA.leL renA renA.renL callB refsAll backL dropIds renS LiesAt injB ownB freshB memN locId insAll leA_refl leL_refl okS frzS frzA frzA.frzL evalD feet fine updCells cellsFrom memP footRf footWf noTmpU updIds opOps opIds idsA footR footW guardTs opTs dstTs callR callW renLoc renC inBlockQ thenQ Value.oneCell' IntKind.bits IntKind.signed PV.up toPH toPHs

attribute [local simp] Pl.av Pl.row_eq
def Nd.av (x : Nd) : AV := match x with
  | ⟨xk, .mk pk pn pq pe pc pw pa pg, xn, xl, xr, xt, xb⟩ => .agg [vv (.int .u8 xk), vv (.int .u8 pk), vv (.int .i64 pn), .p (.ps (pq.map Pl.row)), .p (.ps (pe.map E.row)), .p (.ps (pc.map irow)), .p (.ps (pw.map irow)), vv (.int .u8 pa), vv (.int .i64 pg), vv (.int .i64 xn), vv (.int .i64 xl), vv (.int .i64 xr), .p (.ps (xt.map prow)), .p (.ps (xb.map prow))]
def twoN (xk pk : Int) : Bool := xk == 3 || (xk == 1 && pk == 7)
def Nd.two (x : Nd) : Bool := match x with
  | ⟨xk, .mk pk _ _ _ _ _ _ _, _, _, _, _, _⟩ => twoN xk pk

attribute [local simp] twoN in
theorem spec130 (xk pk pn : Int) (pq : List Pl) (pe : List E) (pc pw : List Int) (pa pg xn xl xr : Int) (xt xb : List Prt) : Flat.Sp Try.prog 130 [.agg [vv (.int .u8 xk), vv (.int .u8 pk), vv (.int .i64 pn), .p (.ps (pq.map Pl.row)), .p (.ps (pe.map E.row)), .p (.ps (pc.map irow)), .p (.ps (pw.map irow)), vv (.int .u8 pa), vv (.int .i64 pg), vv (.int .i64 xn), vv (.int .i64 xl), vv (.int .i64 xr), .p (.ps (xt.map prow)), .p (.ps (xb.map prow))]] [] (vv (.bool (twoN xk pk))) [] := by
  refine sk Try.func130 ?_
  intro F G hn hG
  refine sq ?_
  refine rg 1000 ?_
  refine pr [1, 17] ?_
  refine sq ?_
  refine rc 2000 ?_
  iterate 9 (first | refine gp 2850 ?_ | refine os ?_ | refine gt 2850 ?_)
  refine oe 2900 ?_
  refine on ?_
  refine pr [2, 3] ?_
  refine k_ret ?_
  show retQ _ _ _ _ _ _ _
  simp [*]

def zeroP (k n : Int) (nk ne nc nw : Nat) (a r : Int) : Bool := (k == 0) && ((n == 0) && ((((nk : Int) + ne + nc + nw) == 0) && ((a == 0) && (r == 0))))

attribute [local simp] zeroP in
theorem spec131 (pk pn : Int) (pq : List Pl) (pe : List E) (pc pw : List Int) (pa pg : Int) (h1 : pq.length ≤ Bnd) (h2 : pe.length ≤ Bnd) (h3 : pc.length ≤ Bnd) (h4 : pw.length ≤ Bnd) : Flat.Sp Try.prog 131 [(Pl.mk pk pn pq pe pc pw pa pg).av] [] (vv (.bool (zeroP pk pn pq.length pe.length pc.length pw.length pa pg))) [] := by
  refine sk Try.func131 ?_
  intro F G hn hG
  simp only [Bnd] at h1 h2 h3 h4
  have e1 : IntKind.i64.wrap ((pq.length : Int) + pe.length) = (pq.length : Int) + pe.length := by rw [w64]; omega
  have e2 : IntKind.i64.wrap ((pq.length : Int) + pe.length + pc.length) = (pq.length : Int) + pe.length + pc.length := by rw [w64]; omega
  have e3 : IntKind.i64.wrap ((pq.length : Int) + pe.length + pc.length + pw.length) = (pq.length : Int) + pe.length + pc.length + pw.length := by rw [w64]; omega
  refine sq ?_
  refine rg 1000 ?_
  refine pr [1, 39] ?_
  refine sq ?_
  refine rc 2000 ?_
  iterate 3 (first | refine gp 2250 ?_ | refine os ?_ | refine gt 2250 ?_)
  refine oe 2300 ?_
  iterate 16 (first | refine gp 3850 ?_ | refine os ?_ | refine gt 3850 ?_)
  refine oe 3900 ?_
  iterate 3 (first | refine gp 4150 ?_ | refine os ?_ | refine gt 4150 ?_)
  refine oe 4200 ?_
  iterate 3 (first | refine gp 4450 ?_ | refine os ?_ | refine gt 4450 ?_)
  refine oe 4500 ?_
  refine on ?_
  refine pr [2, 3] ?_
  refine k_ret ?_
  show retQ _ _ _ _ _ _ _
  simp [*]

@[simp] theorem wr_01 : IntKind.i64.wrap (0 + 1) = 1 := rfl
@[simp] theorem wr_11 : IntKind.i64.wrap (1 + 1) = 2 := rfl
@[simp] theorem wr_21 : IntKind.i64.wrap (2 + 1) = 3 := rfl

def noneK (k : Int) : Bool := k == 1 || (k == 2 || k == 10)
theorem spec200 (k : Int) : Flat.Sp Try.prog 200 [.psf [[.v (.int .u8 1)], [.v (.int .u8 2)], [.v (.int .u8 10)]], vv (.int .u8 k)] [] (vv (.int .i64 (if k == 1 then 0 else if k == 2 then 1 else if k == 10 then 2 else -1))) [] := by
  refine sk Try.func200 ?_
  intro F G hn hG
  refine sq ?_
  refine rg 1000 ?_
  refine pr [0, 2, 4, 19] ?_
  refine sq ?_
  refine sq ?_
  refine rg 2000 ?_
  refine pr [0, 2, 4, 6, 7, 19] ?_
  refine k_block ?_
  refine k_rounds 4 ?_
  show AK _ _ _ _ _ _
  refine sq ?_
  refine rg 3000 ?_
  refine pr [0, 2, 4, 6, 7, 19] ?_
  refine sq ?_
  refine ct ?_
  refine k_skip ?_
  refine sq ?_
  refine k_block ?_
  refine sq ?_
  refine rg 4000 ?_
  refine pr [0, 2, 4, 6, 7, 19] ?_
  refine sq ?_
  refine rg 5000 ?_
  refine pr [0, 2, 4, 6, 7, 19] ?_
  refine cd ?_ ?_
  · intro h16_1
    refine sq ?_
    refine rg 6000 ?_
    refine pr [0, 2, 4, 6, 7, 19] ?_
    refine k_ret ?_
    show retQ _ _ _ _ _ _ _
    simp [*]
  · intro h16_1
    refine k_skip ?_
    refine k_nil ?_
    show AK _ _ _ _ _ _
    refine rg 7000 ?_
    refine k_nil ?_
    show AK _ _ _ _ _ _
    refine sq ?_
    refine rg 1003000 ?_
    refine pr [0, 2, 4, 6, 7, 19] ?_
    refine sq ?_
    refine ct ?_
    refine k_skip ?_
    refine sq ?_
    refine k_block ?_
    refine sq ?_
    refine rg 1004000 ?_
    refine pr [0, 2, 4, 6, 7, 19] ?_
    refine sq ?_
    refine rg 1005000 ?_
    refine pr [0, 2, 4, 6, 7, 19] ?_
    refine cd ?_ ?_
    · intro h16_2
      refine sq ?_
      refine rg 6000 ?_
      refine pr [0, 2, 4, 6, 7, 19] ?_
      refine k_ret ?_
      show retQ _ _ _ _ _ _ _
      simp [*]
    · intro h16_2
      refine k_skip ?_
      refine k_nil ?_
      show AK _ _ _ _ _ _
      refine rg 1007000 ?_
      refine k_nil ?_
      show AK _ _ _ _ _ _
      refine sq ?_
      refine rg 2003000 ?_
      refine pr [0, 2, 4, 6, 7, 19] ?_
      refine sq ?_
      refine ct ?_
      refine k_skip ?_
      refine sq ?_
      refine k_block ?_
      refine sq ?_
      refine rg 2004000 ?_
      refine pr [0, 2, 4, 6, 7, 19] ?_
      refine sq ?_
      refine rg 2005000 ?_
      refine pr [0, 2, 4, 6, 7, 19] ?_
      refine cd ?_ ?_
      · intro h16_3
        refine sq ?_
        refine rg 6000 ?_
        refine pr [0, 2, 4, 6, 7, 19] ?_
        refine k_ret ?_
        show retQ _ _ _ _ _ _ _
        simp [*]
      · intro h16_3
        refine k_skip ?_
        refine k_nil ?_
        show AK _ _ _ _ _ _
        refine rg 2007000 ?_
        refine k_nil ?_
        show AK _ _ _ _ _ _
        refine sq ?_
        refine rg 3003000 ?_
        refine pr [0, 2, 4, 6, 7, 19] ?_
        refine sq ?_
        refine ce ?_
        refine k_exit ?_
        show AK _ _ _ _ _ _
        refine sq ?_
        refine rg 8000 ?_
        refine pr [4, 5] ?_
        refine k_ret ?_
        show retQ _ _ _ _ _ _ _
        simp [*]

theorem noneK_idx (k : Int) : decide ((0 : Int) ≤ if k = 1 then 0 else if k = 2 then 1 else if k = 10 then 2 else -1) = noneK k := by
  unfold noneK
  by_cases h1 : k = 1
  · simp [h1]
  · by_cases h2 : k = 2
    · simp [h1, h2]
    · by_cases h3 : k = 10 <;> simp [h1, h2, h3]

attribute [local simp] noneK_idx in
theorem spec180 (k : Int) : Flat.Sp Try.prog 180 [.psf [[.v (.int .u8 1)], [.v (.int .u8 2)], [.v (.int .u8 10)]], vv (.int .u8 k)] [] (vv (.bool (noneK k))) [] := by
  refine sk Try.func180 ?_
  intro F G hn hG
  refine sq ?_
  refine rg 1000 ?_
  refine pr [0, 2, 4, 9] ?_
  refine sq ?_
  refine rc 2000 ?_
  refine oc id (spec200 k) ?_
  refine oe 2100 ?_
  refine on ?_
  refine pr [4, 5] ?_
  refine k_ret ?_
  show retQ _ _ _ _ _ _ _
  simp [*]

def srcP0 : Pl := .mk 1 0 [] [] [] [] 0 0
/-- Whether the plan of a node that does what a plan does is right. -/
def madeP (pk pn : Int) (nk : Nat) (pe : List E) (pc pw : List Int) (pa pg : Int) : Bool := if decide (0 < nk) || noneK pk then false else checkP (.mk pk pn (if pk == 7 then [srcP0, srcP0] else [srcP0]) pe pc pw pa pg) == 0

attribute [local simp] madeP srcP0 in
theorem spec132 (pk pn : Int) (pq : List Pl) (pe : List E) (pc pw : List Int) (pa pg : Int) (h2 : pe.length ≤ Bnd) (h3 : pc.length ≤ Bnd) (h4 : pw.length ≤ Bnd) : Flat.Sp Try.prog 132 [(Pl.mk pk pn pq pe pc pw pa pg).av] [] (vv (.bool (madeP pk pn pq.length pe pc pw pa pg))) [] := by
  refine sk Try.func132 ?_
  intro F G hn hG
  have hb1 : (Pl.mk pk pn [srcP0] pe pc pw pa pg).bnd := by rw [Pl.bnd]; exact ⟨by simp [Bnd], h2, h3, h4, by simp [Pl.bndL, srcP0, Pl.bnd]⟩
  have hb2 : (Pl.mk pk pn [srcP0, srcP0] pe pc pw pa pg).bnd := by rw [Pl.bnd]; exact ⟨by simp [Bnd], h2, h3, h4, by simp [Pl.bndL, srcP0, Pl.bnd]⟩
  have hb3 : (Pl.mk pk pn (if pk == 7 then [srcP0, srcP0] else [srcP0]) pe pc pw pa pg).bnd := by split <;> assumption
  refine sq ?_
  refine rg 1000 ?_
  refine pr [1, 30] ?_
  refine sq ?_
  refine rg 2000 ?_
  refine pr [1, 5, 6, 30] ?_
  refine sq ?_
  refine rg 3000 ?_
  refine pr [1, 5, 7, 30] ?_
  refine sq ?_
  refine sq ?_
  refine rc 4000 ?_
  iterate 3 (first | refine gp 4250 ?_ | refine os ?_ | refine gt 4250 ?_)
  refine og (fun hg => spec180 pk) ?_
  refine oe 4400 ?_
  refine on ?_
  refine pr [1, 4, 16, 30] ?_
  refine cd ?_ ?_
  · intro h16_1
    refine sq ?_
    refine rg 5000 ?_
    refine pr [1, 4, 17, 30] ?_
    refine k_ret ?_
    show retQ _ _ _ _ _ _ _
    simp [*]
  · intro h16_1
    refine k_skip ?_
    refine sq ?_
    refine rg 6000 ?_
    refine pr [1, 4, 20, 30] ?_
    refine sq ?_
    refine sq ?_
    refine rg 7000 ?_
    refine pr [1, 4, 22, 30] ?_
    refine cd ?_ ?_
    · intro h22_2
      refine rg 8000 ?_
      refine pr [1, 3, 27, 30] ?_
      refine sq ?_
      refine rc 9000 ?_
      refine oc id (spec32 pk pn (if pk == 7 then [srcP0, srcP0] else [srcP0]) pe pc pw pa pg hb3) ?_
      refine oe 9100 ?_
      refine on ?_
      refine pr [2, 3] ?_
      refine k_ret ?_
      show retQ _ _ _ _ _ _ _
      simp [*]
    · intro h22_2
      refine k_skip ?_
      refine sq ?_
      refine rc 9000 ?_
      refine oc id (spec32 pk pn (if pk == 7 then [srcP0, srcP0] else [srcP0]) pe pc pw pa pg hb3) ?_
      refine oe 9100 ?_
      refine on ?_
      refine pr [2, 3] ?_
      refine k_ret ?_
      show retQ _ _ _ _ _ _ _
      simp [*]

def rightN (xk n lo rd : Int) (nb : Nat) (z md : Bool) : Bool :=
  if xk == 1 then ((lo == 0) && ((rd == 0) && ((nb : Int) == 0))) && ((n == 0) && md)
  else if xk == 2 then ((lo == 0) && ((rd == 0) && ((nb : Int) == 0))) && (decide (0 ≤ n) && (decide (n < 8) && z))
  else if xk == 5 then ((lo == 0) && ((rd == 0) && ((nb : Int) == 0))) && ((n == 0) && z)
  else if xk == 3 then decide (0 ≤ lo) && (decide (lo < 2) && (decide (1 ≤ rd) && (decide (rd ≤ 16) && ((n == 0) && z))))
  else if xk == 4 then (decide (0 ≤ lo) && (decide (lo < 2) && (decide (1 ≤ rd) && (decide (rd ≤ 16) && ((n == 0) && z))))) && ((nb : Int) == 0)
  else false

attribute [local simp] rightN in
set_option maxHeartbeats 1000000 in
theorem spec74 (xk pk pn : Int) (pq : List Pl) (pe : List E) (pc pw : List Int) (pa pg xn xl xr : Int) (xt xb : List Prt) (h1 : pq.length ≤ Bnd) (h2 : pe.length ≤ Bnd) (h3 : pc.length ≤ Bnd) (h4 : pw.length ≤ Bnd) : Flat.Sp Try.prog 74 [.agg [vv (.int .u8 xk), vv (.int .u8 pk), vv (.int .i64 pn), .p (.ps (pq.map Pl.row)), .p (.ps (pe.map E.row)), .p (.ps (pc.map irow)), .p (.ps (pw.map irow)), vv (.int .u8 pa), vv (.int .i64 pg), vv (.int .i64 xn), vv (.int .i64 xl), vv (.int .i64 xr), .p (.ps (xt.map prow)), .p (.ps (xb.map prow))]] [] (vv (.bool (rightN xk xn xl xr xb.length (zeroP pk pn pq.length pe.length pc.length pw.length pa pg) (madeP pk pn pq.length pe pc pw pa pg)))) [] := by
  refine sk Try.func74 ?_
  intro F G hn hG
  refine sq ?_
  refine rg 1000 ?_
  refine pr [1, 105] ?_
  refine sq ?_
  refine cv [(.tmp 3, vv (.bool (decide (0 ≤ xl) && (decide (xl < 2) && (decide (1 ≤ xr) && (decide (xr ≤ 16) && ((xn == 0) && (zeroP pk pn pq.length pe.length pc.length pw.length pa pg))))))))] ?_ ?_
  · skip
    refine rc 2000 ?_
    iterate 3 (first | refine gp 2250 ?_ | refine os ?_ | refine gt 2250 ?_)
    refine oe 2300 ?_
    iterate 3 (first | refine gp 2550 ?_ | refine os ?_ | refine gt 2550 ?_)
    refine oe 2600 ?_
    iterate 3 (first | refine gp 2850 ?_ | refine os ?_ | refine gt 2850 ?_)
    refine oe 2900 ?_
    iterate 3 (first | refine gp 3150 ?_ | refine os ?_ | refine gt 3150 ?_)
    refine oe 3200 ?_
    iterate 2 (first | refine gp 3350 ?_ | refine os ?_ | refine gt 3350 ?_)
    refine og (fun hg => spec131 pk pn pq pe pc pw pa pg h1 h2 h3 h4) ?_
    refine oe 3500 ?_
    refine on ?_
    refine k_nil ?_
    refine ⟨rfl, ?_, ?_, ?_⟩ <;> simp [*]
  refine pr [1, 5, 33, 105] ?_
  refine sq ?_
  refine cv [(.tmp 4, vv (.bool ((xl == 0) && ((xr == 0) && ((xb.length : Int) == 0)))))] ?_ ?_
  · skip
    refine rc 3000 ?_
    iterate 3 (first | refine gp 3250 ?_ | refine os ?_ | refine gt 3250 ?_)
    refine oe 3300 ?_
    iterate 4 (first | refine gp 3650 ?_ | refine os ?_ | refine gt 3650 ?_)
    refine oe 3700 ?_
    refine on ?_
    refine k_nil ?_
    refine ⟨rfl, ?_, ?_, ?_⟩ <;> simp [*]
  refine pr [1, 5, 47, 105] ?_
  refine sq ?_
  refine sq ?_
  refine rg 4000 ?_
  refine pr [1, 5, 48, 105] ?_
  refine k_block ?_
  refine sq ?_
  refine rg 5000 ?_
  refine pr [1, 5, 48, 50, 51, 105] ?_
  refine cd ?_ ?_
  · intro h49_1
    refine sq ?_
    refine rc 6000 ?_
    iterate 3 (first | refine gp 6250 ?_ | refine os ?_ | refine gt 6250 ?_)
    refine oe 6300 ?_
    iterate 2 (first | refine gp 6450 ?_ | refine os ?_ | refine gt 6450 ?_)
    refine og (fun hg => spec132 pk pn pq pe pc pw pa pg h2 h3 h4) ?_
    refine oe 6600 ?_
    refine on ?_
    refine pr [2, 3] ?_
    refine k_ret ?_
    show retQ _ _ _ _ _ _ _
    simp [*]
  · intro h49_1
    refine sq ?_
    refine rg 7000 ?_
    refine pr [1, 5, 48, 49, 62, 63, 64, 105] ?_
    refine cd ?_ ?_
    · intro h62_2
      refine sq ?_
      refine rc 8000 ?_
      iterate 3 (first | refine gp 8250 ?_ | refine os ?_ | refine gt 8250 ?_)
      refine oe 8300 ?_
      iterate 3 (first | refine gp 8550 ?_ | refine os ?_ | refine gt 8550 ?_)
      refine oe 8600 ?_
      iterate 2 (first | refine gp 8750 ?_ | refine os ?_ | refine gt 8750 ?_)
      refine og (fun hg => spec131 pk pn pq pe pc pw pa pg h1 h2 h3 h4) ?_
      refine oe 8900 ?_
      refine on ?_
      refine pr [2, 3] ?_
      refine k_ret ?_
      show retQ _ _ _ _ _ _ _
      simp [*]
    · intro h62_2
      refine sq ?_
      refine rg 9000 ?_
      refine pr [1, 5, 48, 49, 80, 81, 82, 105] ?_
      refine cd ?_ ?_
      · intro h80_3
        refine sq ?_
        refine rc 10000 ?_
        iterate 3 (first | refine gp 10250 ?_ | refine os ?_ | refine gt 10250 ?_)
        refine oe 10300 ?_
        iterate 2 (first | refine gp 10450 ?_ | refine os ?_ | refine gt 10450 ?_)
        refine og (fun hg => spec131 pk pn pq pe pc pw pa pg h1 h2 h3 h4) ?_
        refine oe 10600 ?_
        refine on ?_
        refine pr [2, 3] ?_
        refine k_ret ?_
        show retQ _ _ _ _ _ _ _
        simp [*]
      · intro h80_3
        refine sq ?_
        refine rg 11000 ?_
        refine pr [1, 4, 48, 49, 93, 94, 95, 105] ?_
        refine cd ?_ ?_
        · intro h93_4
          refine sq ?_
          refine rg 12000 ?_
          refine pr [2, 3] ?_
          refine k_ret ?_
          show retQ _ _ _ _ _ _ _
          simp [*]
        · intro h93_4
          refine sq ?_
          refine rg 13000 ?_
          refine pr [1, 4, 96, 97, 98, 105] ?_
          refine cd ?_ ?_
          · intro h96_5
            refine sq ?_
            refine rc 14000 ?_
            iterate 4 (first | refine gp 14350 ?_ | refine os ?_ | refine gt 14350 ?_)
            refine oe 14400 ?_
            refine on ?_
            refine pr [2, 3] ?_
            refine k_ret ?_
            show retQ _ _ _ _ _ _ _
            simp [*]
          · intro h96_5
            refine k_skip ?_
            refine k_nil ?_
            show AK _ _ _ _ _ _
            refine sq ?_
            refine rg 15000 ?_
            refine pr [2, 3] ?_
            refine k_ret ?_
            show retQ _ _ _ _ _ _ _
            simp [*]

/-- Whether a port goes to a node. -/
def Nd.reached (x : Nd) (b : Int) : Bool := if x.k == 2 then false else (b == 0 || (b == 1 && x.two))
def reachN (ns : List Nd) (q : Prt) : Bool := if decide (q.a < 0) || decide ((ns.length : Int) ≤ q.a) then false else match ns[q.a.toNat]? with
  | some x => x.reached q.b
  | none => false

theorem spec73_n (ns : List Nd) (a b : Int) (h : a < 0) : Flat.Sp Try.prog 73 [.p (.ps (ns.map Nd.row)), .agg [vv (.int .i64 a), vv (.int .i64 b)]] [] (vv (.bool false)) [] := by
  refine sk Try.func73 ?_
  intro F G hn hG
  refine sq ?_
  refine rg 1000 ?_
  refine pr [0, 1, 3, 40] ?_
  refine sq ?_
  refine sq ?_
  refine rc 2000 ?_
  iterate 5 (first | refine gp 2450 ?_ | refine os ?_ | refine gt 2450 ?_)
  refine oe 2500 ?_
  iterate 7 (first | refine gp 3150 ?_ | refine os ?_ | refine gt 3150 ?_)
  refine oe 3200 ?_
  refine on ?_
  refine pr [0, 1, 3, 5, 23, 40] ?_
  refine ct ?_
  refine sq ?_
  refine rg 3000 ?_
  refine pr [0, 1, 3, 5, 24, 40] ?_
  refine k_ret ?_
  show retQ _ _ _ _ _ _ _
  simp [*]

theorem spec73_b (ns : List Nd) (a b : Int) (h0 : decide (a < 0) = false) (h : (ns.length : Int) ≤ a) : Flat.Sp Try.prog 73 [.p (.ps (ns.map Nd.row)), .agg [vv (.int .i64 a), vv (.int .i64 b)]] [] (vv (.bool false)) [] := by
  refine sk Try.func73 ?_
  intro F G hn hG
  refine sq ?_
  refine rg 1000 ?_
  refine pr [0, 1, 3, 40] ?_
  refine sq ?_
  refine sq ?_
  refine rc 2000 ?_
  iterate 5 (first | refine gp 2450 ?_ | refine os ?_ | refine gt 2450 ?_)
  refine oe 2500 ?_
  iterate 7 (first | refine gp 3150 ?_ | refine os ?_ | refine gt 3150 ?_)
  refine oe 3200 ?_
  refine on ?_
  refine pr [0, 1, 3, 5, 23, 40] ?_
  refine ct ?_
  refine sq ?_
  refine rg 3000 ?_
  refine pr [0, 1, 3, 5, 24, 40] ?_
  refine k_ret ?_
  show retQ _ _ _ _ _ _ _
  simp [*]

attribute [local simp] Nd.row Nd.reached Nd.two in
theorem spec73_i (ns : List Nd) (i : Nat) (b : Int) (xk pk pn : Int) (pq : List Pl) (pe : List E) (pc pw : List Int) (pa pg xn xl xr : Int) (xt xb : List Prt) (hx : ns[i]? = some ⟨xk, .mk pk pn pq pe pc pw pa pg, xn, xl, xr, xt, xb⟩) : Flat.Sp Try.prog 73 [.p (.ps (ns.map Nd.row)), .agg [vv (.int .i64 (i : Int)), vv (.int .i64 b)]] [] (vv (.bool (Nd.reached ⟨xk, .mk pk pn pq pe pc pw pa pg, xn, xl, xr, xt, xb⟩ b))) [] := by
  refine sk Try.func73 ?_
  intro F G hn hG
  have hlt : i < ns.length := (List.getElem?_eq_some_iff.1 hx).1
  have hle : ¬ ns.length ≤ i := by omega
  obtain ⟨hlt2, hx2⟩ := List.getElem?_eq_some_iff.1 hx
  refine sq ?_
  refine rg 1000 ?_
  refine pr [0, 1, 3, 40] ?_
  refine sq ?_
  refine sq ?_
  refine rc 2000 ?_
  iterate 5 (first | refine gp 2450 ?_ | refine os ?_ | refine gt 2450 ?_)
  refine oe 2500 ?_
  iterate 7 (first | refine gp 3150 ?_ | refine os ?_ | refine gt 3150 ?_)
  refine oe 3200 ?_
  refine on ?_
  refine pr [0, 1, 3, 5, 23, 40] ?_
  refine cd ?_ ?_
  · intro h23_1
    have h2k : xk = 2 := (show ((i : Int) < 0 ∨ xk = 2) by simpa using h23_1).resolve_left (by omega)
    refine sq ?_
    refine rg 3000 ?_
    refine pr [0, 1, 3, 5, 24, 40] ?_
    refine k_ret ?_
    show retQ _ _ _ _ _ _ _
    simp [*]
  · intro h23_1
    have h2k : ¬ xk = 2 := by simpa using h23_1
    refine k_skip ?_
    refine sq ?_
    refine rc 4000 ?_
    iterate 9 (first | refine gp 4850 ?_ | refine os ?_ | refine gt 4850 ?_)
    refine og (fun hg => spec130 xk pk pn pq pe pc pw pa pg xn xl xr xt xb) ?_
    first | refine gp 5050 ?_ | refine os ?_ | refine gt 5050 ?_
    refine oe 5100 ?_
    refine on ?_
    refine pr [4, 5] ?_
    refine k_ret ?_
    show retQ _ _ _ _ _ _ _
    simp [*]

theorem spec73 (ns : List Nd) (q : Prt) : Flat.Sp Try.prog 73 [.p (.ps (ns.map Nd.row)), .agg [vv (.int .i64 q.a), vv (.int .i64 q.b)]] [] (vv (.bool (reachN ns q))) [] := by
  obtain ⟨a, b⟩ := q
  unfold reachN
  by_cases h0 : a < 0
  · rw [if_pos (by simp [h0])]
    exact spec73_n ns a b h0
  · by_cases h1 : (ns.length : Int) ≤ a
    · rw [if_pos (by simp [h1])]
      exact spec73_b ns a b (by simpa using h0) h1
    · rw [if_neg (by simp [h0, h1])]
      obtain ⟨i, rfl⟩ := Int.eq_ofNat_of_zero_le (by omega : 0 ≤ a)
      have hlt : i < ns.length := by omega
      simp only [Int.toNat_natCast]
      have hx : ns[i]? = some ns[i] := by simp [hlt]
      rw [hx]
      obtain ⟨x, hxx⟩ : ∃ x, ns[i] = x := ⟨_, rfl⟩
      rw [hxx] at hx ⊢
      obtain ⟨xk, ⟨pk, pn, pq, pe, pc, pw, pa, pg⟩, xn, xl, xr, xt, xb⟩ := x
      exact spec73_i ns i b xk pk pn pq pe pc pw pa pg xn xl xr xt xb hx

def badR (ns : List Nd) (q : Prt) : Bool := !reachN ns q
attribute [local simp] prow badR in
theorem spec72 (ns : List Nd) (q : Prt) : Flat.Sp Try.prog 72 [.agg [vv (.int .i64 q.a), vv (.int .i64 q.b)], .ptr 0 0] [(.var 0, .n 1), (.cell 0 0, .av (.p (.ps (ns.map Nd.row))))] (vv (.bool (badR ns q))) [(.var 0, .n 1), (.cell 0 0, .av (.p (.ps (ns.map Nd.row))))] := by
  refine sk Try.func72 ?_
  intro F G hn hG
  refine sq ?_
  refine rg 1000 ?_
  refine pr [1, 8] ?_
  refine sq ?_
  refine rc 2000 ?_
  refine oc id (spec73 ns q) ?_
  refine oe 2100 ?_
  refine on ?_
  refine pr [3, 4] ?_
  refine k_ret ?_
  show retQ _ _ _ _ _ _ _
  simp [*]

attribute [local simp] prow in
theorem spec133 (ns : List Nd) (ps : List Prt) (hlen : ps.length ≤ Flat.lim) : Flat.Sp Try.prog 133 [.p (.ps (ps.map prow)), .fn (.func 72) [.ptr 0 0]] [(.var 0, .n 1), (.cell 0 0, .av (.p (.ps (ns.map Nd.row))))] (vv (.int .i64 (firstP (badR ns) ps 0))) [(.var 0, .n 1), (.cell 0 0, .av (.p (.ps (ns.map Nd.row))))] := by
  refine sk Try.func133 ?_
  intro F G hn hG
  refine sq ?_
  refine rg 1000 ?_
  refine pr [0, 2, 4, 19] ?_
  refine sq ?_
  refine sq ?_
  refine rg 2000 ?_
  refine pr [0, 2, 4, 6, 7, 19] ?_
  refine k_block ?_
  refine k_loop (fun n l => ∃ i, i + n = ps.length ∧ (firstP (badR ns) ps 0 = firstP (badR ns) (ps.drop i) i) ∧ l = [(.tmp 0, .av (.p (.ps (ps.map prow)))), (.tmp 1, .av (.fn (.func 72) [.ptr 0 0])), (.tmp 7, .av (vv (.int .i64 ps.length))), (.tmp 8, .av (vv (.int .i64 i))), (.var 0, .n 1), (.cell 0 0, .av (.p (.ps (ns.map Nd.row))))]) (ps.length) hG ⟨_, ⟨by simp, by simp, by simp⟩, 0, by simp, rfl, rfl⟩ ?_
  rintro n _ ⟨i, hin, hfa, rfl⟩
  have hwi : i < Flat.lim → IntKind.i64.wrap ((i : Int) + 1) = (i : Int) + 1 := wrap_succ
  refine sq ?_
  refine rg 3000 ?_
  refine pr [0, 2, 4, 6, 7, 19] ?_
  refine sq ?_
  refine cd ?_ ?_
  · intro h9_1
    have hlt : i < ps.length := by simpa using h9_1
    obtain ⟨x, hxe⟩ : ∃ x, ps[i] = x := ⟨_, rfl⟩
    have hx : ps[i]? = some x := by simp [hlt, hxe]
    have hfd := firstP_drop (p := (badR ns)) hx
    have hwi := hwi (by omega)
    refine k_skip ?_
    refine sq ?_
    refine k_block ?_
    refine sq ?_
    refine rg 4000 ?_
    refine pr [0, 2, 4, 6, 7, 19] ?_
    refine sq ?_
    refine rc 5000 ?_
    refine oc id (spec72 ns x) ?_
    refine on ?_
    refine pr [0, 2, 4, 6, 7, 19] ?_
    refine cd ?_ ?_
    · intro h16_2
      have hr : (badR ns) x = true := by simpa using h16_2
      refine sq ?_
      refine rg 6000 ?_
      refine pr [0, 2, 4, 6, 7, 19] ?_
      refine k_ret ?_
      show retQ _ _ _ _ _ _ _
      simp [*]
    · intro h16_2
      have hr : (badR ns) x = false := by simpa using h16_2
      refine k_skip ?_
      refine k_nil ?_
      show AK _ _ _ _ _ _
      refine rg 7000 ?_
      refine k_nil ?_
      refine ⟨n - 1, by omega, _, ⟨?_, ?_, ?_⟩, i + 1, by omega, by rw [hfa, hfd, hr, if_neg (by simp)], rfl⟩ <;> simp [*]
  · intro h9_1
    have hge : ps.length ≤ i := by simpa using h9_1
    have hfe : firstP (badR ns) (ps.drop i) i = -1 := by rw [List.drop_eq_nil_of_le hge]; rfl
    refine k_exit ?_
    show AK _ _ _ _ _ _
    refine sq ?_
    refine rg 8000 ?_
    refine pr [4, 5] ?_
    refine k_ret ?_
    show retQ _ _ _ _ _ _ _
    simp [*]

attribute [local simp] firstP_any in
theorem spec75 (ns : List Nd) (ps : List Prt) (hlen : ps.length ≤ Flat.lim) : Flat.Sp Try.prog 75 [.p (.ps (ps.map prow)), .fn (.func 72) [.ptr 0 0]] [(.var 0, .n 1), (.cell 0 0, .av (.p (.ps (ns.map Nd.row))))] (vv (.bool (ps.any (badR ns)))) [(.var 0, .n 1), (.cell 0 0, .av (.p (.ps (ns.map Nd.row))))] := by
  refine sk Try.func75 ?_
  intro F G hn hG
  refine sq ?_
  refine rg 1000 ?_
  refine pr [0, 2, 4, 9] ?_
  refine sq ?_
  refine rc 2000 ?_
  refine oc id (spec133 ns ps hlen) ?_
  refine oe 2100 ?_
  refine on ?_
  refine pr [4, 5] ?_
  refine k_ret ?_
  show retQ _ _ _ _ _ _ _
  simp [*]

end Go.Proofs
end
section
set_option linter.unusedVariables false
set_option linter.unusedSimpArgs false
namespace Go.Proofs
open Go.Flat
set_option maxRecDepth 100000
set_option linter.unusedSimpArgs false
set_option linter.unusedVariables false
attribute [local simp] Bool.and_assoc Bool.or_assoc evalG evalX efD skF guardG guardL isCall stepL evalOp ev evs lk tmpsL app AV.ok fresh vv putCells insV ins del putL place Go.Flat.look fillC fillR getCells loadF storeF binF scalarBin intBin strBin isShift shiftBin unF lenF maxF minF rowsF appendF builtinF idxF natOf sliceP sliceF optEv Flat.cut overwrite toPV toPVs constAV scalarC scalarCs AV.cells TI.isAgg allSome andAll scalarEq buildable Go.Flat.lim retQ resL resAll resOne PartOf noTmp closedIn refs refs.refsL isSomeV hasB ids leA leA.leL renA renA.renL callB refsAll backL dropIds renS LiesAt injB ownB freshB memN locId insAll leA_refl leL_refl okS frzS frzA frzA.frzL evalD feet fine updCells cellsFrom memP footRf footWf noTmpU updIds opOps opIds idsA footR footW guardTs opTs dstTs callR callW renLoc renC inBlockQ thenQ Value.oneCell' IntKind.bits IntKind.signed PV.up toPH toPHs

attribute [local simp] Pl.row_eq
def Nd.right (x : Nd) : Bool := match x with
  | ⟨xk, .mk pk pn pq pe pc pw pa pg, xn, xl, xr, _, xb⟩ => rightN xk xn xl xr xb.length (zeroP pk pn pq.length pe.length pc.length pw.length pa pg) (madeP pk pn pq.length pe pc pw pa pg)
/-- Whether a node at some place is wrong. -/
def badN (ns : List Nd) (i : Nat) (x : Nd) : Bool := !x.right || (((x.k == 5) != ((i : Int) == 0)) || (x.to.any (badR ns) || x.back.any (badR ns)))
def anyBad (ns : List Nd) : List Nd → Nat → Bool
  | [], _ => false
  | x :: r, i => badN ns i x || anyBad ns r (i + 1)
theorem anyBad_drop {ns l : List Nd} {i : Nat} {x : Nd} (h : l[i]? = some x) : anyBad ns (l.drop i) i = (badN ns i x || anyBad ns (l.drop (i + 1)) (i + 1)) := by
  obtain ⟨h1, h2⟩ := List.getElem?_eq_some_iff.1 h
  rw [List.drop_eq_getElem_cons h1, h2]
  rfl
def checkG (ns : List Nd) : Int := if ((ns.length : Int) == 0) || decide ((129 : Int) < ns.length) then 4 else if anyBad ns ns 0 then 4 else 0
/-- All lists of a node are short. -/
def Nd.bnd (x : Nd) : Prop := match x with
  | ⟨_, .mk _ _ pq pe pc pw _ _, _, _, _, xt, xb⟩ => pq.length ≤ Bnd ∧ pe.length ≤ Bnd ∧ pc.length ≤ Bnd ∧ pw.length ≤ Bnd ∧ xt.length ≤ Flat.lim ∧ xb.length ≤ Flat.lim

attribute [local simp] Nd.row in
theorem spec38 (ns : List Nd) (hb : ∀ x ∈ ns, x.bnd) : Flat.Sp Try.prog 38 [.p (.ps (ns.map Nd.row))] [] (vv (.int .i64 (checkG ns))) [] := by
  refine sk Try.func38 ?_
  intro F G hn hG
  refine sq ?_
  refine rg 1000 ?_
  refine pr [1, 46] ?_
  refine sq ?_
  refine sq ?_
  refine cv [(.tmp 13, vv (.bool (((ns.length : Int) == 0) || decide ((129 : Int) < ns.length))))] ?_ ?_
  · skip
    refine rc 2000 ?_
    iterate 3 (first | refine gp 2250 ?_ | refine os ?_ | refine gt 2250 ?_)
    refine oe 2300 ?_
    refine on ?_
    refine k_nil ?_
    refine ⟨rfl, ?_, ?_, ?_⟩ <;> simp [*]
  refine pr [1, 6, 13, 46] ?_
  refine cd ?_ ?_
  · intro h13_1
    have hfin : checkG ns = 4 := if_pos h13_1
    refine sq ?_
    refine rg 3000 ?_
    refine pr [1, 6, 14, 46] ?_
    refine k_ret ?_
    show retQ _ _ _ _ _ _ _
    simp [*]
  · intro h13_1
    have hfin0 : checkG ns = if anyBad ns ns 0 then 4 else 0 := if_neg (by rw [h13_1]; decide)
    have hnl : ns.length ≤ 129 := by simp at h13_1; omega
    refine k_skip ?_
    refine sq ?_
    refine rg 4000 ?_
    refine pr [1, 6, 15, 46] ?_
    refine sq ?_
    refine sq ?_
    refine rg 5000 ?_
    refine pr [2, 6, 15, 46] ?_
    refine k_block ?_
    refine k_loop (fun n l => ∃ i, i + n = ns.length ∧ (anyBad ns (ns.drop i) i = anyBad ns ns 0) ∧ l = [(.tmp 3, .av (.fn (.func 72) [.ptr 1000 0])), (.tmp 15, .av (.p (.ps (ns.map Nd.row)))), (.tmp 16, .av (vv (.int .i64 ns.length))), (.tmp 17, .av (vv (.int .i64 i))), (.var 1000, .n 1), (.cell 1000 0, .av (.p (.ps (ns.map Nd.row))))]) (ns.length) hG ⟨_, ⟨by simp, by simp, by simp⟩, 0, by simp, rfl, rfl⟩ ?_
    rintro n _ ⟨i, hin, hfa, rfl⟩
    have hcm := hfa
    refine sq ?_
    refine rg 6000 ?_
    refine pr [2, 6, 15, 46] ?_
    refine sq ?_
    refine cd ?_ ?_
    · intro h18_2
      have hlt : i < ns.length := by simpa using h18_2
      obtain ⟨x, hxe⟩ : ∃ x, ns[i] = x := ⟨_, rfl⟩
      have hx : ns[i]? = some x := by simp [hlt, hxe]
      have hw := wrap_succ (show i < Flat.lim by simp only [Flat.lim]; omega)
      have hbx := hb x (List.mem_of_getElem? hx)
      rw [anyBad_drop hx] at hcm
      obtain ⟨xk, ⟨pk, pn, pq, pe, pc, pw, pa, pg⟩, xn, xl, xr, xt, xb⟩ := x
      obtain ⟨b1, b2, b3, b4, b5, b6⟩ := hbx
      simp only [badN, Nd.right] at hcm
      refine k_skip ?_
      refine sq ?_
      refine k_block ?_
      refine sq ?_
      refine rg 7000 ?_
      refine pr [2, 6, 15, 46] ?_
      refine sq ?_
      refine cv [(.tmp 44, vv (.bool (!(rightN xk xn xl xr xb.length (zeroP pk pn pq.length pe.length pc.length pw.length pa pg) (madeP pk pn pq.length pe pc pw pa pg)) || (((xk == 5) != ((i : Int) == 0)) || (xt.any (badR ns) || xb.any (badR ns))))))] ?_ ?_
      · skip
        rcases h0 : ((rightN xk xn xl xr xb.length (zeroP pk pn pq.length pe.length pc.length pw.length pa pg) (madeP pk pn pq.length pe pc pw pa pg)) : Bool) with _ | _
        · skip
          refine rc 8000 ?_
          refine oc id (spec74 xk pk pn pq pe pc pw pa pg xn xl xr xt xb b1 b2 b3 b4) ?_
          refine oe 8100 ?_
          iterate 6 (first | refine gp 8650 ?_ | refine os ?_ | refine gt 8650 ?_)
          refine oe 8700 ?_
          iterate 3 (first | refine gp 8950 ?_ | refine os ?_ | refine gt 8950 ?_)
          refine os ?_
          refine oe 9100 ?_
          iterate 3 (first | refine gp 9350 ?_ | refine os ?_ | refine gt 9350 ?_)
          refine os ?_
          refine oe 9500 ?_
          refine on ?_
          refine k_nil ?_
          refine ⟨rfl, ?_, ?_, ?_⟩ <;> simp [*]
        · skip
          rcases h1 : (((xk == 5) == ((i : Int) == 0)) : Bool) with _ | _
          · skip
            have h1e : ((xk == 5) != ((i : Int) == 0)) = true := by rw [bne, h1]; rfl
            refine rc 1008000 ?_
            refine oc id (spec74 xk pk pn pq pe pc pw pa pg xn xl xr xt xb b1 b2 b3 b4) ?_
            refine oe 1008100 ?_
            iterate 6 (first | refine gp 1008650 ?_ | refine os ?_ | refine gt 1008650 ?_)
            refine oe 1008700 ?_
            iterate 3 (first | refine gp 1008950 ?_ | refine os ?_ | refine gt 1008950 ?_)
            refine os ?_
            refine oe 1009100 ?_
            iterate 3 (first | refine gp 1009350 ?_ | refine os ?_ | refine gt 1009350 ?_)
            refine os ?_
            refine oe 1009500 ?_
            refine on ?_
            refine k_nil ?_
            refine ⟨rfl, ?_, ?_, ?_⟩ <;> simp [*]
          · skip
            rcases h2 : (xt.any (badR ns) : Bool) with _ | _
            · skip
              have h1e : (xk == 5) = ((i : Int) == 0) := by simpa using h1
              refine rc 2008000 ?_
              refine oc id (spec74 xk pk pn pq pe pc pw pa pg xn xl xr xt xb b1 b2 b3 b4) ?_
              refine oe 2008100 ?_
              iterate 6 (first | refine gp 2008650 ?_ | refine os ?_ | refine gt 2008650 ?_)
              refine oe 2008700 ?_
              iterate 3 (first | refine gp 2008950 ?_ | refine os ?_ | refine gt 2008950 ?_)
              refine oc (fun _ => 1000) (spec75 ns xt b5) ?_
              refine oe 2009100 ?_
              iterate 3 (first | refine gp 2009350 ?_ | refine os ?_ | refine gt 2009350 ?_)
              refine oc (fun _ => 1000) (spec75 ns xb b6) ?_
              refine oe 2009500 ?_
              refine on ?_
              refine k_nil ?_
              refine ⟨rfl, ?_, ?_, ?_⟩ <;> simp [*]
            · skip
              have h1e : (xk == 5) = ((i : Int) == 0) := by simpa using h1
              refine rc 3008000 ?_
              refine oc id (spec74 xk pk pn pq pe pc pw pa pg xn xl xr xt xb b1 b2 b3 b4) ?_
              refine oe 3008100 ?_
              iterate 6 (first | refine gp 3008650 ?_ | refine os ?_ | refine gt 3008650 ?_)
              refine oe 3008700 ?_
              iterate 3 (first | refine gp 3008950 ?_ | refine os ?_ | refine gt 3008950 ?_)
              refine oc (fun _ => 1000) (spec75 ns xt b5) ?_
              refine oe 3009100 ?_
              iterate 3 (first | refine gp 3009350 ?_ | refine os ?_ | refine gt 3009350 ?_)
              refine os ?_
              refine oe 3009500 ?_
              refine on ?_
              refine k_nil ?_
              refine ⟨rfl, ?_, ?_, ?_⟩ <;> simp [*]
      refine pr [2, 6, 15, 46] ?_
      refine cd ?_ ?_
      · intro h44_3
        rw [h44_3] at hcm
        have hab : anyBad ns ns 0 = true := hcm.symm
        refine sq ?_
        refine rg 9000 ?_
        refine pr [2, 6, 15, 46] ?_
        refine k_ret ?_
        show retQ _ _ _ _ _ _ _
        simp [*]
      · intro h44_3
        rw [h44_3] at hcm
        have hnext : anyBad ns (ns.drop (i + 1)) (i + 1) = anyBad ns ns 0 := hcm
        refine k_skip ?_
        refine k_nil ?_
        show AK _ _ _ _ _ _
        refine rg 10000 ?_
        refine k_nil ?_
        refine ⟨n - 1, by omega, _, ⟨?_, ?_, ?_⟩, i + 1, by omega, hnext, rfl⟩ <;> simp [*]
    · intro h18_2
      have hge : ns.length ≤ i := by simpa using h18_2
      obtain rfl : i = ns.length := by omega
      have hcm2 : anyBad ns ns 0 = false := by rw [← hcm, List.drop_eq_nil_of_le (Nat.le_refl _)]; rfl
      have hfin : checkG ns = 0 := by rw [hfin0, hcm2]; rfl
      refine k_exit ?_
      show AK _ _ _ _ _ _
      refine sq ?_
      refine rg 11000 ?_
      refine pr [2, 3] ?_
      refine k_ret ?_
      show retQ _ _ _ _ _ _ _
      simp [*]

end Go.Proofs
end
section
set_option linter.unusedVariables false
set_option linter.unusedSimpArgs false
namespace Go.Proofs
open Go.Flat
set_option maxRecDepth 100000
set_option linter.unusedSimpArgs false
set_option linter.unusedVariables false
attribute [local simp] Bool.and_assoc Bool.or_assoc evalG evalX efD skF guardG guardL isCall stepL evalOp ev evs lk tmpsL app AV.ok fresh vv putCells insV ins del putL place Go.Flat.look fillC fillR getCells loadF storeF binF scalarBin intBin strBin isShift shiftBin unF lenF maxF minF rowsF appendF builtinF idxF natOf sliceP sliceF optEv Flat.cut overwrite toPV toPVs constAV scalarC scalarCs AV.cells TI.isAgg allSome andAll scalarEq buildable Go.Flat.lim retQ resL resAll resOne PartOf noTmp closedIn refs refs.refsL isSomeV hasB ids leA leA.leL renA renA.renL callB refsAll backL dropIds renS LiesAt injB ownB freshB memN locId insAll leA_refl leL_refl okS frzS frzA frzA.frzL evalD feet fine updCells cellsFrom memP footRf footWf noTmpU updIds opOps opIds idsA footR footW guardTs opTs dstTs callR callW renLoc renC inBlockQ thenQ Value.oneCell' IntKind.bits IntKind.signed PV.up toPH toPHs

attribute [local simp] Pl.row_eq Pl.av
def bndF (n : Int) (x : Nd) : Int := if (x.k == 3) && decide (n < 1099511627776) then IntKind.i64.wrap (n * IntKind.i64.wrap (x.rds + 1)) else n
def boundG (ns : List Nd) : Int := if checkG ns != 0 then 0 else ns.foldl bndF ns.length
theorem bndF_take {ns : List Nd} {n : Int} {i : Nat} {x : Nd} (h : ns[i]? = some x) : (ns.take (i + 1)).foldl bndF n = bndF ((ns.take i).foldl bndF n) x := by
  rw [List.take_add_one, h]; simp [List.foldl_append]

theorem check_len {ns : List Nd} (h : (checkG ns != 0) = false) : ns.length ≤ 129 := by
  have h0 : checkG ns = 0 := by simpa using h
  unfold checkG at h0
  split at h0
  · simp at h0
  · rename_i hh; simp at hh; omega

attribute [local simp] Nd.row in
theorem spec40 (ns : List Nd) (hb : ∀ x ∈ ns, x.bnd) : Flat.Sp Try.prog 40 [.p (.ps (ns.map Nd.row))] [] (vv (.int .i64 (boundG ns))) [] := by
  refine sk Try.func40 ?_
  intro F G hn hG
  refine sq ?_
  refine rg 1000 ?_
  refine pr [0, 1, 2, 4, 5, 31] ?_
  refine sq ?_
  refine sq ?_
  refine rc 2000 ?_
  refine oc id (spec38 ns hb) ?_
  refine oe 2100 ?_
  refine on ?_
  refine pr [0, 1, 2, 4, 5, 6, 8, 31] ?_
  refine cd ?_ ?_
  · intro h8_1
    have hfin : boundG ns = 0 := if_pos h8_1
    refine sq ?_
    refine rg 3000 ?_
    refine pr [0, 1, 2, 4, 5, 6, 9, 31] ?_
    refine k_ret ?_
    show retQ _ _ _ _ _ _ _
    simp [*]
  · intro h8_1
    have hfin : boundG ns = ns.foldl bndF ns.length := if_neg (by rw [h8_1]; decide)
    have hnl : ns.length ≤ 129 := check_len h8_1
    refine k_skip ?_
    refine sq ?_
    refine rg 4000 ?_
    refine pr [0, 1, 2, 4, 5, 6, 11, 31] ?_
    refine sq ?_
    refine sq ?_
    refine rg 5000 ?_
    refine pr [2, 4, 5, 6, 11, 31] ?_
    refine k_block ?_
    refine k_loop (fun n l => ∃ i, i + n = ns.length ∧ (True) ∧ l = [(.tmp 3, .av (vv (.int .i64 ((ns.take i).foldl bndF ns.length)))), (.tmp 11, .av (.p (.ps (ns.map Nd.row)))), (.tmp 12, .av (vv (.int .i64 ns.length))), (.tmp 13, .av (vv (.int .i64 i)))]) (ns.length) hG ⟨_, ⟨by simp, by simp, by simp⟩, 0, by simp, trivial, rfl⟩ ?_
    rintro n _ ⟨i, hin, hfa, rfl⟩
    refine sq ?_
    refine rg 6000 ?_
    refine pr [2, 4, 5, 6, 11, 31] ?_
    refine sq ?_
    refine cd ?_ ?_
    · intro h14_2
      have hlt : i < ns.length := by simpa using h14_2
      obtain ⟨x, hxe⟩ : ∃ x, ns[i] = x := ⟨_, rfl⟩
      have hx : ns[i]? = some x := by simp [hlt, hxe]
      have hw := wrap_succ (show i < Flat.lim by simp only [Flat.lim]; omega)
      have htk := bndF_take (n := ns.length) hx
      obtain ⟨xk, ⟨pk, pn, pq, pe, pc, pw, pa, pg⟩, xn, xl, xr, xt, xb⟩ := x
      refine k_skip ?_
      refine sq ?_
      refine k_block ?_
      refine sq ?_
      refine rg 7000 ?_
      refine pr [2, 4, 5, 6, 11, 31] ?_
      refine sq ?_
      refine rc 8000 ?_
      iterate 2 (first | refine gp 8150 ?_ | refine os ?_ | refine gt 8150 ?_)
      refine oe 8200 ?_
      refine on ?_
      refine pr [2, 4, 5, 6, 11, 31] ?_
      refine cd ?_ ?_
      · intro h23_3
        have hnx : ((ns.take (i + 1)).foldl bndF ns.length) = IntKind.i64.wrap (((ns.take i).foldl bndF ns.length) * IntKind.i64.wrap (xr + 1)) := by rw [htk]; exact if_pos h23_3
        clear htk
        refine rg 9000 ?_
        refine k_nil ?_
        show AK _ _ _ _ _ _
        refine rg 10000 ?_
        refine k_nil ?_
        refine ⟨n - 1, by omega, _, ⟨?_, ?_, ?_⟩, i + 1, by omega, trivial, rfl⟩ <;> simp [*]
      · intro h23_3
        have hnx : ((ns.take (i + 1)).foldl bndF ns.length) = ((ns.take i).foldl bndF ns.length) := by rw [htk]; exact if_neg (by rw [h23_3]; decide)
        clear htk
        refine k_skip ?_
        refine k_nil ?_
        show AK _ _ _ _ _ _
        refine rg 10000 ?_
        refine k_nil ?_
        refine ⟨n - 1, by omega, _, ⟨?_, ?_, ?_⟩, i + 1, by omega, trivial, rfl⟩ <;> simp [*]
    · intro h14_2
      have hge : ns.length ≤ i := by simpa using h14_2
      obtain rfl : i = ns.length := by omega
      have hta : ns.take ns.length = ns := List.take_length
      refine k_exit ?_
      show AK _ _ _ _ _ _
      refine sq ?_
      refine rg 11000 ?_
      refine pr [2, 3] ?_
      refine k_ret ?_
      show retQ _ _ _ _ _ _ _
      simp [*]

mutual
/-- How many plans are no variable; how many iterates there are. -/
def Pl.cn : Pl → Nat
  | .mk k _ kids _ _ _ _ _ => (if k == 2 then 0 else 1) + Pl.cnL kids
def Pl.cnL : List Pl → Nat
  | [] => 0
  | x :: r => x.cn + Pl.cnL r
end
mutual
def Pl.cl : Pl → Nat
  | .mk k _ kids _ _ _ _ _ => (if k == 10 then 1 else 0) + Pl.clL kids
def Pl.clL : List Pl → Nat
  | [] => 0
  | x :: r => x.cl + Pl.clL r
end
mutual
theorem cn_le : ∀ p : Pl, p.cn ≤ p.size ∧ p.cl ≤ p.size
  | .mk k m kids _ _ _ _ _ => by
    have := cnL_le kids
    rw [Pl.cn, Pl.cl, Pl.size]
    constructor <;> split <;> omega
theorem cnL_le : ∀ l : List Pl, Pl.cnL l ≤ Pl.sizeL l ∧ Pl.clL l ≤ Pl.sizeL l
  | [] => by simp [Pl.cnL, Pl.clL]
  | x :: r => by
    have h1 := cn_le x
    have h2 := cnL_le r
    rw [Pl.cnL, Pl.clL, Pl.sizeL]
    omega
end
@[simp] theorem cnA (l : List Pl) : l.take l.length = l := List.take_length

end Go.Proofs
end
section
set_option linter.unusedVariables false
set_option linter.unusedSimpArgs false
namespace Go.Proofs
open Go.Flat
set_option maxRecDepth 100000
set_option linter.unusedSimpArgs false
set_option linter.unusedVariables false
attribute [local simp] Bool.and_assoc Bool.or_assoc evalG evalX efD skF guardG guardL isCall stepL evalOp ev evs lk tmpsL app AV.ok fresh vv putCells insV ins del putL place Go.Flat.look fillC fillR getCells loadF storeF binF scalarBin intBin strBin isShift shiftBin unF lenF maxF minF rowsF appendF builtinF idxF natOf sliceP sliceF optEv Flat.cut overwrite toPV toPVs constAV scalarC scalarCs AV.cells TI.isAgg allSome andAll scalarEq buildable Go.Flat.lim retQ resL resAll resOne PartOf noTmp closedIn refs refs.refsL isSomeV hasB ids leA leA.leL renA renA.renL callB refsAll backL dropIds renS LiesAt injB ownB freshB memN locId insAll leA_refl leL_refl okS frzS frzA frzA.frzL evalD feet fine updCells cellsFrom memP footRf footWf noTmpU updIds opOps opIds idsA footR footW guardTs opTs dstTs callR callW renLoc renC inBlockQ thenQ Value.oneCell' IntKind.bits IntKind.signed PV.up toPH toPHs

attribute [local simp] Pl.row_eq Pl.av
theorem spec125 (k m : Int) (kids : List Pl) (ex : List E) (cols wth : List Int) (agg rds : Int) (hb : (Pl.mk k m kids ex cols wth agg rds).bnd) : Flat.Sp Try.prog 125 [(Pl.mk k m kids ex cols wth agg rds).av] [] (vv (.int .i64 (checkP (Pl.mk k m kids ex cols wth agg rds)))) [] := by
  refine sk Try.func125 ?_
  intro F G hn hG
  refine sq ?_
  refine rg 1000 ?_
  refine pr [1, 31] ?_
  refine sq ?_
  refine rc 2000 ?_
  refine oc id ((show Flat.Sp Try.prog 172 [(Pl.mk k m kids ex cols wth agg rds).av, vv (.int .i64 16)] [] _ [] from spec172 (Pl.mk k m kids ex cols wth agg rds) hb 16)) ?_
  refine oe 2100 ?_
  refine on ?_
  refine pr [1, 6, 12, 31] ?_
  refine sq ?_
  refine k_block ?_
  refine sq ?_
  refine rg 3000 ?_
  refine pr [1, 3, 4, 6, 12, 13, 15, 31] ?_
  refine cd ?_ ?_
  · intro h12_1
    have hs1 : (fmP (Pl.mk k m kids ex cols wth agg rds) 16).1 = false := by simpa using h12_1
    have hfin : checkP (Pl.mk k m kids ex cols wth agg rds) = 4 := by rw [← checkPr_eq, checkPr, hs1]; rfl
    refine sq ?_
    refine rg 4000 ?_
    refine pr [2, 3] ?_
    refine k_ret ?_
    show retQ _ _ _ _ _ _ _
    simp [*]
  · intro h12_1
    have hs1 : (fmP (Pl.mk k m kids ex cols wth agg rds) 16).1 = true := by simpa using h12_1
    have hfin0 : checkP (Pl.mk k m kids ex cols wth agg rds) = if (fmP (Pl.mk k m kids ex cols wth agg rds) 16).2.2 || (decide (64 < (fmP (Pl.mk k m kids ex cols wth agg rds) 16).2.1) || (decide (16 < dpP (Pl.mk k m kids ex cols wth agg rds) 17) || decide (2 < lpQ (Pl.mk k m kids ex cols wth agg rds)))) then 2 else 0 := by rw [← checkPr_eq, checkPr, hs1]; rfl
    refine sq ?_
    refine cv [(.tmp 15, vv (.bool ((fmP (Pl.mk k m kids ex cols wth agg rds) 16).2.2 || (decide (64 < (fmP (Pl.mk k m kids ex cols wth agg rds) 16).2.1) || (decide (16 < dpP (Pl.mk k m kids ex cols wth agg rds) 17) || decide (2 < lpQ (Pl.mk k m kids ex cols wth agg rds)))))))] ?_ ?_
    · skip
      refine rc 5000 ?_
      iterate 2 (first | refine gp 5150 ?_ | refine os ?_ | refine gt 5150 ?_)
      refine oe 5200 ?_
      first | refine gp 5250 ?_ | refine os ?_ | refine gt 5250 ?_
      refine og (fun hg => (show Flat.Sp Try.prog 173 [(Pl.mk k m kids ex cols wth agg rds).av, vv (.int .i64 17)] [] (vv (.int .i64 (dpP (Pl.mk k m kids ex cols wth agg rds) 17))) [] from spec173 (Pl.mk k m kids ex cols wth agg rds) hb 17)) ?_
      first | refine gp 5450 ?_ | refine os ?_ | refine gt 5450 ?_
      refine oe 5500 ?_
      first | refine gp 5550 ?_ | refine os ?_ | refine gt 5550 ?_
      refine og (fun hg => (show Flat.Sp Try.prog 174 [(Pl.mk k m kids ex cols wth agg rds).av] [] (vv (.int .i64 (lpQ (Pl.mk k m kids ex cols wth agg rds)))) [] from spec174 (Pl.mk k m kids ex cols wth agg rds) hb)) ?_
      first | refine gp 5750 ?_ | refine os ?_ | refine gt 5750 ?_
      refine oe 5800 ?_
      refine on ?_
      refine k_nil ?_
      refine ⟨rfl, ?_, ?_, ?_⟩ <;> simp [*]
    refine pr [2, 3, 15, 16] ?_
    refine cd ?_ ?_
    · intro h15_2
      have hfin : checkP (Pl.mk k m kids ex cols wth agg rds) = 2 := by rw [hfin0]; exact if_pos h15_2
      refine sq ?_
      refine rg 6000 ?_
      refine pr [2, 3] ?_
      refine k_ret ?_
      show retQ _ _ _ _ _ _ _
      simp [*]
    · intro h15_2
      have hfin : checkP (Pl.mk k m kids ex cols wth agg rds) = 0 := by rw [hfin0]; exact if_neg (by rw [h15_2]; decide)
      refine k_skip ?_
      refine k_nil ?_
      show AK _ _ _ _ _ _
      refine sq ?_
      refine rg 7000 ?_
      refine pr [2, 3] ?_
      refine k_ret ?_
      show retQ _ _ _ _ _ _ _
      simp [*]

end Go.Proofs
end
