/-
  Contracts: plans: joined schemas, reduced schemas.
  Contracts: plans: reduced schemas.
  Plans: what the judge comes to, and plain facts of it.
  Plans: schemas are short where there is no fault.
  Plans: what is checked is right, all the way down.
  Plans: a check's measures.
  Plans: what a judgement hangs on.
  Contracts: plans: the schemas of a plan's kids.
  Contracts: plans: the schema of a plan.
  Contracts: plans: the schema of a plan, of whatever kind; the law functions of chapter 09.
  The plain laws of chapter 09.
  Contracts: plans: the schema of a plan; the law functions of chapter 09.
-/
import Derived.Test.YtgkkoeodinlffaaPartE
section
set_option linter.unusedVariables false
set_option linter.unusedSimpArgs false
namespace Go.Proofs
open Go.Flat
set_option maxRecDepth 100000
set_option linter.unusedSimpArgs false
set_option linter.unusedVariables false
attribute [local simp] Bool.and_assoc Bool.or_assoc evalG evalX efD skF guardG guardL isCall stepL evalOp ev evs lk tmpsL app AV.ok fresh vv putCells insV ins del putL place Go.Flat.look fillC fillR getCells loadF storeF binF scalarBin intBin strBin isShift shiftBin unF lenF maxF minF rowsF appendF builtinF idxF natOf sliceP sliceF optEv Flat.cut overwrite toPV toPVs constAV scalarC scalarCs AV.cells TI.isAgg allSome andAll scalarEq buildable Go.Flat.lim retQ resL resAll resOne PartOf noTmp closedIn refs refs.refsL isSomeV hasB ids leA leA.leL renA renA.renL callB refsAll backL dropIds renS LiesAt injB ownB freshB memN locId insAll leA_refl leL_refl okS frzS frzA frzA.frzL evalD feet fine updCells cellsFrom memP footRf footWf noTmpU updIds opOps opIds idsA footR footW guardTs opTs dstTs callR callW renLoc renC inBlockQ thenQ Value.oneCell' IntKind.bits IntKind.signed

@[simp] theorem wrap64_0 : IntKind.i64.wrap 0 = 0 := rfl
theorem spec166_0  : Flat.Sp Try.prog 166 [.psf [], vv (.int .i64 0)] [] (.psf []) [] := by
  refine sk Try.func166 ?_
  intro F G hn hG
  refine sq ?_
  refine rg 1000 ?_
  refine pr [0, 1, 4, 5, 6, 7, 8, 9, 10, 11, 12, 13, 14, 15, 16, 17, 18, 19, 20, 21, 22, 23, 24, 25, 26] ?_
  refine sq ?_
  refine sq ?_
  refine rg 2000 ?_
  refine pr [0, 1, 4, 6, 7, 8, 9, 10, 11, 12, 13, 14, 15, 16, 17, 18, 19, 20, 21, 22, 23, 24, 25, 26] ?_
  refine ce ?_
  refine k_skip ?_
  refine sq ?_
  refine sq ?_
  refine rg 4000 ?_
  refine pr [0, 1, 4, 15, 16, 17, 18, 19, 20, 21, 22, 23, 24, 25, 26] ?_
  refine sq ?_
  refine rg 5000 ?_
  refine pr [0, 1, 4, 16, 17, 18, 19, 20, 21, 22, 23, 24, 25, 26] ?_
  refine ce ?_
  refine k_skip ?_
  refine sq ?_
  refine rg 7000 ?_
  refine pr [4] ?_
  refine k_ret ?_
  show retQ _ _ _ _ _ _ _
  simp [*]

theorem spec166_n (n : Nat) (h0 : 0 < n) (h1 : n ≤ 16) : Flat.Sp Try.prog 166 [.psf [], vv (.int .i64 n)] [] (.sl 6005 n 0 0) [(.arr 6005, .arr 42 1 (List.replicate n [PV.v (.int .u8 0)]) 0)] := by
  refine sk Try.func166 ?_
  intro F G hn hG
  have hw : IntKind.i64.wrap (n : Int) = n := Flat.wrap_small (by simp only [Flat.lim]; omega)
  have hn0 : ¬ ((n : Int) < 0) := by omega
  have hn2 : n ≤ 140737488355328 := by omega
  refine sq ?_
  refine rg 1000 ?_
  refine pr [0, 1, 4, 5, 6, 7, 8, 9, 10, 11, 12, 13, 14, 15, 16, 17, 18, 19, 20, 21, 22, 23, 24, 25, 26] ?_
  refine sq ?_
  refine sq ?_
  refine rg 2000 ?_
  refine pr [0, 1, 4, 6, 7, 8, 9, 10, 11, 12, 13, 14, 15, 16, 17, 18, 19, 20, 21, 22, 23, 24, 25, 26] ?_
  refine ce ?_
  refine k_skip ?_
  refine sq ?_
  refine sq ?_
  refine rg 4000 ?_
  refine pr [0, 1, 4, 15, 16, 17, 18, 19, 20, 21, 22, 23, 24, 25, 26] ?_
  refine sq ?_
  refine rg 5000 ?_
  refine pr [0, 1, 4, 16, 17, 18, 19, 20, 21, 22, 23, 24, 25, 26] ?_
  refine ct ?_
  refine rg 6000 ?_
  refine pr [0, 4, 26] ?_
  refine sq ?_
  refine rg 7000 ?_
  refine pr [4] ?_
  refine k_ret ?_
  show retQ _ _ _ _ _ _ _
  simp [*]

attribute [local simp] srow trow in
theorem spec115_n (a b : List Int) (ha : a.length ≤ 8) (hb : b.length ≤ 8) (hb0 : 0 < b.length) : Flat.Sp Try.prog 115 [.p (.ps [srow a, srow b])] [] (.p (.ps ((a ++ b).map trow))) [] := by
  refine sk Try.func115 ?_
  intro F G hn hG
  have hw1 : IntKind.i64.wrap (a.length : Int) = a.length := Flat.wrap_small (by simp only [Flat.lim]; omega)
  have hw2 : IntKind.i64.wrap ((a.length : Int) + (b.length : Int)) = (a.length : Int) + (b.length : Int) := by have := Flat.wrap_small (n := a.length + b.length) (by simp only [Flat.lim]; omega); simpa using this
  have hn2 : ¬ ((a.length : Int) + (b.length : Int) < 0) := by omega
  have hmx : max (a.length + b.length) a.length = a.length + b.length := by omega
  have hz1 : ¬ 0 = a.length + b.length := by omega
  have hz2 : 0 < a.length + b.length := by omega
  have hbn : ¬ b = [] := by rintro rfl; simp at hb0
  have hl1 : a.length ≤ 140737488355328 := by omega
  have hl2 : a.length + b.length ≤ 140737488355328 := by omega
  have hdr : List.drop (a.length + b.length) (a.map trow ++ List.replicate b.length [PV.v (Value.int .u8 0)]) = [] := List.drop_eq_nil_of_le (by simp)
  have htk : (a.map trow ++ b.map trow).take (a.length + b.length) = a.map trow ++ b.map trow := List.take_of_length_le (by simp)
  refine sq ?_
  refine rg 1000 ?_
  refine pr [0, 2, 3, 5, 6, 8, 9, 10, 11, 12, 13, 14, 15, 16, 17, 18, 19, 20, 21, 22, 23, 24, 25, 26, 27, 28, 29, 30, 31, 32, 33, 34, 35] ?_
  refine sq ?_
  refine rg 2000 ?_
  refine pr [0, 2, 3, 5, 6, 8, 9, 10, 11, 12, 13, 14, 15, 16, 17, 18, 19, 20, 21, 22, 23, 24, 25, 26, 27, 28, 29, 30, 31, 32, 33, 34, 35] ?_
  refine sq ?_
  refine sq ?_
  refine rg 3000 ?_
  refine pr [0, 2, 3, 5, 6, 8, 9, 10, 11, 12, 13, 14, 15, 16, 17, 18, 19, 20, 21, 22, 23, 24, 25, 26, 27, 28, 29, 30, 31, 32, 33, 34, 35] ?_
  refine k_block ?_
  refine k_rounds 3 ?_
  show AK _ _ _ _ _ _
  refine sq ?_
  refine rg 4000 ?_
  refine pr [0, 2, 3, 5, 6, 8, 9, 10, 11, 12, 13, 14, 15, 16, 17, 18, 19, 20, 21, 22, 23, 24, 25, 26, 27, 28, 29, 30, 31, 32, 33, 34, 35] ?_
  refine sq ?_
  refine ct ?_
  refine k_skip ?_
  refine sq ?_
  refine k_block ?_
  refine sq ?_
  refine rg 5000 ?_
  refine pr [0, 2, 3, 5, 6, 8, 9, 10, 11, 12, 13, 14, 15, 16, 17, 18, 19, 20, 21, 22, 23, 24, 25, 26, 27, 28, 29, 30, 31, 32, 33, 34, 35] ?_
  refine sq ?_
  refine rg 6000 ?_
  refine pr [0, 2, 3, 5, 6, 8, 9, 10, 11, 12, 13, 14, 15, 16, 17, 18, 19, 20, 21, 22, 23, 24, 25, 26, 27, 28, 29, 30, 31, 32, 33, 34, 35] ?_
  refine sq ?_
  refine rg 7000 ?_
  refine pr [0, 2, 3, 5, 6, 8, 9, 10, 11, 12, 13, 14, 15, 16, 17, 18, 19, 20, 21, 22, 23, 24, 25, 26, 27, 28, 29, 30, 31, 32, 33, 34, 35] ?_
  refine ce ?_
  refine k_skip ?_
  refine k_nil ?_
  show AK _ _ _ _ _ _
  refine rg 9000 ?_
  refine k_nil ?_
  show AK _ _ _ _ _ _
  refine sq ?_
  refine rg 1004000 ?_
  refine pr [0, 2, 3, 5, 6, 8, 9, 10, 11, 12, 13, 14, 15, 16, 17, 18, 19, 20, 21, 22, 23, 24, 25, 26, 27, 28, 29, 30, 31, 32, 33, 34, 35] ?_
  refine sq ?_
  refine ct ?_
  refine k_skip ?_
  refine sq ?_
  refine k_block ?_
  refine sq ?_
  refine rg 1005000 ?_
  refine pr [0, 2, 3, 5, 6, 8, 9, 10, 11, 12, 13, 14, 15, 16, 17, 18, 19, 20, 21, 22, 23, 24, 25, 26, 27, 28, 29, 30, 31, 32, 33, 34, 35] ?_
  refine sq ?_
  refine rg 1006000 ?_
  refine pr [0, 2, 3, 5, 6, 8, 9, 10, 11, 12, 13, 14, 15, 16, 17, 18, 19, 20, 21, 22, 23, 24, 25, 26, 27, 28, 29, 30, 31, 32, 33, 34, 35] ?_
  refine sq ?_
  refine rg 1007000 ?_
  refine pr [0, 2, 3, 5, 6, 8, 9, 10, 11, 12, 13, 14, 15, 16, 17, 18, 19, 20, 21, 22, 23, 24, 25, 26, 27, 28, 29, 30, 31, 32, 33, 34, 35] ?_
  refine ce ?_
  refine k_skip ?_
  refine k_nil ?_
  show AK _ _ _ _ _ _
  refine rg 1009000 ?_
  refine k_nil ?_
  show AK _ _ _ _ _ _
  refine sq ?_
  refine rg 2004000 ?_
  refine pr [0, 2, 3, 5, 6, 8, 9, 10, 11, 12, 13, 14, 15, 16, 17, 18, 19, 20, 21, 22, 23, 24, 25, 26, 27, 28, 29, 30, 31, 32, 33, 34, 35] ?_
  refine sq ?_
  refine ce ?_
  refine k_exit ?_
  show AK _ _ _ _ _ _
  refine sq ?_
  refine rc 10000 ?_
  refine oc (fun _ => 10000) (spec166_n (a.length + b.length) (by omega) (by omega)) ?_
  refine oe 10100 ?_
  refine on ?_
  refine pr [0, 2, 6, 8, 25, 26, 27, 28, 29, 30, 31, 32, 33, 34, 35] ?_
  refine sq ?_
  refine sq ?_
  refine rg 11000 ?_
  refine pr [2, 6, 8, 25, 26, 27, 28, 29, 30, 31, 32, 33, 34, 35] ?_
  refine k_block ?_
  refine k_rounds 3 ?_
  show AK _ _ _ _ _ _
  refine sq ?_
  refine rg 12000 ?_
  refine pr [2, 6, 8, 25, 26, 27, 28, 29, 30, 31, 32, 33, 34, 35] ?_
  refine sq ?_
  refine ct ?_
  refine k_skip ?_
  refine sq ?_
  refine k_block ?_
  refine sq ?_
  refine rg 13000 ?_
  refine pr [2, 6, 8, 25, 26, 27, 28, 29, 30, 31, 32, 33, 34, 35] ?_
  refine rg 14000 ?_
  refine k_nil ?_
  show AK _ _ _ _ _ _
  refine rg 15000 ?_
  refine k_nil ?_
  show AK _ _ _ _ _ _
  refine sq ?_
  refine rg 1012000 ?_
  refine pr [2, 6, 8, 25, 26, 27, 28, 29, 30, 31, 32, 33, 34, 35] ?_
  refine sq ?_
  refine ct ?_
  refine k_skip ?_
  refine sq ?_
  refine k_block ?_
  refine sq ?_
  refine rg 1013000 ?_
  refine pr [2, 6, 8, 25, 26, 27, 28, 29, 30, 31, 32, 33, 34, 35] ?_
  refine rg 1014000 ?_
  refine k_nil ?_
  show AK _ _ _ _ _ _
  refine rg 1015000 ?_
  refine k_nil ?_
  show AK _ _ _ _ _ _
  refine sq ?_
  refine rg 2012000 ?_
  refine pr [2, 6, 8, 25, 26, 27, 28, 29, 30, 31, 32, 33, 34, 35] ?_
  refine sq ?_
  refine ce ?_
  refine k_exit ?_
  show AK _ _ _ _ _ _
  refine sq ?_
  refine rg 16000 ?_
  refine pr [2] ?_
  refine fz 10000 ?_
  refine k_ret ?_
  show retQ _ _ _ _ _ _ _
  simp [*]

attribute [local simp] srow trow in
theorem spec115_e (a b : List Int) (ha : a.length ≤ 8) (hb : b = []) (ha0 : 0 < a.length) : Flat.Sp Try.prog 115 [.p (.ps [srow a, srow b])] [] (.p (.ps ((a ++ b).map trow))) [] := by
  refine sk Try.func115 ?_
  intro F G hn hG
  subst hb
  have hw1 : IntKind.i64.wrap (a.length : Int) = a.length := Flat.wrap_small (by simp only [Flat.lim]; omega)
  have hn2 : ¬ (a.length : Int) < 0 := by omega
  have hz1 : ¬ 0 = a.length := by omega
  have hl1 : a.length ≤ 140737488355328 := by omega
  have hbn : ¬ a = [] := by rintro rfl; simp at ha0
  have htk : (a.map trow).take a.length = a.map trow := List.take_of_length_le (by simp)
  refine sq ?_
  refine rg 1000 ?_
  refine pr [0, 2, 3, 5, 6, 8, 9, 10, 11, 12, 13, 14, 15, 16, 17, 18, 19, 20, 21, 22, 23, 24, 25, 26, 27, 28, 29, 30, 31, 32, 33, 34, 35] ?_
  refine sq ?_
  refine rg 2000 ?_
  refine pr [0, 2, 3, 5, 6, 8, 9, 10, 11, 12, 13, 14, 15, 16, 17, 18, 19, 20, 21, 22, 23, 24, 25, 26, 27, 28, 29, 30, 31, 32, 33, 34, 35] ?_
  refine sq ?_
  refine sq ?_
  refine rg 3000 ?_
  refine pr [0, 2, 3, 5, 6, 8, 9, 10, 11, 12, 13, 14, 15, 16, 17, 18, 19, 20, 21, 22, 23, 24, 25, 26, 27, 28, 29, 30, 31, 32, 33, 34, 35] ?_
  refine k_block ?_
  refine k_rounds 3 ?_
  show AK _ _ _ _ _ _
  refine sq ?_
  refine rg 4000 ?_
  refine pr [0, 2, 3, 5, 6, 8, 9, 10, 11, 12, 13, 14, 15, 16, 17, 18, 19, 20, 21, 22, 23, 24, 25, 26, 27, 28, 29, 30, 31, 32, 33, 34, 35] ?_
  refine sq ?_
  refine ct ?_
  refine k_skip ?_
  refine sq ?_
  refine k_block ?_
  refine sq ?_
  refine rg 5000 ?_
  refine pr [0, 2, 3, 5, 6, 8, 9, 10, 11, 12, 13, 14, 15, 16, 17, 18, 19, 20, 21, 22, 23, 24, 25, 26, 27, 28, 29, 30, 31, 32, 33, 34, 35] ?_
  refine sq ?_
  refine rg 6000 ?_
  refine pr [0, 2, 3, 5, 6, 8, 9, 10, 11, 12, 13, 14, 15, 16, 17, 18, 19, 20, 21, 22, 23, 24, 25, 26, 27, 28, 29, 30, 31, 32, 33, 34, 35] ?_
  refine sq ?_
  refine rg 7000 ?_
  refine pr [0, 2, 3, 5, 6, 8, 9, 10, 11, 12, 13, 14, 15, 16, 17, 18, 19, 20, 21, 22, 23, 24, 25, 26, 27, 28, 29, 30, 31, 32, 33, 34, 35] ?_
  refine ce ?_
  refine k_skip ?_
  refine k_nil ?_
  show AK _ _ _ _ _ _
  refine rg 9000 ?_
  refine k_nil ?_
  show AK _ _ _ _ _ _
  refine sq ?_
  refine rg 1004000 ?_
  refine pr [0, 2, 3, 5, 6, 8, 9, 10, 11, 12, 13, 14, 15, 16, 17, 18, 19, 20, 21, 22, 23, 24, 25, 26, 27, 28, 29, 30, 31, 32, 33, 34, 35] ?_
  refine sq ?_
  refine ct ?_
  refine k_skip ?_
  refine sq ?_
  refine k_block ?_
  refine sq ?_
  refine rg 1005000 ?_
  refine pr [0, 2, 3, 5, 6, 8, 9, 10, 11, 12, 13, 14, 15, 16, 17, 18, 19, 20, 21, 22, 23, 24, 25, 26, 27, 28, 29, 30, 31, 32, 33, 34, 35] ?_
  refine sq ?_
  refine rg 1006000 ?_
  refine pr [0, 2, 3, 5, 6, 8, 9, 10, 11, 12, 13, 14, 15, 16, 17, 18, 19, 20, 21, 22, 23, 24, 25, 26, 27, 28, 29, 30, 31, 32, 33, 34, 35] ?_
  refine sq ?_
  refine rg 1007000 ?_
  refine pr [0, 2, 3, 5, 6, 8, 9, 10, 11, 12, 13, 14, 15, 16, 17, 18, 19, 20, 21, 22, 23, 24, 25, 26, 27, 28, 29, 30, 31, 32, 33, 34, 35] ?_
  refine ce ?_
  refine k_skip ?_
  refine k_nil ?_
  show AK _ _ _ _ _ _
  refine rg 1009000 ?_
  refine k_nil ?_
  show AK _ _ _ _ _ _
  refine sq ?_
  refine rg 2004000 ?_
  refine pr [0, 2, 3, 5, 6, 8, 9, 10, 11, 12, 13, 14, 15, 16, 17, 18, 19, 20, 21, 22, 23, 24, 25, 26, 27, 28, 29, 30, 31, 32, 33, 34, 35] ?_
  refine sq ?_
  refine ce ?_
  refine k_exit ?_
  show AK _ _ _ _ _ _
  refine sq ?_
  refine rc 10000 ?_
  refine oc (fun _ => 10000) (spec166_n a.length (by omega) (by omega)) ?_
  refine oe 10100 ?_
  refine on ?_
  refine pr [0, 2, 6, 8, 25, 26, 27, 28, 29, 30, 31, 32, 33, 34, 35] ?_
  refine sq ?_
  refine sq ?_
  refine rg 11000 ?_
  refine pr [2, 6, 8, 25, 26, 27, 28, 29, 30, 31, 32, 33, 34, 35] ?_
  refine k_block ?_
  refine k_rounds 3 ?_
  show AK _ _ _ _ _ _
  refine sq ?_
  refine rg 12000 ?_
  refine pr [2, 6, 8, 25, 26, 27, 28, 29, 30, 31, 32, 33, 34, 35] ?_
  refine sq ?_
  refine ct ?_
  refine k_skip ?_
  refine sq ?_
  refine k_block ?_
  refine sq ?_
  refine rg 13000 ?_
  refine pr [2, 6, 8, 25, 26, 27, 28, 29, 30, 31, 32, 33, 34, 35] ?_
  refine rg 14000 ?_
  refine k_nil ?_
  show AK _ _ _ _ _ _
  refine rg 15000 ?_
  refine k_nil ?_
  show AK _ _ _ _ _ _
  refine sq ?_
  refine rg 1012000 ?_
  refine pr [2, 6, 8, 25, 26, 27, 28, 29, 30, 31, 32, 33, 34, 35] ?_
  refine sq ?_
  refine ct ?_
  refine k_skip ?_
  refine sq ?_
  refine k_block ?_
  refine sq ?_
  refine rg 1013000 ?_
  refine pr [2, 6, 8, 25, 26, 27, 28, 29, 30, 31, 32, 33, 34, 35] ?_
  refine rg 1014000 ?_
  refine k_nil ?_
  show AK _ _ _ _ _ _
  refine rg 1015000 ?_
  refine k_nil ?_
  show AK _ _ _ _ _ _
  refine sq ?_
  refine rg 2012000 ?_
  refine pr [2, 6, 8, 25, 26, 27, 28, 29, 30, 31, 32, 33, 34, 35] ?_
  refine sq ?_
  refine ce ?_
  refine k_exit ?_
  show AK _ _ _ _ _ _
  refine sq ?_
  refine rg 16000 ?_
  refine pr [2] ?_
  refine fz 10000 ?_
  refine k_ret ?_
  show retQ _ _ _ _ _ _ _
  simp [*]

attribute [local simp] srow trow in
theorem spec115_0 (a b : List Int) (ha : a = []) (hb : b = []) : Flat.Sp Try.prog 115 [.p (.ps [srow a, srow b])] [] (.p (.ps ((a ++ b).map trow))) [] := by
  refine sk Try.func115 ?_
  intro F G hn hG
  subst ha
  subst hb
  refine sq ?_
  refine rg 1000 ?_
  refine pr [0, 2, 3, 5, 6, 8, 9, 10, 11, 12, 13, 14, 15, 16, 17, 18, 19, 20, 21, 22, 23, 24, 25, 26, 27, 28, 29, 30, 31, 32, 33, 34, 35] ?_
  refine sq ?_
  refine rg 2000 ?_
  refine pr [0, 2, 3, 5, 6, 8, 9, 10, 11, 12, 13, 14, 15, 16, 17, 18, 19, 20, 21, 22, 23, 24, 25, 26, 27, 28, 29, 30, 31, 32, 33, 34, 35] ?_
  refine sq ?_
  refine sq ?_
  refine rg 3000 ?_
  refine pr [0, 2, 3, 5, 6, 8, 9, 10, 11, 12, 13, 14, 15, 16, 17, 18, 19, 20, 21, 22, 23, 24, 25, 26, 27, 28, 29, 30, 31, 32, 33, 34, 35] ?_
  refine k_block ?_
  refine k_rounds 3 ?_
  show AK _ _ _ _ _ _
  refine sq ?_
  refine rg 4000 ?_
  refine pr [0, 2, 3, 5, 6, 8, 9, 10, 11, 12, 13, 14, 15, 16, 17, 18, 19, 20, 21, 22, 23, 24, 25, 26, 27, 28, 29, 30, 31, 32, 33, 34, 35] ?_
  refine sq ?_
  refine ct ?_
  refine k_skip ?_
  refine sq ?_
  refine k_block ?_
  refine sq ?_
  refine rg 5000 ?_
  refine pr [0, 2, 3, 5, 6, 8, 9, 10, 11, 12, 13, 14, 15, 16, 17, 18, 19, 20, 21, 22, 23, 24, 25, 26, 27, 28, 29, 30, 31, 32, 33, 34, 35] ?_
  refine sq ?_
  refine rg 6000 ?_
  refine pr [0, 2, 3, 5, 6, 8, 9, 10, 11, 12, 13, 14, 15, 16, 17, 18, 19, 20, 21, 22, 23, 24, 25, 26, 27, 28, 29, 30, 31, 32, 33, 34, 35] ?_
  refine sq ?_
  refine rg 7000 ?_
  refine pr [0, 2, 3, 5, 6, 8, 9, 10, 11, 12, 13, 14, 15, 16, 17, 18, 19, 20, 21, 22, 23, 24, 25, 26, 27, 28, 29, 30, 31, 32, 33, 34, 35] ?_
  refine ce ?_
  refine k_skip ?_
  refine k_nil ?_
  show AK _ _ _ _ _ _
  refine rg 9000 ?_
  refine k_nil ?_
  show AK _ _ _ _ _ _
  refine sq ?_
  refine rg 1004000 ?_
  refine pr [0, 2, 3, 5, 6, 8, 9, 10, 11, 12, 13, 14, 15, 16, 17, 18, 19, 20, 21, 22, 23, 24, 25, 26, 27, 28, 29, 30, 31, 32, 33, 34, 35] ?_
  refine sq ?_
  refine ct ?_
  refine k_skip ?_
  refine sq ?_
  refine k_block ?_
  refine sq ?_
  refine rg 1005000 ?_
  refine pr [0, 2, 3, 5, 6, 8, 9, 10, 11, 12, 13, 14, 15, 16, 17, 18, 19, 20, 21, 22, 23, 24, 25, 26, 27, 28, 29, 30, 31, 32, 33, 34, 35] ?_
  refine sq ?_
  refine rg 1006000 ?_
  refine pr [0, 2, 3, 5, 6, 8, 9, 10, 11, 12, 13, 14, 15, 16, 17, 18, 19, 20, 21, 22, 23, 24, 25, 26, 27, 28, 29, 30, 31, 32, 33, 34, 35] ?_
  refine sq ?_
  refine rg 1007000 ?_
  refine pr [0, 2, 3, 5, 6, 8, 9, 10, 11, 12, 13, 14, 15, 16, 17, 18, 19, 20, 21, 22, 23, 24, 25, 26, 27, 28, 29, 30, 31, 32, 33, 34, 35] ?_
  refine ce ?_
  refine k_skip ?_
  refine k_nil ?_
  show AK _ _ _ _ _ _
  refine rg 1009000 ?_
  refine k_nil ?_
  show AK _ _ _ _ _ _
  refine sq ?_
  refine rg 2004000 ?_
  refine pr [0, 2, 3, 5, 6, 8, 9, 10, 11, 12, 13, 14, 15, 16, 17, 18, 19, 20, 21, 22, 23, 24, 25, 26, 27, 28, 29, 30, 31, 32, 33, 34, 35] ?_
  refine sq ?_
  refine ce ?_
  refine k_exit ?_
  show AK _ _ _ _ _ _
  refine sq ?_
  refine rc 10000 ?_
  refine oc (id) (spec166_0) ?_
  refine oe 10100 ?_
  refine on ?_
  refine pr [0, 2, 6, 8, 25, 26, 27, 28, 29, 30, 31, 32, 33, 34, 35] ?_
  refine sq ?_
  refine sq ?_
  refine rg 11000 ?_
  refine pr [2, 6, 8, 25, 26, 27, 28, 29, 30, 31, 32, 33, 34, 35] ?_
  refine k_block ?_
  refine k_rounds 3 ?_
  show AK _ _ _ _ _ _
  refine sq ?_
  refine rg 12000 ?_
  refine pr [2, 6, 8, 25, 26, 27, 28, 29, 30, 31, 32, 33, 34, 35] ?_
  refine sq ?_
  refine ct ?_
  refine k_skip ?_
  refine sq ?_
  refine k_block ?_
  refine sq ?_
  refine rg 13000 ?_
  refine pr [2, 6, 8, 25, 26, 27, 28, 29, 30, 31, 32, 33, 34, 35] ?_
  refine rg 14000 ?_
  refine k_nil ?_
  show AK _ _ _ _ _ _
  refine rg 15000 ?_
  refine k_nil ?_
  show AK _ _ _ _ _ _
  refine sq ?_
  refine rg 1012000 ?_
  refine pr [2, 6, 8, 25, 26, 27, 28, 29, 30, 31, 32, 33, 34, 35] ?_
  refine sq ?_
  refine ct ?_
  refine k_skip ?_
  refine sq ?_
  refine k_block ?_
  refine sq ?_
  refine rg 1013000 ?_
  refine pr [2, 6, 8, 25, 26, 27, 28, 29, 30, 31, 32, 33, 34, 35] ?_
  refine rg 1014000 ?_
  refine k_nil ?_
  show AK _ _ _ _ _ _
  refine rg 1015000 ?_
  refine k_nil ?_
  show AK _ _ _ _ _ _
  refine sq ?_
  refine rg 2012000 ?_
  refine pr [2, 6, 8, 25, 26, 27, 28, 29, 30, 31, 32, 33, 34, 35] ?_
  refine sq ?_
  refine ce ?_
  refine k_exit ?_
  show AK _ _ _ _ _ _
  refine sq ?_
  refine rg 16000 ?_
  refine pr [2] ?_
  refine fz 14002 ?_
  refine k_ret ?_
  show retQ _ _ _ _ _ _ _
  simp [*]

theorem spec115 (a b : List Int) (ha : a.length ≤ 8) (hb : b.length ≤ 8) : Flat.Sp Try.prog 115 [.p (.ps [srow a, srow b])] [] (.p (.ps ((a ++ b).map trow))) [] := by
  rcases Nat.eq_zero_or_pos b.length with h | h
  · have hb0 := List.length_eq_zero_iff.1 h
    rcases Nat.eq_zero_or_pos a.length with h2 | h2
    · exact spec115_0 a b (List.length_eq_zero_iff.1 h2) hb0
    · exact spec115_e a b ha hb0 h2
  · exact spec115_n a b ha hb h

end Go.Proofs
end
section
set_option linter.unusedVariables false
set_option linter.unusedSimpArgs false
namespace Go.Proofs
open Go.Flat
set_option maxRecDepth 100000
set_option linter.unusedSimpArgs false
set_option linter.unusedVariables false
attribute [local simp] Bool.and_assoc Bool.or_assoc evalG evalX efD skF guardG guardL isCall stepL evalOp ev evs lk tmpsL app AV.ok fresh vv putCells insV ins del putL place Go.Flat.look fillC fillR getCells loadF storeF binF scalarBin intBin strBin isShift shiftBin unF lenF maxF minF rowsF appendF builtinF idxF natOf sliceP sliceF optEv Flat.cut overwrite toPV toPVs constAV scalarC scalarCs AV.cells TI.isAgg allSome andAll scalarEq buildable Go.Flat.lim retQ resL resAll resOne PartOf noTmp closedIn refs refs.refsL isSomeV hasB ids leA leA.leL renA renA.renL callB refsAll backL dropIds renS LiesAt injB ownB freshB memN locId insAll leA_refl leL_refl okS frzS frzA frzA.frzL evalD feet fine updCells cellsFrom memP footRf footWf noTmpU updIds opOps opIds idsA footR footW guardTs opTs dstTs callR callW renLoc renC inBlockQ thenQ Value.oneCell' IntKind.bits IntKind.signed

def redR (ts cols : List Int) (m agg w : Int) : List Int × Int :=
  let r := atL ts cols w
  if agg == 1 then (r.1 ++ [1], r.2)
  else if agg == 5 then (ts, unlessF r.2 (decide (1 ≤ m) && decide (m ≤ 8)) 1)
  else
    let q := atL ts [m] r.2
    (r.1 ++ q.1, unlessF q.2 (agg != 2 || q.1 == [1]) 11)

attribute [local simp] Pl.av in
theorem spec116_1 (S A : List (List Int)) (nd : Nat) (k m : Int) (kids : List Pl) (ex : List E) (cols wth : List Int) (agg rds : Int) (hc : cols.length ≤ Bnd) (ts : List Int) (w : Int) (hg1 : (agg == 1) = true) : Flat.Sp Try.prog 116 [.ptr 0 0, (Pl.mk k m kids ex cols wth agg rds).av, .p (.ps (ts.map trow))] [(.var 0, .n 3), (.cell 0 0, .av (vv (.int .i64 (w)))), (.cell 0 1, .av (.p (.ps (S.map srow)))), (.cell 0 2, .av (.sl 1 (A).length 0 (nd))), (.arr 1, .arr 45 1 ((A).map srow) 0)] (.p (.ps ((redR ts cols m agg w).1.map trow))) [(.var 0, .n 3), (.cell 0 0, .av (vv (.int .i64 ((redR ts cols m agg w).2)))), (.cell 0 1, .av (.p (.ps (S.map srow)))), (.cell 0 2, .av (.sl 1 (A).length 0 (nd))), (.arr 1, .arr 45 1 ((A).map srow) 0)] := by
  refine sk Try.func116 ?_
  intro F G hn hG
  have htk1 : ∀ z, ((atL ts cols w).1.map trow ++ [z]).take ((atL ts cols w).1.length + 1) = (atL ts cols w).1.map trow ++ [z] := fun z => List.take_of_length_le (by simp)
  have hal := atL_len ts cols w
  have hlc : cols.length ≤ 1048576 := hc
  have hl1 : (atL ts cols w).1.length + 1 ≤ 140737488355328 := by omega
  have htk : ((atL ts cols w).1.map trow).take (atL ts cols w).1.length = (atL ts cols w).1.map trow := List.take_of_length_le (by simp)
  refine sq ?_
  refine rg 1000 ?_
  refine pr [0, 2, 4, 6, 7, 8, 9, 10, 11, 12, 13, 14, 15, 16, 17, 18, 19, 20, 21, 22, 23, 24, 25, 26, 27, 28, 29, 30, 31, 32, 33, 35, 36, 37, 38, 39, 40, 41, 42, 43, 44, 45, 46, 47, 48, 49, 50, 51, 52, 54, 55, 56] ?_
  refine sq ?_
  refine rc 2000 ?_
  refine oc (fun k => if k = 900 then 2500 else k) (spec113 S A nd ts cols hc w) ?_
  refine oe 2100 ?_
  refine on ?_
  refine pr [0, 2, 4, 6, 7, 8, 14, 15, 16, 17, 18, 19, 20, 21, 22, 23, 24, 25, 26, 27, 28, 29, 30, 31, 32, 33, 35, 36, 37, 38, 39, 40, 41, 42, 43, 44, 45, 46, 47, 48, 49, 50, 51, 52, 54, 55, 56] ?_
  refine sq ?_
  refine sq ?_
  refine rg 3000 ?_
  refine pr [0, 2, 4, 6, 7, 8, 15, 16, 17, 18, 19, 20, 21, 22, 23, 24, 25, 26, 27, 28, 29, 30, 31, 32, 33, 35, 36, 37, 38, 39, 40, 41, 42, 43, 44, 45, 46, 47, 48, 49, 50, 51, 52, 54, 55, 56] ?_
  refine k_block ?_
  refine sq ?_
  refine rg 4000 ?_
  refine pr [0, 2, 4, 6, 7, 8, 15, 16, 18, 19, 20, 21, 22, 23, 24, 25, 26, 27, 28, 29, 30, 31, 32, 33, 35, 36, 37, 38, 39, 40, 41, 42, 43, 44, 45, 46, 47, 48, 49, 50, 51, 52, 54, 55, 56] ?_
  refine ct ?_
  refine sq ?_
  refine rg 5000 ?_ (h := by simp [*, trow]; exact is_rfl _)
  refine pr [0, 2, 4, 6, 7, 8, 36, 37, 38, 39, 40, 41, 42, 43, 44, 45, 46, 47, 48, 49, 50, 51, 52, 54, 55, 56] ?_
  refine fz 2500 ?_
  refine k_ret ?_
  show retQ _ _ _ _ _ _ _
  simp [*, redR, trow]

attribute [local simp] Pl.av in
theorem spec116_5 (S A : List (List Int)) (nd : Nat) (k m : Int) (kids : List Pl) (ex : List E) (cols wth : List Int) (agg rds : Int) (hc : cols.length ≤ Bnd) (ts : List Int) (w : Int) (hg1 : (agg == 1) = false) (hg5 : (agg == 5) = true) : Flat.Sp Try.prog 116 [.ptr 0 0, (Pl.mk k m kids ex cols wth agg rds).av, .p (.ps (ts.map trow))] [(.var 0, .n 3), (.cell 0 0, .av (vv (.int .i64 (w)))), (.cell 0 1, .av (.p (.ps (S.map srow)))), (.cell 0 2, .av (.sl 1 (A).length 0 (nd))), (.arr 1, .arr 45 1 ((A).map srow) 0)] (.p (.ps ((redR ts cols m agg w).1.map trow))) [(.var 0, .n 3), (.cell 0 0, .av (vv (.int .i64 ((redR ts cols m agg w).2)))), (.cell 0 1, .av (.p (.ps (S.map srow)))), (.cell 0 2, .av (.sl 1 (A).length 0 (nd))), (.arr 1, .arr 45 1 ((A).map srow) 0)] := by
  refine sk Try.func116 ?_
  intro F G hn hG
  refine sq ?_
  refine rg 1000 ?_
  refine pr [0, 2, 4, 6, 7, 8, 9, 10, 11, 12, 13, 14, 15, 16, 17, 18, 19, 20, 21, 22, 23, 24, 25, 26, 27, 28, 29, 30, 31, 32, 33, 35, 36, 37, 38, 39, 40, 41, 42, 43, 44, 45, 46, 47, 48, 49, 50, 51, 52, 54, 55, 56] ?_
  refine sq ?_
  refine rc 2000 ?_
  refine oc (fun k => if k = 900 then 2500 else k) (spec113 S A nd ts cols hc w) ?_
  refine oe 2100 ?_
  refine on ?_
  refine pr [0, 2, 4, 6, 7, 8, 14, 15, 16, 17, 18, 19, 20, 21, 22, 23, 24, 25, 26, 27, 28, 29, 30, 31, 32, 33, 35, 36, 37, 38, 39, 40, 41, 42, 43, 44, 45, 46, 47, 48, 49, 50, 51, 52, 54, 55, 56] ?_
  refine sq ?_
  refine sq ?_
  refine rg 3000 ?_
  refine pr [0, 2, 4, 6, 7, 8, 15, 16, 17, 18, 19, 20, 21, 22, 23, 24, 25, 26, 27, 28, 29, 30, 31, 32, 33, 35, 36, 37, 38, 39, 40, 41, 42, 43, 44, 45, 46, 47, 48, 49, 50, 51, 52, 54, 55, 56] ?_
  refine k_block ?_
  refine sq ?_
  refine rg 4000 ?_
  refine pr [0, 2, 4, 6, 7, 8, 15, 16, 18, 19, 20, 21, 22, 23, 24, 25, 26, 27, 28, 29, 30, 31, 32, 33, 35, 36, 37, 38, 39, 40, 41, 42, 43, 44, 45, 46, 47, 48, 49, 50, 51, 52, 54, 55, 56] ?_
  refine ce ?_
  refine sq ?_
  refine rg 6000 ?_
  refine pr [0, 2, 4, 6, 7, 8, 21, 23, 24, 25, 26, 27, 28, 29, 30, 31, 32, 33, 35, 36, 37, 38, 39, 40, 41, 42, 43, 44, 45, 46, 47, 48, 49, 50, 51, 52, 54, 55, 56] ?_
  refine ct ?_
  refine sq ?_
  refine dr ?_
  refine de 7000 ?_
  iterate 3 (first | refine dp 7250 ?_ | refine ds ?_ | refine dt 7250 ?_)
  refine de 7300 ?_
  refine dc id (spec112 S A nd (atL ts cols w).2 (decide (1 ≤ m) && decide (m ≤ 8)) 1) ?_
  refine dn ?_
  refine pr [0, 2, 4, 6, 7, 8, 35, 36, 37, 38, 39, 40, 41, 42, 43, 44, 45, 46, 47, 48, 49, 50, 51, 52, 54, 55, 56] ?_
  refine sq ?_
  refine rg 8000 ?_
  refine pr [0, 2, 4, 6, 7, 8, 36, 37, 38, 39, 40, 41, 42, 43, 44, 45, 46, 47, 48, 49, 50, 51, 52, 54, 55, 56] ?_
  refine k_ret ?_
  show retQ _ _ _ _ _ _ _
  simp [*, redR]

attribute [local simp] Pl.av in
theorem spec116_x (S A : List (List Int)) (nd : Nat) (k m : Int) (kids : List Pl) (ex : List E) (cols wth : List Int) (agg rds : Int) (hc : cols.length ≤ Bnd) (ts : List Int) (w : Int) (hg1 : (agg == 1) = false) (hg5 : (agg == 5) = false) : Flat.Sp Try.prog 116 [.ptr 0 0, (Pl.mk k m kids ex cols wth agg rds).av, .p (.ps (ts.map trow))] [(.var 0, .n 3), (.cell 0 0, .av (vv (.int .i64 (w)))), (.cell 0 1, .av (.p (.ps (S.map srow)))), (.cell 0 2, .av (.sl 1 (A).length 0 (nd))), (.arr 1, .arr 45 1 ((A).map srow) 0)] (.p (.ps ((redR ts cols m agg w).1.map trow))) [(.var 0, .n 3), (.cell 0 0, .av (vv (.int .i64 ((redR ts cols m agg w).2)))), (.cell 0 1, .av (.p (.ps (S.map srow)))), (.cell 0 2, .av (.sl 1 (A).length 0 (nd))), (.arr 1, .arr 45 1 ((A).map srow) 0)] := by
  refine sk Try.func116 ?_
  intro F G hn hG
  have hq := atL_len ts [m] (atL ts cols w).2
  have hlc : cols.length ≤ 1048576 := hc
  have hal := atL_len ts cols w
  simp only [List.length_singleton] at hq
  have hl2 : (atL ts cols w).1.length + (atL ts [m] (atL ts cols w).2).1.length ≤ 140737488355328 := by omega
  have htk : ((atL ts [m] (atL ts cols w).2).1.map trow).take (atL ts [m] (atL ts cols w).2).1.length = (atL ts [m] (atL ts cols w).2).1.map trow := List.take_of_length_le (by simp)
  have htk2 : ((atL ts cols w).1.map trow ++ (atL ts [m] (atL ts cols w).2).1.map trow).take ((atL ts cols w).1.length + (atL ts [m] (atL ts cols w).2).1.length) = (atL ts cols w).1.map trow ++ (atL ts [m] (atL ts cols w).2).1.map trow := List.take_of_length_le (by simp)
  refine sq ?_
  refine rg 1000 ?_
  refine pr [0, 2, 4, 6, 7, 8, 9, 10, 11, 12, 13, 14, 15, 16, 17, 18, 19, 20, 21, 22, 23, 24, 25, 26, 27, 28, 29, 30, 31, 32, 33, 35, 36, 37, 38, 39, 40, 41, 42, 43, 44, 45, 46, 47, 48, 49, 50, 51, 52, 54, 55, 56] ?_
  refine sq ?_
  refine rc 2000 ?_
  refine oc (fun k => if k = 900 then 2500 else k) (spec113 S A nd ts cols hc w) ?_
  refine oe 2100 ?_
  refine on ?_
  refine pr [0, 2, 4, 6, 7, 8, 14, 15, 16, 17, 18, 19, 20, 21, 22, 23, 24, 25, 26, 27, 28, 29, 30, 31, 32, 33, 35, 36, 37, 38, 39, 40, 41, 42, 43, 44, 45, 46, 47, 48, 49, 50, 51, 52, 54, 55, 56] ?_
  refine sq ?_
  refine sq ?_
  refine rg 3000 ?_
  refine pr [0, 2, 4, 6, 7, 8, 15, 16, 17, 18, 19, 20, 21, 22, 23, 24, 25, 26, 27, 28, 29, 30, 31, 32, 33, 35, 36, 37, 38, 39, 40, 41, 42, 43, 44, 45, 46, 47, 48, 49, 50, 51, 52, 54, 55, 56] ?_
  refine k_block ?_
  refine sq ?_
  refine rg 4000 ?_
  refine pr [0, 2, 4, 6, 7, 8, 15, 16, 18, 19, 20, 21, 22, 23, 24, 25, 26, 27, 28, 29, 30, 31, 32, 33, 35, 36, 37, 38, 39, 40, 41, 42, 43, 44, 45, 46, 47, 48, 49, 50, 51, 52, 54, 55, 56] ?_
  refine ce ?_
  refine sq ?_
  refine rg 6000 ?_
  refine pr [0, 2, 4, 6, 7, 8, 21, 23, 24, 25, 26, 27, 28, 29, 30, 31, 32, 33, 35, 36, 37, 38, 39, 40, 41, 42, 43, 44, 45, 46, 47, 48, 49, 50, 51, 52, 54, 55, 56] ?_
  refine ce ?_
  refine k_skip ?_
  refine k_nil ?_
  show AK _ _ _ _ _ _
  refine sq ?_
  refine rc 9000 ?_
  refine oc (fun k => if k = 900 then 9500 else k) (spec113 S A nd ts [m] (by simp [Bnd]) (atL ts cols w).2) ?_ (hg := by simp [*, irow]) (hf := by simp [*, irow]; exact is_rfl _) (hx := by simp [*, irow]; exact is_rfl _) (hargs := by simp [*, irow]) (hB := by simp [*, irow]) (hL := by simp [*, irow]) (hd := by simp [*, irow]; exact is_rfl _)
  refine oe 9100 ?_
  refine on ?_
  refine pr [0, 4, 6, 7, 8, 42, 43, 44, 45, 46, 47, 48, 49, 50, 51, 52, 54, 55, 56] ?_
  refine fz 9500 ?_
  refine sq ?_
  refine dr ?_
  refine de 10000 ?_
  iterate 2 (first | refine dp 10150 ?_ | refine ds ?_ | refine dt 10150 ?_)
  refine dg (fun hg => spec114 (atL ts [m] (atL ts cols w).2).1 [1] (by simp only [Flat.lim]; omega)) ?_ (hf := by intro hgg; (try simp only [Bool.and_eq_true] at hgg); simp [*, trow]; exact is_rfl _) (hx := by intro hgg; (try simp only [Bool.and_eq_true] at hgg); simp [*, trow]; exact is_rfl _) (hargs := by intro hgg; (try simp only [Bool.and_eq_true] at hgg); simp [*, trow]) (hd := by simp [*, trow]; exact is_rfl _)
  refine de 10300 ?_
  refine dc id (spec112 S A nd (atL ts [m] (atL ts cols w).2).2 (agg != 2 || (atL ts [m] (atL ts cols w).2).1 == [1]) 11) ?_
  refine dn ?_
  refine pr [6, 7, 8, 54, 55, 56] ?_
  refine sq ?_
  refine rg 11000 ?_ (h := by simp [*, trow]; exact is_rfl _)
  refine pr [6] ?_
  refine fz 2500 ?_
  refine k_ret ?_
  show retQ _ _ _ _ _ _ _
  simp [*, redR]

theorem spec116 (S A : List (List Int)) (nd : Nat) (k m : Int) (kids : List Pl) (ex : List E) (cols wth : List Int) (agg rds : Int) (hc : cols.length ≤ Bnd) (ts : List Int) (w : Int) : Flat.Sp Try.prog 116 [.ptr 0 0, (Pl.mk k m kids ex cols wth agg rds).av, .p (.ps (ts.map trow))] [(.var 0, .n 3), (.cell 0 0, .av (vv (.int .i64 (w)))), (.cell 0 1, .av (.p (.ps (S.map srow)))), (.cell 0 2, .av (.sl 1 (A).length 0 (nd))), (.arr 1, .arr 45 1 ((A).map srow) 0)] (.p (.ps ((redR ts cols m agg w).1.map trow))) [(.var 0, .n 3), (.cell 0 0, .av (vv (.int .i64 ((redR ts cols m agg w).2)))), (.cell 0 1, .av (.p (.ps (S.map srow)))), (.cell 0 2, .av (.sl 1 (A).length 0 (nd))), (.arr 1, .arr 45 1 ((A).map srow) 0)] := by
  cases hg1 : (agg == 1) with
  | true => exact spec116_1 S A nd k m kids ex cols wth agg rds hc ts w hg1
  | false =>
    cases hg5 : (agg == 5) with
    | true => exact spec116_5 S A nd k m kids ex cols wth agg rds hc ts w hg1 hg5
    | false => exact spec116_x S A nd k m kids ex cols wth agg rds hc ts w hg1 hg5

end Go.Proofs
end
section
set_option linter.unusedVariables false
set_option linter.unusedSimpArgs false
namespace Go.Proofs
open Go.Flat
/-- The stack of the schemas around: one more, in the place behind nd. -/
def pushA (A : List (List Int)) (nd : Nat) (x : List Int) : List (List Int) := A.take nd ++ [x] ++ A.drop (nd + 1)
theorem pushA_len {A : List (List Int)} {nd : Nat} (x : List Int) (h : nd ≤ A.length) : (pushA A nd x).length = max A.length (nd + 1) := by
  simp only [pushA, List.length_append, List.length_take, List.length_drop, List.length_singleton]
  omega
theorem pushA_take {A : List (List Int)} {nd : Nat} (x : List Int) (h : nd ≤ A.length) : (pushA A nd x).take nd = A.take nd := by
  rw [pushA, List.append_assoc, List.take_append_of_le_length (by simp; omega), List.take_take]
  congr 1
  omega
theorem pushA_take1 {A : List (List Int)} {nd : Nat} (x : List Int) (h : nd ≤ A.length) : (pushA A nd x).take (nd + 1) = A.take nd ++ [x] := by
  have hl : (A.take nd ++ [x]).length = nd + 1 := by simp; omega
  rw [pushA, List.take_append_of_le_length (by omega), List.take_of_length_le (by omega)]
/-- What the judge makes of a plan, its kids' schemas known. -/
def finR (k m : Int) (ex : List E) (cols wth : List Int) (agg : Int) (l : List (List Int)) (w : Int) : List Int × Int :=
  if k == 3 then (ex.map (fun e => (inferE (l.getD 0 []) e).1), exsW (l.getD 0 []) ex w)
  else if k == 4 then (l.getD 0 [], unlessF (exsW (l.getD 0 []) ex w) ((ex.map (fun e => (inferE (l.getD 0 []) e).1)).getD 0 0 == 1) 11)
  else if k == 7 then (l.getD 0 [] ++ l.getD 1 [], unlessF (atL (l.getD 1 []) wth (atL (l.getD 0 []) cols w).2).2 ((atL (l.getD 0 []) cols w).1 == (atL (l.getD 1 []) wth (atL (l.getD 0 []) cols w).2).1) 11)
  else if k == 8 then redR (l.getD 0 []) cols m agg w
  else (l.getD 0 [], unlessF w (!(l.any fun s => !(s == l.getD 0 []))) 11)
def finJ (k m : Int) (ex : List E) (cols wth : List Int) (agg : Int) (l : List (List Int)) (w : Int) : List Int × Int :=
  ((finR k m ex cols wth agg l w).1, unlessF (finR k m ex cols wth agg l w).2 (decide (((finR k m ex cols wth agg l w).1.length : Int) ≤ 8)) 2)
abbrev JR := Int × List (List Int)
def varI (nd : Nat) (m : Int) : Int := IntKind.i64.wrap (IntKind.i64.wrap ((nd : Int) - 1) - m)
mutual
def jdg (S : List (List Int)) : Pl → Nat → Int → List (List Int) → List Int × JR
  | .mk k m kids ex cols wth agg rds, nd, w, A =>
    if k == 1 then (oneR S m, oneW S m w, A)
    else if k == 2 then (if decide (m < 0) then ([], unlessF w false 1, A) else (oneR (A.take nd) (varI nd m), oneW (A.take nd) (varI nd m) w, A))
    else
      let r := if k == 10 then jdgI S kids nd w A else jdgL S kids nd w A
      if r.2.1 != 0 then ([], r.2.1, r.2.2)
      else ((finJ k m ex cols wth agg r.1 r.2.1).1, (finJ k m ex cols wth agg r.1 r.2.1).2, r.2.2)
def jdgL (S : List (List Int)) : List Pl → Nat → Int → List (List Int) → List (List Int) × JR
  | [], _, w, A => ([], w, A)
  | x :: q, nd, w, A =>
    let a := jdg S x nd w A
    let b := jdgL S q nd a.2.1 a.2.2
    (a.1 :: b.1, b.2)
def jdgI (S : List (List Int)) : List Pl → Nat → Int → List (List Int) → List (List Int) × JR
  | [], _, w, A => ([], w, A)
  | x :: q, nd, w, A =>
    let a := jdg S x nd w A
    let b := jdgL S q (nd + 1) a.2.1 (pushA a.2.2 nd a.1)
    (a.1 :: b.1, b.2)
end
def jdgK (S : List (List Int)) (k : Int) (kids : List Pl) (nd : Nat) (w : Int) (A : List (List Int)) : List (List Int) × JR := if k == 10 then jdgI S kids nd w A else jdgL S kids nd w A
theorem jdgL_append (S : List (List Int)) (nd : Nat) : ∀ (l q : List Pl) (w : Int) (A : List (List Int)), jdgL S (l ++ q) nd w A = ((jdgL S l nd w A).1 ++ (jdgL S q nd (jdgL S l nd w A).2.1 (jdgL S l nd w A).2.2).1, (jdgL S q nd (jdgL S l nd w A).2.1 (jdgL S l nd w A).2.2).2)
  | [], q, w, A => by simp [jdgL]
  | x :: l, q, w, A => by
    simp only [List.cons_append, jdgL, jdgL_append S nd l q]
theorem jdgL_take {S : List (List Int)} {kids : List Pl} {nd : Nat} {w : Int} {A : List (List Int)} {i : Nat} {x : Pl} (h : kids[i]? = some x) :
    jdgL S (kids.take (i + 1)) nd w A = ((jdgL S (kids.take i) nd w A).1 ++ [(jdg S x nd (jdgL S (kids.take i) nd w A).2.1 (jdgL S (kids.take i) nd w A).2.2).1], (jdg S x nd (jdgL S (kids.take i) nd w A).2.1 (jdgL S (kids.take i) nd w A).2.2).2) := by
  rw [List.take_add_one, h, jdgL_append]
  simp [jdgL]
theorem jdgL_rows (S : List (List Int)) (nd : Nat) : ∀ (l : List Pl) (w : Int) (A : List (List Int)), (jdgL S l nd w A).1.length = l.length
  | [], w, A => by simp [jdgL]
  | x :: l, w, A => by simp [jdgL, jdgL_rows S nd l]
theorem jdgI_rows (S : List (List Int)) (nd : Nat) (l : List Pl) (w : Int) (A : List (List Int)) : (jdgI S l nd w A).1.length = l.length := by
  cases l with
  | nil => simp [jdgI]
  | cons x l => simp [jdgI, jdgL_rows]
theorem jdgK_rows (S : List (List Int)) (k : Int) (nd : Nat) (l : List Pl) (w : Int) (A : List (List Int)) : (jdgK S k l nd w A).1.length = l.length := by
  unfold jdgK
  split
  · exact jdgI_rows ..
  · exact jdgL_rows ..
mutual
/-- A right plan, all the way down, at some depth. -/
def Pl.good : Pl → Nat → Prop
  | .mk k m kids ex cols wth agg rds, d => d ≤ 16 ∧ formedP k m kids.length ex cols wth agg rds = true ∧ (∀ e ∈ ex, checkE e = 0) ∧ Pl.goodL kids (d + 1)
def Pl.goodL : List Pl → Nat → Prop
  | [], _ => True
  | e :: r, d => e.good d ∧ Pl.goodL r d
end
theorem Pl.goodL_mem {d : Nat} : ∀ {l : List Pl}, Pl.goodL l d → ∀ k ∈ l, k.good d
  | [], _, k, h => by simp at h
  | e :: r, h, k, hk => by
    simp only [Pl.goodL] at h
    rcases List.mem_cons.1 hk with rfl | hk
    · exact h.1
    · exact Pl.goodL_mem h.2 k hk
theorem Pl.goodL_of {d : Nat} : ∀ {l : List Pl}, (∀ k ∈ l, k.good d) → Pl.goodL l d
  | [], _ => by simp [Pl.goodL]
  | e :: r, h => by
    rw [Pl.goodL]
    exact ⟨h e (by simp), Pl.goodL_of fun k hk => h k (by simp [hk])⟩
/-- The stack grows, and stays short; what lies below stays. -/
def Grows (A A' : List (List Int)) (nd : Nat) : Prop := A.length ≤ A'.length ∧ A'.length ≤ 16 ∧ A'.take nd = A.take nd
theorem Grows.rfl' {A : List (List Int)} {nd : Nat} (h : A.length ≤ 16) : Grows A A nd := ⟨Nat.le_refl _, h, rfl⟩
theorem Grows.trans {A B D : List (List Int)} {nd : Nat} (h1 : Grows A B nd) (h2 : Grows B D nd) : Grows A D nd := ⟨Nat.le_trans h1.1 h2.1, h2.2.1, h2.2.2.trans h1.2.2⟩
theorem jdgL_grows {S : List (List Int)} {d : Nat} {l : List Pl} (ih : ∀ x ∈ l, ∀ nd w A, nd < d → nd ≤ A.length → A.length ≤ 16 → Grows A (jdg S x nd w A).2.2 nd) : ∀ nd w A, nd < d → nd ≤ A.length → A.length ≤ 16 → Grows A (jdgL S l nd w A).2.2 nd := by
  induction l with
  | nil => intro nd w A _ _ h; simp only [jdgL]; exact .rfl' h
  | cons x l ihl =>
    intro nd w A h1 h2 h3
    simp only [jdgL]
    have g := ih x (by simp) nd w A h1 h2 h3
    exact g.trans (ihl (fun y hy => ih y (by simp [hy])) nd _ _ h1 (Nat.le_trans h2 g.1) g.2.1)
theorem jdgI_grows {S : List (List Int)} {d : Nat} (hd : d ≤ 16) {l : List Pl} (ih : ∀ x ∈ l, ∀ nd w A, nd < d + 1 → nd ≤ A.length → A.length ≤ 16 → Grows A (jdg S x nd w A).2.2 nd) : ∀ nd w A, nd < d → nd ≤ A.length → A.length ≤ 16 → Grows A (jdgI S l nd w A).2.2 nd := by
  intro nd w A h1 h2 h3
  cases l with
  | nil => simp only [jdgI]; exact .rfl' h3
  | cons x l =>
    simp only [jdgI]
    have g := ih x (by simp) nd w A (by omega) h2 h3
    have h4 := Nat.le_trans h2 g.1
    have hp := pushA_len (jdg S x nd w A).1 h4
    have hq := g.2.1
    have g2 := jdgL_grows (S := S) (d := d + 1) (l := l) (fun y hy => ih y (by simp [hy])) (nd + 1) (jdg S x nd w A).2.1 (pushA (jdg S x nd w A).2.2 nd (jdg S x nd w A).1) (by omega) (by rw [hp]; omega) (by rw [hp]; omega)
    refine ⟨Nat.le_trans g.1 (Nat.le_trans (by rw [hp]; omega) g2.1), g2.2.1, ?_⟩
    have := congrArg (List.take nd) g2.2.2
    rw [List.take_take, List.take_take, Nat.min_eq_left (by omega), pushA_take _ h4, g.2.2] at this
    exact this
theorem jdg_grows (S : List (List Int)) : ∀ (p : Pl) (d : Nat), p.good d → ∀ nd w A, nd < d → nd ≤ A.length → A.length ≤ 16 → Grows A (jdg S p nd w A).2.2 nd := by
  refine Pl.ind fun k m kids ex cols wth agg rds ih d hg nd w A h1 h2 h3 => ?_
  rw [Pl.good] at hg
  obtain ⟨hd, -, -, hgl⟩ := hg
  have ih' : ∀ x ∈ kids, ∀ nd w A, nd < d + 1 → nd ≤ A.length → A.length ≤ 16 → Grows A (jdg S x nd w A).2.2 nd := fun x hx nd w A => ih x hx (d + 1) (Pl.goodL_mem hgl x hx) nd w A
  have gI := jdgI_grows hd ih' nd w A h1 h2 h3
  have gL := jdgL_grows (d := d + 1) ih' nd w A (by omega) h2 h3
  rw [jdg]
  split
  · exact .rfl' h3
  · split
    · split <;> exact .rfl' h3
    · simp only
      split <;> split <;> first | exact gI | exact gL
theorem jdgK_grows {S : List (List Int)} {k : Int} {kids : List Pl} {d : Nat} (hd : d ≤ 16) (hgl : Pl.goodL kids (d + 1)) {nd : Nat} {w : Int} {A : List (List Int)} (h1 : nd < d) (h2 : nd ≤ A.length) (h3 : A.length ≤ 16) : Grows A (jdgK S k kids nd w A).2.2 nd := by
  have ih' : ∀ x ∈ kids, ∀ nd w A, nd < d + 1 → nd ≤ A.length → A.length ≤ 16 → Grows A (jdg S x nd w A).2.2 nd := fun x hx nd w A => jdg_grows S x (d + 1) (Pl.goodL_mem hgl x hx) nd w A
  unfold jdgK
  split
  · exact jdgI_grows hd ih' nd w A h1 h2 h3
  · exact jdgL_grows (d := d + 1) ih' nd w A (by omega) h2 h3
end Go.Proofs
end
section
set_option linter.unusedVariables false
set_option linter.unusedSimpArgs false
namespace Go.Proofs
open Go.Flat
theorem unlessF_zero {w y : Int} {b : Bool} (h : unlessF w b y = 0) : w = 0 := by
  unfold unlessF at h
  by_cases hw : w = 0
  · exact hw
  · simp [hw] at h
theorem unlessF_zero2 {w y : Int} {b : Bool} (hy : y ≠ 0) (h : unlessF w b y = 0) : w = 0 ∧ b = true := by
  have h0 := unlessF_zero h
  subst h0
  cases b with
  | true => exact ⟨rfl, rfl⟩
  | false => simp [unlessF] at h; exact absurd h hy
theorem foldl_zero {α : Type} {f : Int → α → Int} (hf : ∀ w a, f w a = 0 → w = 0) : ∀ (l : List α) (w : Int), l.foldl f w = 0 → w = 0
  | [], w, h => h
  | a :: l, w, h => hf w a (foldl_zero hf l (f w a) h)
theorem exsW_zero {ts : List Int} {ex : List E} {w : Int} (h : exsW ts ex w = 0) : w = 0 := foldl_zero (fun _ _ h => unlessF_zero h) ex w h
theorem foldl_atF_zero (ts : List Int) : ∀ (cols : List Int) (r : List Int × Int), (cols.foldl (atF ts) r).2 = 0 → r.2 = 0
  | [], r, h => h
  | c :: q, r, h => by
    have := foldl_atF_zero ts q (atF ts r c) h
    simp only [atF] at this
    split at this
    · exact unlessF_zero this
    · exact unlessF_zero this
theorem atL_zero {ts cols : List Int} {w : Int} (h : (atL ts cols w).2 = 0) : w = 0 := foldl_atF_zero ts cols _ h
theorem redR_zero {ts cols : List Int} {m agg w : Int} (h : (redR ts cols m agg w).2 = 0) : w = 0 := by
  simp only [redR] at h
  split at h
  · exact atL_zero h
  · split at h
    · exact atL_zero (unlessF_zero h)
    · exact atL_zero (atL_zero (unlessF_zero h))
theorem finR_zero {k m : Int} {ex : List E} {cols wth : List Int} {agg : Int} {l : List (List Int)} {w : Int} (h : (finR k m ex cols wth agg l w).2 = 0) : w = 0 := by
  unfold finR at h
  split at h
  · exact exsW_zero h
  · split at h
    · exact exsW_zero (unlessF_zero h)
    · split at h
      · exact atL_zero (atL_zero (unlessF_zero h))
      · split at h
        · exact redR_zero h
        · exact unlessF_zero h
theorem finJ_zero {k m : Int} {ex : List E} {cols wth : List Int} {agg : Int} {l : List (List Int)} {w : Int} (h : (finJ k m ex cols wth agg l w).2 = 0) : w = 0 ∧ (finJ k m ex cols wth agg l w).1.length ≤ 8 := by
  simp only [finJ] at h ⊢
  obtain ⟨h1, h2⟩ := unlessF_zero2 (by decide) h
  refine ⟨finR_zero h1, ?_⟩
  simp only [decide_eq_true_eq] at h2
  omega
theorem oneR_len {l : List (List Int)} (h : ∀ s ∈ l, s.length ≤ 8) (i : Int) : (oneR l i).length ≤ 8 := by
  unfold oneR
  split
  · simp
  · rw [List.getD_eq_getElem?_getD]
    cases hq : l[i.toNat]? with
    | none => simp
    | some x => exact h x (List.mem_of_getElem? hq)
theorem oneW_zero {l : List (List Int)} {i w : Int} (h : oneW l i w = 0) : w = 0 := by
  unfold oneW at h
  split at h
  · exact unlessF_zero h
  · exact h
def Sh (A : List (List Int)) (nd : Nat) (w : Int) : Prop := w = 0 → ∀ s ∈ A.take nd, s.length ≤ 8
def JOk (S : List (List Int)) (p : Pl) (d : Nat) : Prop := ∀ nd w A, nd < d → nd ≤ A.length → A.length ≤ 16 → Sh A nd w → (jdg S p nd w A).2.1 = 0 → w = 0 ∧ (jdg S p nd w A).1.length ≤ 8
def LOk (r : List (List Int) × JR) (w : Int) : Prop := r.2.1 = 0 → w = 0 ∧ ∀ s ∈ r.1, s.length ≤ 8
theorem jdgL_ok {S : List (List Int)} {d : Nat} {l : List Pl} (hg : Pl.goodL l d) (ih : ∀ x ∈ l, JOk S x d) : ∀ nd w A, nd < d → nd ≤ A.length → A.length ≤ 16 → Sh A nd w → LOk (jdgL S l nd w A) w := by
  induction l with
  | nil => intro nd w A _ _ _ _ h; simp only [jdgL] at h ⊢; exact ⟨h, by simp⟩
  | cons x l ihl =>
    intro nd w A h1 h2 h3 h4 h
    rw [Pl.goodL] at hg
    simp only [jdgL] at h ⊢
    have g := jdg_grows S x d hg.1 nd w A h1 h2 h3
    have hx := ih x (by simp) nd w A h1 h2 h3 h4
    have hl := ihl hg.2 (fun y hy => ih y (by simp [hy])) nd (jdg S x nd w A).2.1 (jdg S x nd w A).2.2 h1 (Nat.le_trans h2 g.1) g.2.1 (fun hz => by rw [g.2.2]; exact h4 (hx hz).1) h
    have hx2 := hx hl.1
    refine ⟨hx2.1, fun s hs => ?_⟩
    rcases List.mem_cons.1 hs with rfl | hs
    · exact hx2.2
    · exact hl.2 s hs
theorem jdgI_ok {S : List (List Int)} {d : Nat} (hd : d ≤ 16) {l : List Pl} (hg : Pl.goodL l (d + 1)) (ih : ∀ x ∈ l, JOk S x (d + 1)) : ∀ nd w A, nd < d → nd ≤ A.length → A.length ≤ 16 → Sh A nd w → LOk (jdgI S l nd w A) w := by
  intro nd w A h1 h2 h3 h4 h
  cases l with
  | nil => simp only [jdgI] at h ⊢; exact ⟨h, by simp⟩
  | cons x l =>
    rw [Pl.goodL] at hg
    simp only [jdgI] at h ⊢
    have g := jdg_grows S x (d + 1) hg.1 nd w A (by omega) h2 h3
    have hx := ih x (by simp) nd w A (by omega) h2 h3 h4
    have h5 := Nat.le_trans h2 g.1
    have hp := pushA_len (jdg S x nd w A).1 h5
    have hq := g.2.1
    have hl := jdgL_ok (S := S) (d := d + 1) hg.2 (fun y hy => ih y (by simp [hy])) (nd + 1) (jdg S x nd w A).2.1 (pushA (jdg S x nd w A).2.2 nd (jdg S x nd w A).1) (by omega) (by rw [hp]; omega) (by rw [hp]; omega) (fun hz s hs => by
      rw [pushA_take1 _ h5, g.2.2] at hs
      rcases List.mem_append.1 hs with hs | hs
      · exact h4 (hx hz).1 s hs
      · rw [List.mem_singleton] at hs; rw [hs]; exact (hx hz).2) h
    have hx2 := hx hl.1
    refine ⟨hx2.1, fun s hs => ?_⟩
    rcases List.mem_cons.1 hs with rfl | hs
    · exact hx2.2
    · exact hl.2 s hs
theorem jdg_ok {S : List (List Int)} (hS : ∀ s ∈ S, s.length ≤ 8) : ∀ (p : Pl) (d : Nat), p.good d → JOk S p d := by
  refine Pl.ind fun k m kids ex cols wth agg rds ih d hg nd w A h1 h2 h3 h4 h => ?_
  rw [Pl.good] at hg
  obtain ⟨hd, -, -, hgl⟩ := hg
  have ih' : ∀ x ∈ kids, JOk S x (d + 1) := fun x hx => ih x hx (d + 1) (Pl.goodL_mem hgl x hx)
  have gI := jdgI_ok hd hgl ih' nd w A h1 h2 h3 h4
  have gL := jdgL_ok hgl ih' nd w A (by omega) h2 h3 h4
  rw [jdg] at h ⊢
  split at h
  · rename_i hk
    rw [if_pos hk]
    exact ⟨oneW_zero h, oneR_len hS m⟩
  · rename_i hk
    rw [if_neg hk]
    split at h
    · rename_i hk2
      rw [if_pos hk2]
      split at h
      · rename_i hm
        rw [if_pos hm]
        exact ⟨unlessF_zero h, by simp⟩
      · rename_i hm
        rw [if_neg hm]
        have := oneW_zero h
        exact ⟨this, oneR_len (h4 this) _⟩
    · rename_i hk2
      rw [if_neg hk2]
      have hK : LOk (if k == 10 then jdgI S kids nd w A else jdgL S kids nd w A) w := by split <;> assumption
      simp only at h ⊢
      generalize (if k == 10 then jdgI S kids nd w A else jdgL S kids nd w A) = r at h hK ⊢
      split at h
      · rename_i hr
        simp only at h
        simp [h] at hr
      · rename_i hr
        rw [if_neg hr]
        simp only at h ⊢
        have hr0 : r.2.1 = 0 := by simpa using hr
        exact ⟨(hK hr0).1, (finJ_zero h).2⟩
theorem jdgK_ok {S : List (List Int)} (hS : ∀ s ∈ S, s.length ≤ 8) {k : Int} {kids : List Pl} {d : Nat} (hd : d ≤ 16) (hgl : Pl.goodL kids (d + 1)) {nd : Nat} {w : Int} {A : List (List Int)} (h1 : nd < d) (h2 : nd ≤ A.length) (h3 : A.length ≤ 16) (h4 : Sh A nd w) : LOk (jdgK S k kids nd w A) w := by
  have ih' : ∀ x ∈ kids, JOk S x (d + 1) := fun x hx => jdg_ok hS x (d + 1) (Pl.goodL_mem hgl x hx)
  unfold jdgK
  split
  · exact jdgI_ok hd hgl ih' nd w A h1 h2 h3 h4
  · exact jdgL_ok hgl ih' nd w A (by omega) h2 h3 h4
end Go.Proofs
end
section
set_option linter.unusedVariables false
set_option linter.unusedSimpArgs false
namespace Go.Proofs
open Go.Flat
theorem exL_nil (r : Bool × Bool) : exL [] r = r := rfl
theorem exL_cons (e : E) (ex : List E) (r : Bool × Bool) : exL (e :: ex) r = exL ex (exF r e) := rfl
theorem exL_long : ∀ (ex : List E) (r : Bool × Bool), r.2 = true → (exL ex r).2 = true
  | [], r, h => h
  | e :: ex, r, h => exL_long ex _ (by simp [exF, h])
theorem exL_ok : ∀ (ex : List E) (r : Bool × Bool), (exL ex r).1 = true → (exL ex r).2 = false → r.1 = true ∧ r.2 = false ∧ ∀ e ∈ ex, checkE e ≠ 4 ∧ checkE e ≠ 2
  | [], r, h1, h2 => ⟨h1, h2, by simp⟩
  | e :: ex, r, h1, h2 => by
    obtain ⟨g1, g2, g3⟩ := exL_ok ex (exF r e) h1 h2
    simp only [exF, Bool.and_eq_true, Bool.or_eq_false_iff, bne_iff_ne, ne_eq, beq_eq_false_iff_ne] at g1 g2
    refine ⟨g1.1, g2.1, fun x hx => ?_⟩
    rcases List.mem_cons.1 hx with rfl | hx
    · exact ⟨g1.2, g2.2⟩
    · exact g3 x hx
theorem checkE_vals (e : E) : checkE e = 0 ∨ checkE e = 2 ∨ checkE e = 4 := by
  unfold checkE
  simp only
  split
  · simp
  · split
    · simp
    · split <;> simp
def PMono (s t : PSrv) : Prop := (s.2.2.2.1 = true → t.2.2.2.1 = true) ∧ (s.2.2.2.2 = true → t.2.2.2.2 = true) ∧ s.2.1 ≤ t.2.1
theorem PMono.rfl' (s : PSrv) : PMono s s := ⟨id, id, Int.le_refl _⟩
theorem PMono.trans {s t u : PSrv} (h1 : PMono s t) (h2 : PMono t u) : PMono s u := ⟨fun h => h2.1 (h1.1 h), fun h => h2.2.1 (h1.2.1 h), Int.le_trans h1.2.2 h2.2.2⟩
theorem plookL_mono {l : List Pl} (ih : ∀ x ∈ l, ∀ d lo s, PMono s (plook x d lo s)) : ∀ k i d lo s, PMono s (plookL l k i d lo s) := by
  induction l with
  | nil => intro k i d lo s; rw [plookL]; exact .rfl' s
  | cons x l ihl =>
    intro k i d lo s
    rw [plookL]
    exact (ih x (by simp) _ _ s).trans (ihl (fun y hy => ih y (by simp [hy])) _ _ _ _ _)
theorem plook_step (k m : Int) (kids : List Pl) (ex : List E) (cols wth : List Int) (agg rds d lo : Int) (s : PSrv) : PMono s (IntKind.i64.wrap (s.1 + 1), (if d > s.2.1 then d else s.2.1), (if lo > s.2.2.1 then lo else s.2.2.1), s.2.2.2.1 || !(exL ex (formedP k m kids.length ex cols wth agg rds, s.2.2.2.2)).1, (exL ex (formedP k m kids.length ex cols wth agg rds, s.2.2.2.2)).2) := by
  refine ⟨fun h => by simp [h], fun h => exL_long _ _ h, ?_⟩
  simp only
  split <;> omega
theorem plook_mono : ∀ (p : Pl) (d lo : Int) (s : PSrv), PMono s (plook p d lo s) := by
  refine Pl.ind fun k m kids ex cols wth agg rds ih d lo s => ?_
  rw [plook]
  have h := plook_step k m kids ex cols wth agg rds d lo s
  split
  · exact h
  · exact h.trans (plookL_mono ih _ _ _ _ _)
def PFine (s : PSrv) : Prop := s.2.2.2.1 = false ∧ s.2.2.2.2 = false ∧ s.2.1 ≤ 16
theorem PFine.back {s t : PSrv} (h : PMono s t) (g : PFine t) : PFine s := by
  refine ⟨?_, ?_, Int.le_trans h.2.2 g.2.2⟩
  · cases hq : s.2.2.2.1 with
    | false => rfl
    | true => exact absurd (h.1 hq) (by rw [g.1]; simp)
  · cases hq : s.2.2.2.2 with
    | false => rfl
    | true => exact absurd (h.2.1 hq) (by rw [g.2.1]; simp)
theorem wrap_d {d : Nat} (h : d ≤ 16) : IntKind.i64.wrap ((d : Int) + 1) = ((d + 1 : Nat) : Int) := by
  rw [wrap_succ (by simp only [Flat.lim]; omega)]
  simp
theorem plookL_good {l : List Pl} {d : Nat} (hd : d ≤ 16) (ih : ∀ x ∈ l, ∀ (d : Nat) lo s, PFine (plook x d lo s) → x.good d) : ∀ k i lo s, PFine (plookL l k i d lo s) → Pl.goodL l (d + 1) := by
  induction l with
  | nil => intro k i lo s _; simp [Pl.goodL]
  | cons x l ihl =>
    intro k i lo s h
    rw [plookL, wrap_d hd] at h
    rw [Pl.goodL]
    exact ⟨ih x (by simp) (d + 1) _ s (PFine.back (plookL_mono (fun y _ => plook_mono y) _ _ _ _ _) h), ihl (fun y hy => ih y (by simp [hy])) _ _ _ _ h⟩
theorem plook_good : ∀ (p : Pl) (d : Nat) (lo : Int) (s : PSrv), PFine (plook p d lo s) → p.good d := by
  refine Pl.ind fun k m kids ex cols wth agg rds ih d lo s h => ?_
  rw [plook] at h
  rw [Pl.good]
  split at h
  · rename_i hc
    obtain ⟨h1, h2, h3⟩ := h
    simp only [Bool.or_eq_false_iff, Bool.not_eq_false'] at h1
    simp only [Bool.or_eq_true, Bool.not_eq_true', decide_eq_true_eq] at hc
    rcases hc with hc | hc
    · rw [h1.2] at hc; simp at hc
    · simp only at h3
      split at h3 <;> omega
  · rename_i hc
    simp only [Bool.or_eq_true, Bool.not_eq_true', decide_eq_true_eq, not_or, Bool.not_eq_false] at hc
    have hd : d ≤ 16 := by omega
    have hb := PFine.back (plookL_mono (fun y _ => plook_mono y) _ _ _ _ _) h
    obtain ⟨g1, g2, g3⟩ := exL_ok _ _ hc.1 hb.2.1
    refine ⟨hd, g1, fun e he => ?_, plookL_good hd ih _ _ _ _ h⟩
    obtain ⟨q1, q2⟩ := g3 e he
    rcases checkE_vals e with h | h | h
    · exact h
    · exact absurd h q2
    · exact absurd h q1
theorem checkP_fine {p : Pl} (h : checkP p = 0) : PFine (surveyP p) := by
  unfold checkP at h
  simp only at h
  split at h
  · simp at h
  · rename_i h1
    split at h
    · simp at h
    · rename_i h2
      split at h
      · simp at h
      · split at h
        · simp at h
        · rename_i h3
          simp only [decide_eq_true_eq] at h3
          exact ⟨by simpa using h1, by simpa using h2, by omega⟩
theorem checkP_good {p : Pl} (h : checkP p = 0) : p.good 1 := plook_good p 1 0 _ (checkP_fine h)
theorem checkSch_ok {ss : List (List Int)} (h : checkSch ss = 0) : ss.length ≤ 8 ∧ ∀ s ∈ ss, s.length ≤ 8 := by
  unfold checkSch at h
  split at h
  · simp at h
  · rename_i hc
    simp only [Bool.or_eq_true, decide_eq_true_eq, List.any_eq_true, not_or, not_exists, not_and] at hc
    refine ⟨by omega, fun s hs => ?_⟩
    have := hc.2 s hs
    simp only [badS, Bool.or_eq_true, decide_eq_true_eq, not_or] at this
    omega
/-- A plan's schema, or why it has none. -/
def inferP (ss : List (List Int)) (p : Pl) : List Int × Int :=
  if checkSch ss != 0 then ([], checkSch ss) else if checkP p != 0 then ([], checkP p)
  else if (jdg ss p 0 0 []).2.1 != 0 then ([], (jdg ss p 0 0 []).2.1) else ((jdg ss p 0 0 []).1, 0)
end Go.Proofs
end
section
set_option linter.unusedVariables false
set_option linter.unusedSimpArgs false
namespace Go.Proofs
open Go.Flat
mutual
def Pl.size : Pl → Nat
  | .mk _ _ kids _ _ _ _ _ => 1 + Pl.sizeL kids
def Pl.sizeL : List Pl → Nat
  | [] => 0
  | x :: r => x.size + Pl.sizeL r
end
mutual
def Pl.hgt : Pl → Nat
  | .mk _ _ kids _ _ _ _ _ => 1 + Pl.hgtL kids
def Pl.hgtL : List Pl → Nat
  | [] => 0
  | x :: r => max x.hgt (Pl.hgtL r)
end
def morN (k : Int) (i : Nat) : Nat := if k == 10 && i == 1 then 1 else 0
theorem morP_N (k : Int) (i : Nat) : morP k i = (morN k i : Int) := by
  unfold morP morN
  have : ((i : Int) == 1) = (i == 1) := by
    rw [Bool.eq_iff_iff]; simp; omega
  rw [this]
  split <;> rfl
mutual
def Pl.lp : Pl → Nat
  | .mk k _ kids _ _ _ _ _ => Pl.lpL k 0 kids
def Pl.lpL (k : Int) (i : Nat) : List Pl → Nat
  | [] => 0
  | x :: r => max (morN k i + x.lp) (Pl.lpL k (i + 1) r)
end
mutual
/-- Right but for its depth. -/
def Pl.gd : Pl → Prop
  | .mk k m kids ex cols wth agg rds => formedP k m kids.length ex cols wth agg rds = true ∧ (∀ e ∈ ex, checkE e = 0) ∧ Pl.gdL kids
def Pl.gdL : List Pl → Prop
  | [] => True
  | x :: r => x.gd ∧ Pl.gdL r
end
theorem Pl.gdL_mem : ∀ {l : List Pl}, Pl.gdL l → ∀ x ∈ l, x.gd
  | [], _, x, h => by simp at h
  | e :: r, h, x, hx => by
    simp only [Pl.gdL] at h
    rcases List.mem_cons.1 hx with rfl | hx
    · exact h.1
    · exact Pl.gdL_mem h.2 x hx
theorem Pl.gdL_of : ∀ {l : List Pl}, (∀ x ∈ l, x.gd) → Pl.gdL l
  | [], _ => by simp [Pl.gdL]
  | e :: r, h => by
    rw [Pl.gdL]
    exact ⟨h e (by simp), Pl.gdL_of fun x hx => h x (by simp [hx])⟩
theorem Pl.good_gd : ∀ (p : Pl) (d : Nat), p.good d → p.gd ∧ d + p.hgt ≤ 17 := by
  refine Pl.ind fun k m kids ex cols wth agg rds ih d h => ?_
  rw [Pl.good] at h
  obtain ⟨h1, h2, h3, h4⟩ := h
  have hk : ∀ x ∈ kids, x.gd ∧ (d + 1) + x.hgt ≤ 17 := fun x hx => ih x hx (d + 1) (Pl.goodL_mem h4 x hx)
  rw [Pl.gd, Pl.hgt]
  refine ⟨⟨h2, h3, Pl.gdL_of fun x hx => (hk x hx).1⟩, ?_⟩
  have : Pl.hgtL kids ≤ 16 - d := by
    clear ih h4 h2 h3
    induction kids with
    | nil => simp [Pl.hgtL]
    | cons x r ihr =>
      rw [Pl.hgtL]
      have hx := (hk x (by simp)).2
      have := ihr fun y hy => hk y (by simp [hy])
      omega
  omega
theorem exL_good : ∀ (ex : List E) (r : Bool × Bool), (∀ e ∈ ex, checkE e = 0) → exL ex r = r
  | [], r, _ => rfl
  | e :: ex, r, h => by
    have h0 := h e (by simp)
    rw [exL_cons, exL_good ex _ fun x hx => h x (by simp [hx])]
    simp [exF, h0]
def sv (c D L : Nat) (W G : Bool) : PSrv := ((c : Int), (D : Int), (L : Int), W, G)
theorem imax (d D : Nat) : (if (d : Int) > (D : Int) then (d : Int) else (D : Int)) = ((max D d : Nat) : Int) := by
  split <;> omega
def Exact (p : Pl) : Prop := ∀ (d lo c D L : Nat) (W G : Bool), p.gd → d + p.hgt ≤ 17 → c + p.size ≤ 2 ^ 40 → lo + p.hgt ≤ 64 →
  plook p d lo (sv c D L W G) = sv (c + p.size) (max D (d + p.hgt - 1)) (max L (lo + p.lp)) W G
theorem wrapn {n : Nat} (h : n ≤ 2 ^ 41) : IntKind.i64.wrap ((n : Int) + 1) = ((n + 1 : Nat) : Int) := by
  rw [wrap_succ (by simp only [Flat.lim]; omega)]
  simp
theorem plookL_exact {l : List Pl} (ih : ∀ x ∈ l, Exact x) (hg : Pl.gdL l) (k : Int) : ∀ (i d lo c D L : Nat) (W G : Bool), d ≤ D → lo ≤ L → d + 1 + Pl.hgtL l ≤ 17 → c + Pl.sizeL l ≤ 2 ^ 40 → lo + 1 + Pl.hgtL l ≤ 64 →
    plookL l k i d lo (sv c D L W G) = sv (c + Pl.sizeL l) (max D (d + Pl.hgtL l)) (max L (lo + Pl.lpL k i l)) W G := by
  induction l with
  | nil =>
    intro i d lo c D L W G h1 h2 _ _ _
    rw [plookL, Pl.sizeL, Pl.hgtL, Pl.lpL]
    have e1 : max D (d + 0) = D := by omega
    have e2 : max L (lo + 0) = L := by omega
    rw [e1, e2]
    rfl
  | cons x r ihr =>
    intro i d lo c D L W G h1 h2 h3 h4 h5
    rw [Pl.gdL] at hg
    rw [Pl.hgtL] at h3 h5
    rw [Pl.sizeL] at h4
    have hm : morN k i ≤ 1 := by unfold morN; split <;> omega
    have hw : IntKind.i64.wrap ((lo : Int) + morP k i) = ((lo + morN k i : Nat) : Int) := by
      rw [morP_N]
      have := Flat.wrap_small (n := lo + morN k i) (by simp only [Flat.lim]; omega)
      simpa using this
    have hi : ((i : Int) + 1) = ((i + 1 : Nat) : Int) := by simp
    have hh : 1 ≤ x.hgt := by cases x; rw [Pl.hgt]; omega
    rw [plookL, wrapn (by omega), hw, ih x (by simp) (d + 1) (lo + morN k i) c D L W G hg.1 (by omega) (by omega) (by omega), hi,
      ihr (fun y hy => ih y (by simp [hy])) hg.2 (i + 1) d lo (c + x.size) _ _ W G (by omega) (by omega) (by omega) (by omega) (by omega)]
    rw [Pl.sizeL, Pl.hgtL, Pl.lpL]
    have e1 : max (max D (d + 1 + x.hgt - 1)) (d + Pl.hgtL r) = max D (d + max x.hgt (Pl.hgtL r)) := by omega
    have e2 : max (max L (lo + morN k i + x.lp)) (lo + Pl.lpL k (i + 1) r) = max L (lo + max (morN k i + x.lp) (Pl.lpL k (i + 1) r)) := by omega
    rw [e1, e2, Nat.add_assoc]
theorem plook_exact : ∀ p : Pl, Exact p := by
  refine Pl.ind fun k m kids ex cols wth agg rds ih d lo c D L W G hg h1 h2 h3 => ?_
  rw [Pl.gd] at hg
  obtain ⟨hf, hex, hgl⟩ := hg
  rw [Pl.hgt] at h1 h3
  rw [Pl.size] at h2
  rw [plook, hf]
  show (if (!(exL ex (true, G)).1 || decide ((d : Int) > 16)) = true then _ else plookL kids k 0 d lo (IntKind.i64.wrap ((c : Int) + 1), (if (d : Int) > (D : Int) then (d : Int) else (D : Int)), (if (lo : Int) > (L : Int) then (lo : Int) else (L : Int)), W || !(exL ex (true, G)).1, (exL ex (true, G)).2)) = _
  rw [exL_good ex _ hex, imax, imax]
  simp only [sv, Bool.not_true, Bool.or_false, Bool.false_or]
  have hd : ¬ (decide ((d : Int) > 16) = true) := by simp; omega
  rw [if_neg hd, wrapn (by omega)]
  have := plookL_exact ih hgl k 0 d lo (c + 1) (max D d) (max L lo) W G (by omega) (by omega) (by omega) (by omega) (by omega)
  simp only [sv] at this
  have e0 : ((0 : Nat) : Int) = 0 := rfl
  rw [e0] at this
  rw [this, Pl.size, Pl.hgt, Pl.lp]
  have e1 : max (max D d) (d + Pl.hgtL kids) = max D (d + (1 + Pl.hgtL kids) - 1) := by omega
  have e2 : max (max L lo) (lo + Pl.lpL k 0 kids) = max L (lo + Pl.lpL k 0 kids) := by omega
  have e3 : c + 1 + Pl.sizeL kids = c + (1 + Pl.sizeL kids) := by omega
  rw [e1, e2, e3]
/-- What a check asks. -/
def Pl.fits (p : Pl) : Prop := p.gd ∧ p.size ≤ 64 ∧ p.hgt ≤ 16 ∧ p.lp ≤ 2
theorem surveyP_exact {p : Pl} (hg : p.gd) (h : p.hgt ≤ 16) (hs : p.size ≤ 2 ^ 40) : surveyP p = sv p.size p.hgt p.lp false false := by
  have := plook_exact p 1 0 0 0 0 false false hg (by omega) (by omega) (by omega)
  have hh : max 0 (1 + p.hgt - 1) = p.hgt := by omega
  have hl : max 0 (0 + p.lp) = p.lp := by omega
  rw [hh, hl, Nat.zero_add] at this
  exact this
theorem checkP_of {p : Pl} {c D L : Nat} {W G : Bool} (h : surveyP p = sv c D L W G) : checkP p = if W then 4 else if G then 2 else if 64 < c then 2 else if 16 < D then 2 else if 2 < L then 2 else 0 := by
  unfold checkP
  rw [h]
  show (if W = true then (4 : Int) else if G = true then 2 else if decide ((64 : Int) < (c : Int)) = true then 2 else if decide ((16 : Int) < (D : Int)) = true then 2 else if decide ((2 : Int) < (L : Int)) = true then 2 else 0) = _
  simp only [decide_eq_true_eq]
  have e1 : ((64 : Int) < (c : Int)) = (64 < c) := by rw [eq_iff_iff]; omega
  have e2 : ((16 : Int) < (D : Int)) = (16 < D) := by rw [eq_iff_iff]; omega
  have e3 : ((2 : Int) < (L : Int)) = (2 < L) := by rw [eq_iff_iff]; omega
  simp only [e1, e2, e3]
theorem checkP_iff {p : Pl} (hs : p.size ≤ 2 ^ 40) : checkP p = 0 ↔ p.fits := by
  constructor
  · intro h
    obtain ⟨hg, hh⟩ := Pl.good_gd p 1 (checkP_good h)
    have he := surveyP_exact hg (by omega) hs
    rw [checkP_of he] at h
    simp only [Bool.false_eq_true, if_false] at h
    split at h
    · simp at h
    · split at h
      · simp at h
      · split at h
        · simp at h
        · exact ⟨hg, by omega, by omega, by omega⟩
  · rintro ⟨hg, h1, h2, h3⟩
    have he := surveyP_exact hg h2 hs
    rw [checkP_of he]
    simp only [Bool.false_eq_true, if_false]
    rw [if_neg (by omega), if_neg (by omega), if_neg (by omega)]
theorem loopsP_fits {p : Pl} (hs : p.size ≤ 2 ^ 40) (h : p.fits) : loopsP p = p.lp := by
  unfold loopsP
  rw [(checkP_iff hs).2 h, surveyP_exact h.1 h.2.2.1 hs]
  simp [sv]
theorem Pl.sizeL_mem : ∀ {l : List Pl} {x : Pl}, x ∈ l → x.size ≤ Pl.sizeL l
  | e :: r, x, h => by
    rw [Pl.sizeL]
    rcases List.mem_cons.1 h with rfl | h
    · omega
    · have := Pl.sizeL_mem h; omega
theorem Pl.hgtL_mem : ∀ {l : List Pl} {x : Pl}, x ∈ l → x.hgt ≤ Pl.hgtL l
  | e :: r, x, h => by
    rw [Pl.hgtL]
    rcases List.mem_cons.1 h with rfl | h
    · omega
    · have := Pl.hgtL_mem h; omega
theorem Pl.lpL_mem : ∀ {l : List Pl} {x : Pl} (k : Int) (i : Nat), x ∈ l → x.lp ≤ Pl.lpL k i l
  | e :: r, x, k, i, h => by
    rw [Pl.lpL]
    rcases List.mem_cons.1 h with rfl | h
    · omega
    · have := Pl.lpL_mem k (i + 1) h; omega
theorem Pl.fits_kid {k m : Int} {kids : List Pl} {ex : List E} {cols wth : List Int} {agg rds : Int} (h : (Pl.mk k m kids ex cols wth agg rds).fits) {x : Pl} (hx : x ∈ kids) : x.fits := by
  obtain ⟨h1, h2, h3, h4⟩ := h
  rw [Pl.gd] at h1
  rw [Pl.size] at h2
  rw [Pl.hgt] at h3
  rw [Pl.lp] at h4
  have a := Pl.sizeL_mem hx
  have b := Pl.hgtL_mem hx
  have c := Pl.lpL_mem k 0 hx
  exact ⟨Pl.gdL_mem h1.2.2 x hx, by omega, by omega, by omega⟩
end Go.Proofs
end
section
set_option linter.unusedVariables false
set_option linter.unusedSimpArgs false
namespace Go.Proofs
open Go.Flat
def Stk (A A' : List (List Int)) (nd : Nat) : Prop := A.length ≤ A'.length ∧ A'.take nd = A.take nd
theorem Stk.rfl' (A : List (List Int)) (nd : Nat) : Stk A A nd := ⟨Nat.le_refl _, rfl⟩
theorem Stk.trans {A B D : List (List Int)} {nd : Nat} (h1 : Stk A B nd) (h2 : Stk B D nd) : Stk A D nd := ⟨Nat.le_trans h1.1 h2.1, h2.2.trans h1.2⟩
theorem jdgL_stk {S : List (List Int)} {l : List Pl} (ih : ∀ x ∈ l, ∀ nd w A, nd ≤ A.length → Stk A (jdg S x nd w A).2.2 nd) : ∀ nd w A, nd ≤ A.length → Stk A (jdgL S l nd w A).2.2 nd := by
  induction l with
  | nil => intro nd w A _; simp only [jdgL]; exact .rfl' A nd
  | cons x l ihl =>
    intro nd w A h2
    simp only [jdgL]
    have g := ih x (by simp) nd w A h2
    exact g.trans (ihl (fun y hy => ih y (by simp [hy])) nd _ _ (Nat.le_trans h2 g.1))
theorem jdgI_stk {S : List (List Int)} {l : List Pl} (ih : ∀ x ∈ l, ∀ nd w A, nd ≤ A.length → Stk A (jdg S x nd w A).2.2 nd) : ∀ nd w A, nd ≤ A.length → Stk A (jdgI S l nd w A).2.2 nd := by
  intro nd w A h2
  cases l with
  | nil => simp only [jdgI]; exact .rfl' A nd
  | cons x l =>
    simp only [jdgI]
    have g := ih x (by simp) nd w A h2
    have h4 := Nat.le_trans h2 g.1
    have hp := pushA_len (jdg S x nd w A).1 h4
    have g2 := jdgL_stk (S := S) (l := l) (fun y hy => ih y (by simp [hy])) (nd + 1) (jdg S x nd w A).2.1 (pushA (jdg S x nd w A).2.2 nd (jdg S x nd w A).1) (by rw [hp]; omega)
    refine ⟨Nat.le_trans g.1 (Nat.le_trans (by rw [hp]; omega) g2.1), ?_⟩
    have := congrArg (List.take nd) g2.2
    rw [List.take_take, List.take_take, Nat.min_eq_left (by omega), pushA_take _ h4, g.2] at this
    exact this
theorem jdg_stk (S : List (List Int)) : ∀ (p : Pl), ∀ nd w A, nd ≤ A.length → Stk A (jdg S p nd w A).2.2 nd := by
  refine Pl.ind fun k m kids ex cols wth agg rds ih nd w A h2 => ?_
  have gI := jdgI_stk ih nd w A h2
  have gL := jdgL_stk ih nd w A h2
  rw [jdg]
  split
  · exact .rfl' A nd
  · split
    · split <;> exact .rfl' A nd
    · simp only
      split <;> split <;> first | exact gI | exact gL
/-- Two judgements are alike, but for the stack. -/
def Alike {α : Type} (r t : α × JR) : Prop := r.1 = t.1 ∧ r.2.1 = t.2.1
def Indep (S : List (List Int)) (x : Pl) : Prop := ∀ nd w A B, nd ≤ A.length → nd ≤ B.length → A.take nd = B.take nd → Alike (jdg S x nd w A) (jdg S x nd w B)
theorem jdgL_indep {S : List (List Int)} {l : List Pl} (ih : ∀ x ∈ l, Indep S x) : ∀ nd w A B, nd ≤ A.length → nd ≤ B.length → A.take nd = B.take nd → Alike (jdgL S l nd w A) (jdgL S l nd w B) := by
  induction l with
  | nil => intro nd w A B _ _ _; simp only [jdgL]; exact ⟨rfl, rfl⟩
  | cons x l ihl =>
    intro nd w A B h1 h2 h3
    simp only [jdgL]
    have g1 := jdg_stk S x nd w A h1
    have g2 := jdg_stk S x nd w B h2
    obtain ⟨e1, e2⟩ := ih x (by simp) nd w A B h1 h2 h3
    obtain ⟨f1, f2⟩ := ihl (fun y hy => ih y (by simp [hy])) nd (jdg S x nd w B).2.1 (jdg S x nd w A).2.2 (jdg S x nd w B).2.2 (Nat.le_trans h1 g1.1) (Nat.le_trans h2 g2.1) (by rw [g1.2, g2.2, h3])
    rw [e1, e2]
    exact ⟨by simp only; rw [f1], f2⟩
theorem jdgI_indep {S : List (List Int)} {l : List Pl} (ih : ∀ x ∈ l, Indep S x) : ∀ nd w A B, nd ≤ A.length → nd ≤ B.length → A.take nd = B.take nd → Alike (jdgI S l nd w A) (jdgI S l nd w B) := by
  intro nd w A B h1 h2 h3
  cases l with
  | nil => simp only [jdgI]; exact ⟨rfl, rfl⟩
  | cons x l =>
    simp only [jdgI]
    have g1 := jdg_stk S x nd w A h1
    have g2 := jdg_stk S x nd w B h2
    obtain ⟨e1, e2⟩ := ih x (by simp) nd w A B h1 h2 h3
    have k1 := Nat.le_trans h1 g1.1
    have k2 := Nat.le_trans h2 g2.1
    obtain ⟨f1, f2⟩ := jdgL_indep (S := S) (l := l) (fun y hy => ih y (by simp [hy])) (nd + 1) (jdg S x nd w B).2.1 (pushA (jdg S x nd w A).2.2 nd (jdg S x nd w B).1) (pushA (jdg S x nd w B).2.2 nd (jdg S x nd w B).1) (by rw [pushA_len _ k1]; omega) (by rw [pushA_len _ k2]; omega) (by rw [pushA_take1 _ k1, pushA_take1 _ k2, g1.2, g2.2, h3])
    rw [e1, e2]
    exact ⟨by simp only; rw [f1], f2⟩
theorem jdg_indep (S : List (List Int)) : ∀ x, Indep S x := by
  refine Pl.ind fun k m kids ex cols wth agg rds ih nd w A B h1 h2 h3 => ?_
  obtain ⟨i1, i2⟩ := jdgI_indep ih nd w A B h1 h2 h3
  obtain ⟨l1, l2⟩ := jdgL_indep ih nd w A B h1 h2 h3
  rw [jdg, jdg]
  split
  · exact ⟨rfl, rfl⟩
  · split
    · split
      · exact ⟨rfl, rfl⟩
      · exact ⟨by simp only; rw [h3], by simp only; rw [h3]⟩
    · simp only
      split
      · rw [i2, i1]
        split <;> exact ⟨rfl, rfl⟩
      · rw [l2, l1]
        split <;> exact ⟨rfl, rfl⟩
theorem unlessF_stick {w y : Int} {b : Bool} (h : w ≠ 0) : unlessF w b y = w := by simp [unlessF, h]
theorem jdgL_stick {S : List (List Int)} {l : List Pl} (ih : ∀ x ∈ l, ∀ nd w A, w ≠ 0 → (jdg S x nd w A).2.1 = w) : ∀ nd w A, w ≠ 0 → (jdgL S l nd w A).2.1 = w := by
  induction l with
  | nil => intro nd w A _; simp only [jdgL]
  | cons x l ihl =>
    intro nd w A h
    simp only [jdgL]
    have := ih x (by simp) nd w A h
    rw [this]
    exact ihl (fun y hy => ih y (by simp [hy])) nd w _ h
theorem jdg_stick (S : List (List Int)) : ∀ (p : Pl), ∀ nd w A, w ≠ 0 → (jdg S p nd w A).2.1 = w := by
  refine Pl.ind fun k m kids ex cols wth agg rds ih nd w A h => ?_
  have gL := jdgL_stick ih nd w A h
  have gI : (jdgI S kids nd w A).2.1 = w := by
    cases kids with
    | nil => simp only [jdgI]
    | cons x l =>
      simp only [jdgI]
      rw [ih x (by simp) nd w A h]
      exact jdgL_stick (fun y hy => ih y (by simp [hy])) (nd + 1) w _ h
  have hne : (w != 0) = true := by simpa using h
  have one : ∀ l i, oneW l i w = w := fun l i => by unfold oneW; split <;> simp [unlessF_stick h]
  rw [jdg]
  split
  · exact one _ _
  · split
    · split
      · exact unlessF_stick h
      · exact one _ _
    · simp only
      split
      · rw [gI, hne]; rfl
      · rw [gL, hne]; rfl
theorem jdg_zero {S : List (List Int)} {p : Pl} {nd : Nat} {w : Int} {A : List (List Int)} (h : (jdg S p nd w A).2.1 = 0) : w = 0 := by
  by_cases hw : w = 0
  · exact hw
  · rw [jdg_stick S p nd w A hw] at h; exact h
theorem jdgL_zero {S : List (List Int)} {l : List Pl} {nd : Nat} {w : Int} {A : List (List Int)} (h : (jdgL S l nd w A).2.1 = 0) : w = 0 := by
  by_cases hw : w = 0
  · exact hw
  · rw [jdgL_stick (fun x _ => jdg_stick S x) nd w A hw] at h; exact h
/-- With more sources behind. -/
theorem oneR_more {S T : List (List Int)} {i : Int} (h : offI i S = false) : offI i (S ++ T) = false ∧ (S ++ T).getD i.toNat [] = S.getD i.toNat [] := by
  simp only [offI, Bool.or_eq_false_iff, decide_eq_false_iff_not, List.length_append] at h ⊢
  refine ⟨⟨h.1, by omega⟩, ?_⟩
  rw [List.getD_eq_getElem?_getD, List.getD_eq_getElem?_getD, List.getElem?_append_left (by omega)]
theorem jdgL_more {S T : List (List Int)} {l : List Pl} (ih : ∀ x ∈ l, ∀ nd w A, (jdg S x nd w A).2.1 = 0 → jdg (S ++ T) x nd w A = jdg S x nd w A) : ∀ nd w A, (jdgL S l nd w A).2.1 = 0 → jdgL (S ++ T) l nd w A = jdgL S l nd w A := by
  induction l with
  | nil => intro nd w A _; simp only [jdgL]
  | cons x l ihl =>
    intro nd w A h
    simp only [jdgL] at h ⊢
    have e := ih x (by simp) nd w A (jdgL_zero h)
    rw [e, ihl (fun y hy => ih y (by simp [hy])) nd _ _ h]
theorem jdgI_more {S T : List (List Int)} {l : List Pl} (ih : ∀ x ∈ l, ∀ nd w A, (jdg S x nd w A).2.1 = 0 → jdg (S ++ T) x nd w A = jdg S x nd w A) : ∀ nd w A, (jdgI S l nd w A).2.1 = 0 → jdgI (S ++ T) l nd w A = jdgI S l nd w A := by
  intro nd w A h
  cases l with
  | nil => simp only [jdgI]
  | cons x l =>
    simp only [jdgI] at h ⊢
    have e := ih x (by simp) nd w A (jdgL_zero h)
    rw [e, jdgL_more (fun y hy => ih y (by simp [hy])) (nd + 1) _ _ h]
theorem jdg_more (S T : List (List Int)) : ∀ (p : Pl), ∀ nd w A, (jdg S p nd w A).2.1 = 0 → jdg (S ++ T) p nd w A = jdg S p nd w A := by
  refine Pl.ind fun k m kids ex cols wth agg rds ih nd w A h => ?_
  rw [jdg] at h
  rw [jdg, jdg]
  split
  · rename_i hk
    rw [if_pos hk] at h
    have hw := oneW_zero h
    subst hw
    cases ho : offI m S with
    | true => simp [oneW, ho, unlessF] at h
    | false =>
      obtain ⟨h1, h2⟩ := oneR_more (T := T) ho
      simp only [oneR, oneW, ho, h1, h2]
  · rename_i hk
    rw [if_neg hk] at h
    split
    · rfl
    · rename_i hk2
      rw [if_neg hk2] at h
      simp only at h ⊢
      split at h
      · rename_i hk3
        rw [if_pos hk3, if_pos hk3]
        split at h
        · rename_i hr
          simp only at h
          simp [h] at hr
        · rename_i hr
          rw [jdgI_more ih nd w A (by simpa using hr)]
      · rename_i hk3
        rw [if_neg hk3, if_neg hk3]
        split at h
        · rename_i hr
          simp only at h
          simp [h] at hr
        · rename_i hr
          rw [jdgL_more ih nd w A (by simpa using hr)]
theorem jdgL_each {S : List (List Int)} : ∀ {l : List Pl} {w : Int} {A : List (List Int)}, (jdgL S l 0 w A).2.1 = 0 → ∀ x ∈ l, (jdg S x 0 0 []).2.1 = 0
  | y :: l, w, A, h, x, hx => by
    simp only [jdgL] at h
    have h1 := jdgL_zero h
    have h0 := jdg_zero h1
    subst h0
    rcases List.mem_cons.1 hx with rfl | hx
    · rw [← (jdg_indep S x 0 0 A [] (by simp) (by simp) (by simp)).2]
      exact h1
    · exact jdgL_each h x hx
theorem jdg_kids {S : List (List Int)} {k m : Int} {kids : List Pl} {ex : List E} {cols wth : List Int} {agg rds : Int} (hk : (k == 1) = false ∧ (k == 2) = false) (h : (jdg S (.mk k m kids ex cols wth agg rds) 0 0 []).2.1 = 0) : (jdgK S k kids 0 0 []).2.1 = 0 := by
  rw [jdg] at h
  simp only [hk.1, hk.2, Bool.false_eq_true, if_false] at h
  change (if (jdgK S k kids 0 0 []).2.1 != 0 then (([], (jdgK S k kids 0 0 []).2.1, (jdgK S k kids 0 0 []).2.2) : List Int × JR) else _).2.1 = 0 at h
  split at h
  · rename_i hr
    simp only at h
    exact h
  · rename_i hr
    simpa using hr
end Go.Proofs
end
section
set_option linter.unusedVariables false
set_option linter.unusedSimpArgs false
namespace Go.Proofs
open Go.Flat
set_option maxRecDepth 100000
set_option linter.unusedSimpArgs false
set_option linter.unusedVariables false
attribute [local simp] Bool.and_assoc Bool.or_assoc evalG evalX efD skF guardG guardL isCall stepL evalOp ev evs lk tmpsL app AV.ok fresh vv putCells insV ins del putL place Go.Flat.look fillC fillR getCells loadF storeF binF scalarBin intBin strBin isShift shiftBin unF lenF maxF minF rowsF appendF builtinF idxF natOf sliceP sliceF optEv Flat.cut overwrite toPV toPVs constAV scalarC scalarCs AV.cells TI.isAgg allSome andAll scalarEq buildable Go.Flat.lim retQ resL resAll resOne PartOf noTmp closedIn refs refs.refsL isSomeV hasB ids leA leA.leL renA renA.renL callB refsAll backL dropIds renS LiesAt injB ownB freshB memN locId insAll leA_refl leL_refl okS frzS frzA frzA.frzL evalD feet fine updCells cellsFrom memP footRf footWf noTmpU updIds opOps opIds idsA footR footW guardTs opTs dstTs callR callW renLoc renC inBlockQ thenQ Value.oneCell' IntKind.bits IntKind.signed

attribute [local simp] Pl.av in
theorem spec110_l (S A : List (List Int)) (nd : Nat) (k m : Int) (kids : List Pl) (ex : List E) (cols wth : List Int) (agg rds : Int) (hk10 : (k == 10) = false) (hkb : kids.length ≤ Bnd) (hS : ∀ s ∈ S, s.length ≤ 8) (dd : Nat) (hgl : Pl.goodL kids dd) (hnd : nd < dd) (hnA : nd ≤ A.length) (hA : A.length ≤ 16) (w : Int) (hSh : Sh A nd w) (ih : ∀ x ∈ kids, ∀ (nd : Nat) (w : Int) (A : List (List Int)), nd < dd → nd ≤ A.length → A.length ≤ 16 → Sh A nd w → Flat.Sp Try.prog 59 [.ptr 0 0, x.av] [(.var 0, .n 3), (.cell 0 0, .av (vv (.int .i64 (w)))), (.cell 0 1, .av (.p (.ps (S.map srow)))), (.cell 0 2, .av (.sl 1 (A).length 0 (nd))), (.arr 1, .arr 45 1 ((A).map srow) 0)] (.p (.ps ((jdg S x nd w A).1.map trow))) [(.var 0, .n 3), (.cell 0 0, .av (vv (.int .i64 ((jdg S x nd w A).2.1)))), (.cell 0 1, .av (.p (.ps (S.map srow)))), (.cell 0 2, .av (.sl 1 ((jdg S x nd w A).2.2).length 0 (nd))), (.arr 1, .arr 45 1 (((jdg S x nd w A).2.2).map srow) 0)])  : Flat.Sp Try.prog 110 [.ptr 0 0, (Pl.mk k m kids ex cols wth agg rds).av] [(.var 0, .n 3), (.cell 0 0, .av (vv (.int .i64 (w)))), (.cell 0 1, .av (.p (.ps (S.map srow)))), (.cell 0 2, .av (.sl 1 (A).length 0 (nd))), (.arr 1, .arr 45 1 ((A).map srow) 0)] (.p (.ps ((jdgL S kids nd w A).1.map srow))) [(.var 0, .n 3), (.cell 0 0, .av (vv (.int .i64 ((jdgL S kids nd w A).2.1)))), (.cell 0 1, .av (.p (.ps (S.map srow)))), (.cell 0 2, .av (.sl 1 ((jdgL S kids nd w A).2.2).length 0 (nd))), (.arr 1, .arr 45 1 (((jdgL S kids nd w A).2.2).map srow) 0)] := by
  refine sk Try.func110 ?_
  intro F G hn hG
  have hkl := Bnd_lim hkb
  have hkb2 : kids.length ≤ 1048576 := hkb
  refine sq ?_
  refine rg 1000 ?_
  refine pr [0, 3, 4, 5, 6, 7, 8, 9, 10, 11, 12, 13, 14, 15, 16, 17, 18, 19, 20, 21, 22, 23, 24, 25, 26, 27, 28, 29, 30, 31, 32, 33, 34, 35, 36, 37, 38, 39, 40, 41, 42, 43, 44, 45, 46, 47, 48, 49, 50, 51, 52, 53, 54, 55, 56, 57, 58] ?_
  refine sq ?_
  refine sq ?_
  refine rg 2000 ?_
  refine pr [0, 3, 4, 5, 6, 8, 9, 10, 11, 12, 13, 14, 15, 16, 17, 18, 19, 20, 21, 22, 23, 24, 25, 26, 27, 28, 29, 30, 31, 32, 33, 34, 35, 36, 37, 38, 39, 40, 41, 42, 43, 44, 45, 46, 47, 48, 49, 50, 51, 52, 53, 54, 55, 56, 57, 58] ?_
  refine k_block ?_
  refine ow (.tmp 4) 900 45 1 ?_
  refine k_loop (fun n l => ∃ i, i + n = kids.length ∧ (True) ∧ l = [(.tmp 0, .av (.ptr 0 0)), (.tmp 3, .av (.ptr 1000 0)), (.tmp 4, .av (.sl 900 i 0 i)), (.tmp 8, .av (.p (.ps (kids.map Pl.row)))), (.tmp 9, .av (vv (.int .i64 kids.length))), (.tmp 10, .av (vv (.int .i64 i))), (.var 0, .n 3), (.cell 0 0, .av (vv (.int .i64 ((jdgL S (kids.take i) nd w A).2.1)))), (.cell 0 1, .av (.p (.ps (S.map srow)))), (.cell 0 2, .av (.sl 1 ((jdgL S (kids.take i) nd w A).2.2).length 0 (nd))), (.arr 1, .arr 45 1 (((jdgL S (kids.take i) nd w A).2.2).map srow) 0), (.var 1000, .n 8), (.cell 1000 0, .av (vv (.int .u8 k))), (.cell 1000 1, .av (vv (.int .i64 m))), (.cell 1000 2, .av (.p (.ps (kids.map Pl.row)))), (.cell 1000 3, .av (.p (.ps (ex.map E.row)))), (.cell 1000 4, .av (.p (.ps (cols.map irow)))), (.cell 1000 5, .av (.p (.ps (wth.map irow)))), (.cell 1000 6, .av (vv (.int .u8 agg))), (.cell 1000 7, .av (vv (.int .i64 rds))), (.arr 900, .arr 45 1 ((jdgL S (kids.take i) nd w A).1.map srow) 0)]) (kids.length) hG ⟨_, ⟨by simp [jdgL], by simp, by simp⟩, 0, by simp, trivial, rfl⟩ ?_
  rintro n _ ⟨i, hin, hfa, rfl⟩
  refine sq ?_
  refine rg 3000 ?_
  refine pr [0, 3, 4, 5, 6, 8, 9, 10, 11, 12, 13, 14, 15, 16, 17, 18, 19, 20, 21, 22, 23, 24, 25, 26, 27, 28, 29, 30, 31, 32, 33, 34, 35, 36, 37, 38, 39, 40, 41, 42, 43, 44, 45, 46, 47, 48, 49, 50, 51, 52, 53, 54, 55, 56, 57, 58] ?_
  refine sq ?_
  refine cd ?_ ?_
  · intro h11_1
    have hlt : i < kids.length := by simpa using h11_1
    obtain ⟨x, hxe⟩ : ∃ x, kids[i] = x := ⟨_, rfl⟩
    have hx : kids[i]? = some x := by simp [hlt, hxe]
    have hw := wrap_succ (show i < Flat.lim by omega)
    have hmin : min i kids.length = i := by omega
    have hlim : (i + 1) * 24 ≤ 140737488355328 := by simp only [Flat.lim] at *; omega
    have hlim1 : i + 1 ≤ 140737488355328 := by simp only [Flat.lim] at *; omega
    have hgt : Pl.goodL (kids.take i) dd := Pl.goodL_of fun y hy => Pl.goodL_mem hgl y (List.mem_of_mem_take hy)
    have hgr := jdgL_grows (S := S) (fun y hy nd w A => jdg_grows S y dd (Pl.goodL_mem hgt y hy) nd w A) nd w A hnd hnA hA
    have hok := jdgL_ok (S := S) hgt (fun y hy => jdg_ok hS y dd (Pl.goodL_mem hgt y hy)) nd w A hnd hnA hA hSh
    have hShi : Sh (jdgL S (kids.take i) nd w A).2.2 nd (jdgL S (kids.take i) nd w A).2.1 := fun hz => by rw [hgr.2.2]; exact hSh (hok hz).1
    have hmem : x ∈ kids := hxe ▸ List.getElem_mem hlt
    have hrl : (jdgL S (kids.take i) nd w A).1.length = i := by rw [jdgL_rows, List.length_take]; exact hmin
    obtain ⟨xk, xn, xq, xe, xc, xw, xa, xr⟩ := x
    refine k_skip ?_
    refine sq ?_
    refine k_block ?_
    refine sq ?_
    refine rg 4000 ?_ (h := by simp [*, Pl.row_eq]; exact is_rfl _)
    refine pr [0, 3, 4, 5, 6, 8, 9, 10, 11, 12, 13, 14, 15, 16, 17, 18, 19, 20, 21, 22, 23, 24, 25, 26, 27, 28, 29, 30, 31, 32, 33, 34, 35, 36, 37, 38, 39, 40, 41, 42, 43, 44, 45, 46, 47, 48, 49, 50, 51, 52, 53, 54, 55, 56, 57, 58] ?_
    refine sq ?_
    refine sq ?_
    refine rc 5000 ?_
    iterate 2 (first | refine gp 5150 ?_ | refine os ?_ | refine gt 5150 ?_)
    refine oe 5200 ?_
    refine on ?_
    refine pr [0, 3, 4, 5, 6, 8, 9, 10, 11, 12, 13, 14, 15, 16, 17, 18, 19, 20, 21, 22, 23, 24, 25, 26, 27, 28, 29, 30, 31, 32, 33, 34, 35, 36, 37, 38, 39, 40, 41, 42, 43, 44, 45, 46, 47, 48, 49, 50, 51, 52, 53, 54, 55, 56, 57, 58] ?_
    refine ce ?_
    refine k_skip ?_
    refine rc 7000 ?_ (h := by simp [*, srow]; exact is_rfl _)
    refine oc id (ih _ hmem nd (jdgL S (kids.take i) nd w A).2.1 (jdgL S (kids.take i) nd w A).2.2 hnd (Nat.le_trans hnA hgr.1) hgr.2.1 hShi) ?_ (hg := by simp [*, srow]) (hf := by simp [*, srow]; exact is_rfl _) (hx := by simp [*, srow]; exact is_rfl _) (hargs := by simp [*, srow]) (hB := by simp [*, srow]) (hL := by simp [*, srow]) (hd := by simp [*, srow]; exact is_rfl _)
    refine oe 7100 ?_ (h := by simp [*, srow]; exact is_rfl _)
    refine on ?_
    refine k_nil ?_
    show AK _ _ _ _ _ _
    refine rg 8000 ?_ (h := by simp [*, wrap_succ (show i < Flat.lim by omega)]; exact is_rfl _)
    refine k_nil ?_
    refine ⟨n - 1, by omega, _, ⟨?_, ?_, ?_⟩, i + 1, by omega, trivial, rfl⟩ <;> simp [*, jdgL_take hx, srow]
  · intro h11_1
    have hge : kids.length ≤ i := by simpa using h11_1
    have htk : kids.take i = kids := List.take_of_length_le hge
    obtain rfl : i = kids.length := by omega
    have hrl : (jdgL S kids nd w A).1.length = kids.length := jdgL_rows ..
    have htr : ((jdgL S kids nd w A).1.map srow).take kids.length = (jdgL S kids nd w A).1.map srow := List.take_of_length_le (by simp [hrl])
    refine fz 900 ?_
    refine k_exit ?_
    show AK _ _ _ _ _ _
    refine sq ?_
    refine sq ?_
    refine rg 9000 ?_
    refine pr [0, 4, 43, 44, 45, 46, 47, 48, 49, 50, 51, 52, 53, 54, 55, 56, 57, 58] ?_
    refine ce ?_
    refine k_skip ?_
    refine sq ?_
    refine rg 11000 ?_
    refine pr [4] ?_
    refine k_ret ?_
    show retQ _ _ _ _ _ _ _
    simp [*]

attribute [local simp] Pl.av srow Pl.row_eq in
theorem spec110_i1 (S A : List (List Int)) (m : Int) (ex : List E) (cols wth : List Int) (agg rds : Int) (ak an : Int) (aq : List Pl) (ae : List E) (ac aw : List Int) (aa ar : Int) (bk bn : Int) (bq : List Pl) (be : List E) (bc bw : List Int) (ba br : Int) (w w1 w2 : Int) (o1 o2 : List Int) (A1 B A2 : List (List Int)) (hA1 : A1.length ≤ 16) (hA2 : A1.length + 1 ≤ A2.length) (hnn : A1.length ≤ 16) (hBl : B.length = A1.length + 1) (hBm : B.map srow = A1.map srow ++ [srow o1]) (hx : Flat.Sp Try.prog 59 [.ptr 0 0, (Pl.mk ak an aq ae ac aw aa ar).av] [(.var 0, .n 3), (.cell 0 0, .av (vv (.int .i64 (w)))), (.cell 0 1, .av (.p (.ps (S.map srow)))), (.cell 0 2, .av (.sl 1 (A).length 0 (A1.length))), (.arr 1, .arr 45 1 ((A).map srow) 0)] (.p (.ps (o1.map trow))) [(.var 0, .n 3), (.cell 0 0, .av (vv (.int .i64 (w1)))), (.cell 0 1, .av (.p (.ps (S.map srow)))), (.cell 0 2, .av (.sl 1 (A1).length 0 (A1.length))), (.arr 1, .arr 45 1 ((A1).map srow) 0)]) (hy : Flat.Sp Try.prog 59 [.ptr 0 0, (Pl.mk bk bn bq be bc bw ba br).av] [(.var 0, .n 3), (.cell 0 0, .av (vv (.int .i64 (w1)))), (.cell 0 1, .av (.p (.ps (S.map srow)))), (.cell 0 2, .av (.sl 1 (B).length 0 (A1.length + 1))), (.arr 1, .arr 45 1 ((B).map srow) 0)] (.p (.ps (o2.map trow))) [(.var 0, .n 3), (.cell 0 0, .av (vv (.int .i64 (w2)))), (.cell 0 1, .av (.p (.ps (S.map srow)))), (.cell 0 2, .av (.sl 1 (A2).length 0 (A1.length + 1))), (.arr 1, .arr 45 1 ((A2).map srow) 0)]) : Flat.Sp Try.prog 110 [.ptr 0 0, (Pl.mk 10 m [Pl.mk ak an aq ae ac aw aa ar, Pl.mk bk bn bq be bc bw ba br] ex cols wth agg rds).av] [(.var 0, .n 3), (.cell 0 0, .av (vv (.int .i64 (w)))), (.cell 0 1, .av (.p (.ps (S.map srow)))), (.cell 0 2, .av (.sl 1 (A).length 0 (A1.length))), (.arr 1, .arr 45 1 ((A).map srow) 0)] (.p (.ps [srow o1, srow o2])) [(.var 0, .n 3), (.cell 0 0, .av (vv (.int .i64 (w2)))), (.cell 0 1, .av (.p (.ps (S.map srow)))), (.cell 0 2, .av (.sl 1 (A2).length 0 (A1.length))), (.arr 1, .arr 45 1 ((A2).map srow) 0)] := by
  refine sk Try.func110 ?_
  intro F G hn hG
  have hwn : IntKind.i64.wrap (A1.length : Int) = A1.length := Flat.wrap_small (by simp only [Flat.lim]; omega)
  have hl3 : (A1.length + 1) * 24 ≤ 140737488355328 := by omega
  have hl4 : A1.length + 1 ≤ 140737488355328 := by omega
  refine sq ?_
  refine rg 1000 ?_
  refine pr [0, 3, 4, 5, 6, 7, 8, 9, 10, 11, 12, 13, 14, 15, 16, 17, 18, 19, 20, 21, 22, 23, 24, 25, 26, 27, 28, 29, 30, 31, 32, 33, 34, 35, 36, 37, 38, 39, 40, 41, 42, 43, 44, 45, 46, 47, 48, 49, 50, 51, 52, 53, 54, 55, 56, 57, 58] ?_
  refine sq ?_
  refine sq ?_
  refine rg 2000 ?_
  refine pr [0, 3, 4, 5, 6, 8, 9, 10, 11, 12, 13, 14, 15, 16, 17, 18, 19, 20, 21, 22, 23, 24, 25, 26, 27, 28, 29, 30, 31, 32, 33, 34, 35, 36, 37, 38, 39, 40, 41, 42, 43, 44, 45, 46, 47, 48, 49, 50, 51, 52, 53, 54, 55, 56, 57, 58] ?_
  refine k_block ?_
  refine ow (.tmp 4) 900 45 1 ?_
  refine k_rounds 3 ?_
  show AK _ _ _ _ _ _
  refine sq ?_
  refine rg 3000 ?_
  refine pr [0, 3, 4, 5, 6, 8, 9, 10, 11, 12, 13, 14, 15, 16, 17, 18, 19, 20, 21, 22, 23, 24, 25, 26, 27, 28, 29, 30, 31, 32, 33, 34, 35, 36, 37, 38, 39, 40, 41, 42, 43, 44, 45, 46, 47, 48, 49, 50, 51, 52, 53, 54, 55, 56, 57, 58] ?_
  refine sq ?_
  refine ct ?_
  refine k_skip ?_
  refine sq ?_
  refine k_block ?_
  refine sq ?_
  refine rg 4000 ?_
  refine pr [0, 3, 4, 5, 6, 8, 9, 10, 11, 12, 13, 14, 15, 16, 17, 18, 19, 20, 21, 22, 23, 24, 25, 26, 27, 28, 29, 30, 31, 32, 33, 34, 35, 36, 37, 38, 39, 40, 41, 42, 43, 44, 45, 46, 47, 48, 49, 50, 51, 52, 53, 54, 55, 56, 57, 58] ?_
  refine sq ?_
  refine sq ?_
  refine rc 5000 ?_
  iterate 2 (first | refine gp 5150 ?_ | refine os ?_ | refine gt 5150 ?_)
  refine oe 5200 ?_
  refine on ?_
  refine pr [0, 3, 4, 5, 6, 8, 9, 10, 11, 12, 13, 14, 15, 16, 17, 18, 19, 20, 21, 22, 23, 24, 25, 26, 27, 28, 29, 30, 31, 32, 33, 34, 35, 36, 37, 38, 39, 40, 41, 42, 43, 44, 45, 46, 47, 48, 49, 50, 51, 52, 53, 54, 55, 56, 57, 58] ?_
  refine ce ?_
  refine k_skip ?_
  refine rc 7000 ?_
  refine oc id (hx) ?_
  refine oe 7100 ?_
  refine on ?_
  refine k_nil ?_
  show AK _ _ _ _ _ _
  refine rg 8000 ?_
  refine k_nil ?_
  show AK _ _ _ _ _ _
  refine sq ?_
  refine rg 1003000 ?_
  refine pr [0, 3, 4, 5, 6, 8, 9, 10, 11, 12, 13, 14, 15, 16, 17, 18, 19, 20, 21, 22, 23, 24, 25, 26, 27, 28, 29, 30, 31, 32, 33, 34, 35, 36, 37, 38, 39, 40, 41, 42, 43, 44, 45, 46, 47, 48, 49, 50, 51, 52, 53, 54, 55, 56, 57, 58] ?_
  refine sq ?_
  refine ct ?_
  refine k_skip ?_
  refine sq ?_
  refine k_block ?_
  refine sq ?_
  refine rg 1004000 ?_
  refine pr [0, 3, 4, 5, 6, 8, 9, 10, 11, 12, 13, 14, 15, 16, 17, 18, 19, 20, 21, 22, 23, 24, 25, 26, 27, 28, 29, 30, 31, 32, 33, 34, 35, 36, 37, 38, 39, 40, 41, 42, 43, 44, 45, 46, 47, 48, 49, 50, 51, 52, 53, 54, 55, 56, 57, 58] ?_
  refine sq ?_
  refine sq ?_
  refine rc 1005000 ?_
  iterate 2 (first | refine gp 1005150 ?_ | refine os ?_ | refine gt 1005150 ?_)
  refine oe 1005200 ?_
  refine on ?_
  refine pr [0, 3, 4, 5, 6, 8, 9, 10, 11, 12, 13, 14, 15, 16, 17, 18, 19, 20, 21, 22, 23, 24, 25, 26, 27, 28, 29, 30, 31, 32, 33, 34, 35, 36, 37, 38, 39, 40, 41, 42, 43, 44, 45, 46, 47, 48, 49, 50, 51, 52, 53, 54, 55, 56, 57, 58] ?_
  refine ct ?_
  refine dr ?_
  refine de 6000 ?_
  refine dn ?_
  refine pr [0, 3, 4, 5, 6, 8, 9, 10, 11, 12, 13, 14, 15, 16, 17, 18, 19, 20, 21, 22, 23, 24, 25, 26, 27, 28, 29, 30, 31, 32, 33, 34, 35, 36, 37, 38, 39, 40, 41, 42, 43, 44, 45, 46, 47, 48, 49, 50, 51, 52, 53, 54, 55, 56, 57, 58] ?_
  refine rc 1007000 ?_
  refine oc id (hy) ?_
  refine oe 1007100 ?_
  refine on ?_
  refine k_nil ?_
  show AK _ _ _ _ _ _
  refine rg 1008000 ?_
  refine k_nil ?_
  show AK _ _ _ _ _ _
  refine sq ?_
  refine rg 2003000 ?_
  refine pr [0, 3, 4, 5, 6, 8, 9, 10, 11, 12, 13, 14, 15, 16, 17, 18, 19, 20, 21, 22, 23, 24, 25, 26, 27, 28, 29, 30, 31, 32, 33, 34, 35, 36, 37, 38, 39, 40, 41, 42, 43, 44, 45, 46, 47, 48, 49, 50, 51, 52, 53, 54, 55, 56, 57, 58] ?_
  refine sq ?_
  refine ce ?_
  refine k_exit ?_
  show AK _ _ _ _ _ _
  refine sq ?_
  refine sq ?_
  refine rg 9000 ?_
  refine pr [0, 4, 43, 44, 45, 46, 47, 48, 49, 50, 51, 52, 53, 54, 55, 56, 57, 58] ?_
  refine ct ?_
  refine dr ?_
  refine de 10000 ?_
  refine dn ?_
  refine pr [4, 58] ?_
  refine fz 900 ?_
  refine sq ?_
  refine rg 11000 ?_
  refine pr [4] ?_
  refine k_ret ?_
  show retQ _ _ _ _ _ _ _
  simp [*]

attribute [local simp] Pl.av srow Pl.row_eq in
theorem spec110_i2 (S A : List (List Int)) (nd : Nat) (m : Int) (ex : List E) (cols wth : List Int) (agg rds : Int) (ak an : Int) (aq : List Pl) (ae : List E) (ac aw : List Int) (aa ar : Int) (bk bn : Int) (bq : List Pl) (be : List E) (bc bw : List Int) (ba br : Int) (w w1 w2 : Int) (o1 o2 : List Int) (A1 B A2 : List (List Int)) (hA1 : A1.length ≤ 16) (hA2 : nd + 1 ≤ A2.length) (hnn : nd ≤ 16) (hlt : nd < A1.length) (hBl : B.length = A1.length) (hBm : B.map srow = (A1.map srow).take nd ++ srow o1 :: (A1.map srow).drop (nd + 1)) (hx : Flat.Sp Try.prog 59 [.ptr 0 0, (Pl.mk ak an aq ae ac aw aa ar).av] [(.var 0, .n 3), (.cell 0 0, .av (vv (.int .i64 (w)))), (.cell 0 1, .av (.p (.ps (S.map srow)))), (.cell 0 2, .av (.sl 1 (A).length 0 (nd))), (.arr 1, .arr 45 1 ((A).map srow) 0)] (.p (.ps (o1.map trow))) [(.var 0, .n 3), (.cell 0 0, .av (vv (.int .i64 (w1)))), (.cell 0 1, .av (.p (.ps (S.map srow)))), (.cell 0 2, .av (.sl 1 (A1).length 0 (nd))), (.arr 1, .arr 45 1 ((A1).map srow) 0)]) (hy : Flat.Sp Try.prog 59 [.ptr 0 0, (Pl.mk bk bn bq be bc bw ba br).av] [(.var 0, .n 3), (.cell 0 0, .av (vv (.int .i64 (w1)))), (.cell 0 1, .av (.p (.ps (S.map srow)))), (.cell 0 2, .av (.sl 1 (B).length 0 (nd + 1))), (.arr 1, .arr 45 1 ((B).map srow) 0)] (.p (.ps (o2.map trow))) [(.var 0, .n 3), (.cell 0 0, .av (vv (.int .i64 (w2)))), (.cell 0 1, .av (.p (.ps (S.map srow)))), (.cell 0 2, .av (.sl 1 (A2).length 0 (nd + 1))), (.arr 1, .arr 45 1 ((A2).map srow) 0)]) : Flat.Sp Try.prog 110 [.ptr 0 0, (Pl.mk 10 m [Pl.mk ak an aq ae ac aw aa ar, Pl.mk bk bn bq be bc bw ba br] ex cols wth agg rds).av] [(.var 0, .n 3), (.cell 0 0, .av (vv (.int .i64 (w)))), (.cell 0 1, .av (.p (.ps (S.map srow)))), (.cell 0 2, .av (.sl 1 (A).length 0 (nd))), (.arr 1, .arr 45 1 ((A).map srow) 0)] (.p (.ps [srow o1, srow o2])) [(.var 0, .n 3), (.cell 0 0, .av (vv (.int .i64 (w2)))), (.cell 0 1, .av (.p (.ps (S.map srow)))), (.cell 0 2, .av (.sl 1 (A2).length 0 (nd))), (.arr 1, .arr 45 1 ((A2).map srow) 0)] := by
  refine sk Try.func110 ?_
  intro F G hn hG
  have hwn : IntKind.i64.wrap (nd : Int) = nd := Flat.wrap_small (by simp only [Flat.lim]; omega)
  have hl3 : (nd + 1) * 24 ≤ 140737488355328 := by omega
  have hl4 : nd + 1 ≤ 140737488355328 := by omega
  have hmx : max A1.length (nd + 1) = A1.length := by omega
  have hne : ¬ nd = A1.length := by omega
  have hmn : min nd A1.length = nd := by omega
  refine sq ?_
  refine rg 1000 ?_
  refine pr [0, 3, 4, 5, 6, 7, 8, 9, 10, 11, 12, 13, 14, 15, 16, 17, 18, 19, 20, 21, 22, 23, 24, 25, 26, 27, 28, 29, 30, 31, 32, 33, 34, 35, 36, 37, 38, 39, 40, 41, 42, 43, 44, 45, 46, 47, 48, 49, 50, 51, 52, 53, 54, 55, 56, 57, 58] ?_
  refine sq ?_
  refine sq ?_
  refine rg 2000 ?_
  refine pr [0, 3, 4, 5, 6, 8, 9, 10, 11, 12, 13, 14, 15, 16, 17, 18, 19, 20, 21, 22, 23, 24, 25, 26, 27, 28, 29, 30, 31, 32, 33, 34, 35, 36, 37, 38, 39, 40, 41, 42, 43, 44, 45, 46, 47, 48, 49, 50, 51, 52, 53, 54, 55, 56, 57, 58] ?_
  refine k_block ?_
  refine ow (.tmp 4) 900 45 1 ?_
  refine k_rounds 3 ?_
  show AK _ _ _ _ _ _
  refine sq ?_
  refine rg 3000 ?_
  refine pr [0, 3, 4, 5, 6, 8, 9, 10, 11, 12, 13, 14, 15, 16, 17, 18, 19, 20, 21, 22, 23, 24, 25, 26, 27, 28, 29, 30, 31, 32, 33, 34, 35, 36, 37, 38, 39, 40, 41, 42, 43, 44, 45, 46, 47, 48, 49, 50, 51, 52, 53, 54, 55, 56, 57, 58] ?_
  refine sq ?_
  refine ct ?_
  refine k_skip ?_
  refine sq ?_
  refine k_block ?_
  refine sq ?_
  refine rg 4000 ?_
  refine pr [0, 3, 4, 5, 6, 8, 9, 10, 11, 12, 13, 14, 15, 16, 17, 18, 19, 20, 21, 22, 23, 24, 25, 26, 27, 28, 29, 30, 31, 32, 33, 34, 35, 36, 37, 38, 39, 40, 41, 42, 43, 44, 45, 46, 47, 48, 49, 50, 51, 52, 53, 54, 55, 56, 57, 58] ?_
  refine sq ?_
  refine sq ?_
  refine rc 5000 ?_
  iterate 2 (first | refine gp 5150 ?_ | refine os ?_ | refine gt 5150 ?_)
  refine oe 5200 ?_
  refine on ?_
  refine pr [0, 3, 4, 5, 6, 8, 9, 10, 11, 12, 13, 14, 15, 16, 17, 18, 19, 20, 21, 22, 23, 24, 25, 26, 27, 28, 29, 30, 31, 32, 33, 34, 35, 36, 37, 38, 39, 40, 41, 42, 43, 44, 45, 46, 47, 48, 49, 50, 51, 52, 53, 54, 55, 56, 57, 58] ?_
  refine ce ?_
  refine k_skip ?_
  refine rc 7000 ?_
  refine oc id (hx) ?_
  refine oe 7100 ?_
  refine on ?_
  refine k_nil ?_
  show AK _ _ _ _ _ _
  refine rg 8000 ?_
  refine k_nil ?_
  show AK _ _ _ _ _ _
  refine sq ?_
  refine rg 1003000 ?_
  refine pr [0, 3, 4, 5, 6, 8, 9, 10, 11, 12, 13, 14, 15, 16, 17, 18, 19, 20, 21, 22, 23, 24, 25, 26, 27, 28, 29, 30, 31, 32, 33, 34, 35, 36, 37, 38, 39, 40, 41, 42, 43, 44, 45, 46, 47, 48, 49, 50, 51, 52, 53, 54, 55, 56, 57, 58] ?_
  refine sq ?_
  refine ct ?_
  refine k_skip ?_
  refine sq ?_
  refine k_block ?_
  refine sq ?_
  refine rg 1004000 ?_
  refine pr [0, 3, 4, 5, 6, 8, 9, 10, 11, 12, 13, 14, 15, 16, 17, 18, 19, 20, 21, 22, 23, 24, 25, 26, 27, 28, 29, 30, 31, 32, 33, 34, 35, 36, 37, 38, 39, 40, 41, 42, 43, 44, 45, 46, 47, 48, 49, 50, 51, 52, 53, 54, 55, 56, 57, 58] ?_
  refine sq ?_
  refine sq ?_
  refine rc 1005000 ?_
  iterate 2 (first | refine gp 1005150 ?_ | refine os ?_ | refine gt 1005150 ?_)
  refine oe 1005200 ?_
  refine on ?_
  refine pr [0, 3, 4, 5, 6, 8, 9, 10, 11, 12, 13, 14, 15, 16, 17, 18, 19, 20, 21, 22, 23, 24, 25, 26, 27, 28, 29, 30, 31, 32, 33, 34, 35, 36, 37, 38, 39, 40, 41, 42, 43, 44, 45, 46, 47, 48, 49, 50, 51, 52, 53, 54, 55, 56, 57, 58] ?_
  refine ct ?_
  refine dr ?_
  refine de 6000 ?_
  refine dn ?_
  refine pr [0, 3, 4, 5, 6, 8, 9, 10, 11, 12, 13, 14, 15, 16, 17, 18, 19, 20, 21, 22, 23, 24, 25, 26, 27, 28, 29, 30, 31, 32, 33, 34, 35, 36, 37, 38, 39, 40, 41, 42, 43, 44, 45, 46, 47, 48, 49, 50, 51, 52, 53, 54, 55, 56, 57, 58] ?_
  refine rc 1007000 ?_
  refine oc id (hy) ?_
  refine oe 1007100 ?_
  refine on ?_
  refine k_nil ?_
  show AK _ _ _ _ _ _
  refine rg 1008000 ?_
  refine k_nil ?_
  show AK _ _ _ _ _ _
  refine sq ?_
  refine rg 2003000 ?_
  refine pr [0, 3, 4, 5, 6, 8, 9, 10, 11, 12, 13, 14, 15, 16, 17, 18, 19, 20, 21, 22, 23, 24, 25, 26, 27, 28, 29, 30, 31, 32, 33, 34, 35, 36, 37, 38, 39, 40, 41, 42, 43, 44, 45, 46, 47, 48, 49, 50, 51, 52, 53, 54, 55, 56, 57, 58] ?_
  refine sq ?_
  refine ce ?_
  refine k_exit ?_
  show AK _ _ _ _ _ _
  refine sq ?_
  refine sq ?_
  refine rg 9000 ?_
  refine pr [0, 4, 43, 44, 45, 46, 47, 48, 49, 50, 51, 52, 53, 54, 55, 56, 57, 58] ?_
  refine ct ?_
  refine dr ?_
  refine de 10000 ?_
  refine dn ?_
  refine pr [4, 58] ?_
  refine fz 900 ?_
  refine sq ?_
  refine rg 11000 ?_
  refine pr [4] ?_
  refine k_ret ?_
  show retQ _ _ _ _ _ _ _
  simp [*]

theorem spec110_i (S A : List (List Int)) (nd : Nat) (m : Int) (ex : List E) (cols wth : List Int) (agg rds : Int) (ak an : Int) (aq : List Pl) (ae : List E) (ac aw : List Int) (aa ar : Int) (bk bn : Int) (bq : List Pl) (be : List E) (bc bw : List Int) (ba br : Int) (w w1 w2 : Int) (o1 o2 : List Int) (A1 A2 : List (List Int)) (h5 : nd ≤ A1.length) (hA1 : A1.length ≤ 16) (hA2 : nd + 1 ≤ A2.length) (hnn : nd ≤ 16) (hx : Flat.Sp Try.prog 59 [.ptr 0 0, (Pl.mk ak an aq ae ac aw aa ar).av] [(.var 0, .n 3), (.cell 0 0, .av (vv (.int .i64 (w)))), (.cell 0 1, .av (.p (.ps (S.map srow)))), (.cell 0 2, .av (.sl 1 (A).length 0 (nd))), (.arr 1, .arr 45 1 ((A).map srow) 0)] (.p (.ps (o1.map trow))) [(.var 0, .n 3), (.cell 0 0, .av (vv (.int .i64 (w1)))), (.cell 0 1, .av (.p (.ps (S.map srow)))), (.cell 0 2, .av (.sl 1 (A1).length 0 (nd))), (.arr 1, .arr 45 1 ((A1).map srow) 0)]) (hy : Flat.Sp Try.prog 59 [.ptr 0 0, (Pl.mk bk bn bq be bc bw ba br).av] [(.var 0, .n 3), (.cell 0 0, .av (vv (.int .i64 (w1)))), (.cell 0 1, .av (.p (.ps (S.map srow)))), (.cell 0 2, .av (.sl 1 (pushA A1 nd o1).length 0 (nd + 1))), (.arr 1, .arr 45 1 ((pushA A1 nd o1).map srow) 0)] (.p (.ps (o2.map trow))) [(.var 0, .n 3), (.cell 0 0, .av (vv (.int .i64 (w2)))), (.cell 0 1, .av (.p (.ps (S.map srow)))), (.cell 0 2, .av (.sl 1 (A2).length 0 (nd + 1))), (.arr 1, .arr 45 1 ((A2).map srow) 0)]) : Flat.Sp Try.prog 110 [.ptr 0 0, (Pl.mk 10 m [Pl.mk ak an aq ae ac aw aa ar, Pl.mk bk bn bq be bc bw ba br] ex cols wth agg rds).av] [(.var 0, .n 3), (.cell 0 0, .av (vv (.int .i64 (w)))), (.cell 0 1, .av (.p (.ps (S.map srow)))), (.cell 0 2, .av (.sl 1 (A).length 0 (nd))), (.arr 1, .arr 45 1 ((A).map srow) 0)] (.p (.ps [srow o1, srow o2])) [(.var 0, .n 3), (.cell 0 0, .av (vv (.int .i64 (w2)))), (.cell 0 1, .av (.p (.ps (S.map srow)))), (.cell 0 2, .av (.sl 1 (A2).length 0 (nd))), (.arr 1, .arr 45 1 ((A2).map srow) 0)] := by
  have hp := pushA_len o1 h5
  rcases Nat.lt_or_eq_of_le h5 with hlt | heq
  · refine spec110_i2 S A nd m ex cols wth agg rds ak an aq ae ac aw aa ar bk bn bq be bc bw ba br w w1 w2 o1 o2 A1 _ A2 hA1 hA2 hnn hlt (by rw [hp]; omega) ?_ hx hy
    simp [pushA]
  · subst heq
    refine spec110_i1 S A m ex cols wth agg rds ak an aq ae ac aw aa ar bk bn bq be bc bw ba br w w1 w2 o1 o2 A1 _ A2 hA1 hA2 hnn (by rw [hp]; omega) ?_ hx hy
    simp [pushA]

theorem two_pl {l : List Pl} (h : l.length = 2) : ∃ x y, l = [x, y] := by
  match l, h with
  | [x, y], _ => exact ⟨x, y, rfl⟩
theorem spec110 (S A : List (List Int)) (nd : Nat) (k m : Int) (kids : List Pl) (ex : List E) (cols wth : List Int) (agg rds : Int) (hk2 : (k == 10) = true → kids.length = 2) (hkb : kids.length ≤ Bnd) (hS : ∀ s ∈ S, s.length ≤ 8) (d : Nat) (hd : d ≤ 16) (hgl : Pl.goodL kids (d + 1)) (hnd : nd < d) (hnA : nd ≤ A.length) (hA : A.length ≤ 16) (w : Int) (hSh : Sh A nd w) (ih : ∀ x ∈ kids, ∀ (nd : Nat) (w : Int) (A : List (List Int)), nd < d + 1 → nd ≤ A.length → A.length ≤ 16 → Sh A nd w → Flat.Sp Try.prog 59 [.ptr 0 0, x.av] [(.var 0, .n 3), (.cell 0 0, .av (vv (.int .i64 (w)))), (.cell 0 1, .av (.p (.ps (S.map srow)))), (.cell 0 2, .av (.sl 1 (A).length 0 (nd))), (.arr 1, .arr 45 1 ((A).map srow) 0)] (.p (.ps ((jdg S x nd w A).1.map trow))) [(.var 0, .n 3), (.cell 0 0, .av (vv (.int .i64 ((jdg S x nd w A).2.1)))), (.cell 0 1, .av (.p (.ps (S.map srow)))), (.cell 0 2, .av (.sl 1 ((jdg S x nd w A).2.2).length 0 (nd))), (.arr 1, .arr 45 1 (((jdg S x nd w A).2.2).map srow) 0)])  : Flat.Sp Try.prog 110 [.ptr 0 0, (Pl.mk k m kids ex cols wth agg rds).av] [(.var 0, .n 3), (.cell 0 0, .av (vv (.int .i64 (w)))), (.cell 0 1, .av (.p (.ps (S.map srow)))), (.cell 0 2, .av (.sl 1 (A).length 0 (nd))), (.arr 1, .arr 45 1 ((A).map srow) 0)] (.p (.ps ((jdgK S k kids nd w A).1.map srow))) [(.var 0, .n 3), (.cell 0 0, .av (vv (.int .i64 ((jdgK S k kids nd w A).2.1)))), (.cell 0 1, .av (.p (.ps (S.map srow)))), (.cell 0 2, .av (.sl 1 ((jdgK S k kids nd w A).2.2).length 0 (nd))), (.arr 1, .arr 45 1 (((jdgK S k kids nd w A).2.2).map srow) 0)] := by
  cases hk : (k == 10) with
  | false =>
    have he : jdgK S k kids nd w A = jdgL S kids nd w A := by simp only [jdgK, hk]; rfl
    rw [he]
    exact spec110_l S A nd k m kids ex cols wth agg rds hk hkb hS (d + 1) hgl (by omega) hnA hA w hSh ih
  | true =>
    obtain ⟨a, b, rfl⟩ := two_pl (hk2 hk)
    obtain rfl : k = 10 := eq_of_beq hk
    have hga : a.good (d + 1) := Pl.goodL_mem hgl a (by simp)
    have hgb : b.good (d + 1) := Pl.goodL_mem hgl b (by simp)
    have g := jdg_grows S a (d + 1) hga nd w A (by omega) hnA hA
    have ok := jdg_ok hS a (d + 1) hga nd w A (by omega) hnA hA hSh
    have h5 := Nat.le_trans hnA g.1
    have hp := pushA_len (jdg S a nd w A).1 h5
    have hq := g.2.1
    have hShb : Sh (pushA (jdg S a nd w A).2.2 nd (jdg S a nd w A).1) (nd + 1) (jdg S a nd w A).2.1 := fun hz s hs => by
      rw [pushA_take1 _ h5, g.2.2] at hs
      rcases List.mem_append.1 hs with hs | hs
      · exact hSh (ok hz).1 s hs
      · rw [List.mem_singleton] at hs; rw [hs]; exact (ok hz).2
    have hx := ih a (by simp) nd w A (by omega) hnA hA hSh
    have hy := ih b (by simp) (nd + 1) (jdg S a nd w A).2.1 (pushA (jdg S a nd w A).2.2 nd (jdg S a nd w A).1) (by omega) (by rw [hp]; omega) (by rw [hp]; omega) hShb
    have g2 := jdg_grows S b (d + 1) hgb (nd + 1) (jdg S a nd w A).2.1 (pushA (jdg S a nd w A).2.2 nd (jdg S a nd w A).1) (by omega) (by rw [hp]; omega) (by rw [hp]; omega)
    have hA2 := g2.1
    have he : jdgK S 10 [a, b] nd w A = ([(jdg S a nd w A).1, (jdg S b (nd + 1) (jdg S a nd w A).2.1 (pushA (jdg S a nd w A).2.2 nd (jdg S a nd w A).1)).1], (jdg S b (nd + 1) (jdg S a nd w A).2.1 (pushA (jdg S a nd w A).2.2 nd (jdg S a nd w A).1)).2) := by
      simp only [jdgK, jdgI, jdgL]; rfl
    rw [he]
    obtain ⟨ak, an, aq, ae, ac, aw, aa, ar⟩ := a
    obtain ⟨bk, bn, bq, be, bc, bw, ba, br⟩ := b
    exact spec110_i S A nd m ex cols wth agg rds ak an aq ae ac aw aa ar bk bn bq be bc bw ba br w _ _ _ _ _ _ h5 hq (by rw [hp] at hA2; exact Nat.le_trans (Nat.le_max_right _ _) hA2) (by omega) hx hy

end Go.Proofs
end
section
set_option linter.unusedVariables false
set_option linter.unusedSimpArgs false
namespace Go.Proofs
open Go.Flat
set_option maxRecDepth 100000
set_option linter.unusedSimpArgs false
set_option linter.unusedVariables false
attribute [local simp] Bool.and_assoc Bool.or_assoc evalG evalX efD skF guardG guardL isCall stepL evalOp ev evs lk tmpsL app AV.ok fresh vv putCells insV ins del putL place Go.Flat.look fillC fillR getCells loadF storeF binF scalarBin intBin strBin isShift shiftBin unF lenF maxF minF rowsF appendF builtinF idxF natOf sliceP sliceF optEv Flat.cut overwrite toPV toPVs constAV scalarC scalarCs AV.cells TI.isAgg allSome andAll scalarEq buildable Go.Flat.lim retQ resL resAll resOne PartOf noTmp closedIn refs refs.refsL isSomeV hasB ids leA leA.leL renA renA.renL callB refsAll backL dropIds renS LiesAt injB ownB freshB memN locId insAll leA_refl leL_refl okS frzS frzA frzA.frzL evalD feet fine updCells cellsFrom memP footRf footWf noTmpU updIds opOps opIds idsA footR footW guardTs opTs dstTs callR callW renLoc renC inBlockQ thenQ Value.oneCell' IntKind.bits IntKind.signed

def neS (o ts : List Int) : Bool := !(ts == o)
theorem spec117 (ts o : List Int) (hts : ts.length ≤ Flat.lim) : Flat.Sp Try.prog 117 [.p (.ps (ts.map trow)), .ptr 0 0] [(.var 0, .n 1), (.cell 0 0, .av (.p (.ps (o.map trow))))] (vv (.bool (neS o ts))) [(.var 0, .n 1), (.cell 0 0, .av (.p (.ps (o.map trow))))] := by
  refine sk Try.func117 ?_
  intro F G hn hG
  refine sq ?_
  refine rg 1000 ?_
  refine pr [0, 1, 3, 4, 5, 6, 7] ?_
  refine sq ?_
  refine rc 2000 ?_
  refine oc id (spec114 ts o hts) ?_
  refine oe 2100 ?_
  refine on ?_
  refine pr [3] ?_
  refine k_ret ?_
  show retQ _ _ _ _ _ _ _
  simp [*, neS]

attribute [local simp] srow in
theorem spec118b (ss : List (List Int)) (o : List Int) (hlen : ss.length ≤ Flat.lim) (hs8 : ∀ s ∈ ss, s.length ≤ 8) : Flat.Sp Try.prog 118 [.p (.ps (ss.map srow)), .fn (.func 117) [.ptr 0 0]] [(.var 0, .n 1), (.cell 0 0, .av (.p (.ps (o.map trow))))] (vv (.int .i64 (firstP (neS o) ss 0))) [(.var 0, .n 1), (.cell 0 0, .av (.p (.ps (o.map trow))))] := by
  refine sk Try.func118 ?_
  intro F G hn hG
  refine sq ?_
  refine rg 1000 ?_
  refine pr [0, 1, 4, 5, 6, 7, 8, 9, 10, 11, 12, 13, 14, 15, 16, 17, 18] ?_
  refine sq ?_
  refine sq ?_
  refine rg 2000 ?_
  refine pr [0, 1, 4, 5, 7, 8, 9, 10, 11, 12, 13, 14, 15, 16, 17, 18] ?_
  refine k_block ?_
  refine k_loop (fun n l => ∃ i, i + n = ss.length ∧ (firstP (neS o) ss 0 = firstP (neS o) (ss.drop i) i) ∧ l = [(.tmp 0, .av (.p (.ps (ss.map srow)))), (.tmp 1, .av (.fn (.func 117) [.ptr 0 0])), (.tmp 7, .av (vv (.int .i64 ss.length))), (.tmp 8, .av (vv (.int .i64 i))), (.var 0, .n 1), (.cell 0 0, .av (.p (.ps (o.map trow))))]) (ss.length) hG ⟨_, ⟨by simp, by simp, by simp⟩, 0, by simp, rfl, rfl⟩ ?_
  rintro n _ ⟨i, hin, hfa, rfl⟩
  have hwi : i < Flat.lim → IntKind.i64.wrap ((i : Int) + 1) = (i : Int) + 1 := wrap_succ
  refine sq ?_
  refine rg 3000 ?_
  refine pr [0, 1, 4, 5, 7, 8, 9, 10, 11, 12, 13, 14, 15, 16, 17, 18] ?_
  refine sq ?_
  refine cd ?_ ?_
  · intro h9_1
    have hlt : i < ss.length := by simpa using h9_1
    obtain ⟨x, hxe⟩ : ∃ x, ss[i] = x := ⟨_, rfl⟩
    have hx : ss[i]? = some x := by simp [hlt, hxe]
    have hfd := firstP_drop (p := (neS o)) hx
    have hwi := hwi (by omega)
    have hxl : x.length ≤ Flat.lim := Nat.le_trans (hs8 x (hxe ▸ List.getElem_mem hlt)) (by simp [Flat.lim])
    refine k_skip ?_
    refine sq ?_
    refine k_block ?_
    refine sq ?_
    refine rg 4000 ?_
    refine pr [0, 1, 4, 5, 7, 8, 9, 10, 11, 12, 13, 14, 15, 16, 17, 18] ?_
    refine sq ?_
    refine rc 5000 ?_
    refine oc id (spec117 x o hxl) ?_
    refine on ?_
    refine pr [0, 1, 4, 5, 7, 8, 9, 10, 11, 12, 13, 14, 15, 16, 17, 18] ?_
    refine cd ?_ ?_
    · intro h16_2
      have hr : (neS o) x = true := by simpa using h16_2
      refine sq ?_
      refine rg 6000 ?_
      refine pr [0, 1, 4, 5, 7, 8, 9, 10, 11, 12, 13, 14, 15, 16, 17, 18] ?_
      refine k_ret ?_
      show retQ _ _ _ _ _ _ _
      simp [*]
    · intro h16_2
      have hr : (neS o) x = false := by simpa using h16_2
      refine k_skip ?_
      refine k_nil ?_
      show AK _ _ _ _ _ _
      refine rg 7000 ?_
      refine k_nil ?_
      refine ⟨n - 1, by omega, _, ⟨?_, ?_, ?_⟩, i + 1, by omega, by rw [hfa, hfd, hr, if_neg (by simp)], rfl⟩ <;> simp [*]
  · intro h9_1
    have hge : ss.length ≤ i := by simpa using h9_1
    have hfe : firstP (neS o) (ss.drop i) i = -1 := by rw [List.drop_eq_nil_of_le hge]; rfl
    refine k_exit ?_
    show AK _ _ _ _ _ _
    refine sq ?_
    refine rg 8000 ?_
    refine pr [4] ?_
    refine k_ret ?_
    show retQ _ _ _ _ _ _ _
    simp [*]

attribute [local simp] firstP_any in
theorem spec62b (ss : List (List Int)) (o : List Int) (hlen : ss.length ≤ Flat.lim) (hs8 : ∀ s ∈ ss, s.length ≤ 8) : Flat.Sp Try.prog 62 [.p (.ps (ss.map srow)), .fn (.func 117) [.ptr 0 0]] [(.var 0, .n 1), (.cell 0 0, .av (.p (.ps (o.map trow))))] (vv (.bool (ss.any (neS o)))) [(.var 0, .n 1), (.cell 0 0, .av (.p (.ps (o.map trow))))] := by
  refine sk Try.func62 ?_
  intro F G hn hG
  refine sq ?_
  refine rg 1000 ?_
  refine pr [0, 1, 4, 5, 6, 7, 8] ?_
  refine sq ?_
  refine rc 2000 ?_
  refine oc id (spec118b ss o hlen hs8) ?_
  refine oe 2100 ?_
  refine on ?_
  refine pr [4] ?_
  refine k_ret ?_
  show retQ _ _ _ _ _ _ _
  simp [*]

attribute [local simp] Pl.av in
theorem spec59_1 (S A : List (List Int)) (nd : Nat) (m : Int) (kids : List Pl) (ex : List E) (cols wth : List Int) (agg rds : Int) (w : Int) : Flat.Sp Try.prog 59 [.ptr 0 0, (Pl.mk 1 m kids ex cols wth agg rds).av] [(.var 0, .n 3), (.cell 0 0, .av (vv (.int .i64 (w)))), (.cell 0 1, .av (.p (.ps (S.map srow)))), (.cell 0 2, .av (.sl 1 (A).length 0 (nd))), (.arr 1, .arr 45 1 ((A).map srow) 0)] (.p (.ps ((oneR S m).map trow))) [(.var 0, .n 3), (.cell 0 0, .av (vv (.int .i64 (oneW S m w)))), (.cell 0 1, .av (.p (.ps (S.map srow)))), (.cell 0 2, .av (.sl 1 (A).length 0 (nd))), (.arr 1, .arr 45 1 ((A).map srow) 0)] := by
  refine sk Try.func59 ?_
  intro F G hn hG
  refine sq ?_
  refine rg 1000 ?_
  refine pr [0, 3, 4, 5, 6, 7, 8, 9, 10, 11, 12, 13, 14, 15, 16, 17, 18, 19, 20, 21, 22, 23, 24, 25, 26, 27, 28, 29, 30, 31, 32, 33, 34, 35, 36, 37, 38, 39, 40, 41, 42, 43, 44, 45, 46, 47, 48, 49, 50, 51, 52, 53, 54, 55, 56, 57, 58, 59, 60, 61, 62, 63, 65, 66, 67, 68, 69, 70, 71, 72, 73, 74, 75, 76, 77, 78, 79, 80, 81, 82, 83, 84, 86, 87, 88, 89, 90, 91, 92, 93, 94, 95, 96, 97, 98, 99, 100, 101, 102, 103, 104, 105, 106, 107, 109, 110, 111, 112, 113, 114, 115, 116, 117, 118, 119, 120, 121, 122, 124] ?_
  refine sq ?_
  refine sq ?_
  refine rg 2000 ?_
  refine pr [0, 3, 4, 5, 6, 7, 8, 10, 11, 12, 13, 14, 15, 16, 17, 18, 19, 20, 21, 22, 23, 24, 25, 26, 27, 28, 29, 30, 31, 32, 33, 34, 35, 36, 37, 38, 39, 40, 41, 42, 43, 44, 45, 46, 47, 48, 49, 50, 51, 52, 53, 54, 55, 56, 57, 58, 59, 60, 61, 62, 63, 65, 66, 67, 68, 69, 70, 71, 72, 73, 74, 75, 76, 77, 78, 79, 80, 81, 82, 83, 84, 86, 87, 88, 89, 90, 91, 92, 93, 94, 95, 96, 97, 98, 99, 100, 101, 102, 103, 104, 105, 106, 107, 109, 110, 111, 112, 113, 114, 115, 116, 117, 118, 119, 120, 121, 122, 124] ?_
  refine k_block ?_
  refine sq ?_
  refine rg 3000 ?_
  refine pr [0, 3, 4, 5, 6, 7, 8, 10, 11, 13, 14, 15, 16, 17, 18, 19, 20, 21, 22, 23, 24, 25, 26, 27, 28, 29, 30, 31, 32, 33, 34, 35, 36, 37, 38, 39, 40, 41, 42, 43, 44, 45, 46, 47, 48, 49, 50, 51, 52, 53, 54, 55, 56, 57, 58, 59, 60, 61, 62, 63, 65, 66, 67, 68, 69, 70, 71, 72, 73, 74, 75, 76, 77, 78, 79, 80, 81, 82, 83, 84, 86, 87, 88, 89, 90, 91, 92, 93, 94, 95, 96, 97, 98, 99, 100, 101, 102, 103, 104, 105, 106, 107, 109, 110, 111, 112, 113, 114, 115, 116, 117, 118, 119, 120, 121, 122, 124] ?_
  refine ct ?_
  refine sq ?_
  refine dr ?_
  refine de 4000 ?_
  refine dc id (spec109 S A nd S m w) ?_
  refine de 4100 ?_
  refine dn ?_
  refine pr [0, 3, 4, 5, 6, 7, 8, 43, 44, 45, 46, 47, 48, 49, 50, 51, 52, 53, 54, 55, 56, 57, 58, 59, 60, 61, 62, 63, 65, 66, 67, 68, 69, 70, 71, 72, 73, 74, 75, 76, 77, 78, 79, 80, 81, 82, 83, 84, 86, 87, 88, 89, 90, 91, 92, 93, 94, 95, 96, 97, 98, 99, 100, 101, 102, 103, 104, 105, 106, 107, 109, 110, 111, 112, 113, 114, 115, 116, 117, 118, 119, 120, 121, 122, 124] ?_
  refine k_ret ?_
  show retQ _ _ _ _ _ _ _
  simp [*]

attribute [local simp] Pl.av in
theorem spec59_2n (S A : List (List Int)) (nd : Nat) (m : Int) (kids : List Pl) (ex : List E) (cols wth : List Int) (agg rds : Int) (w : Int) (hm : decide (m < 0) = true) : Flat.Sp Try.prog 59 [.ptr 0 0, (Pl.mk 2 m kids ex cols wth agg rds).av] [(.var 0, .n 3), (.cell 0 0, .av (vv (.int .i64 (w)))), (.cell 0 1, .av (.p (.ps (S.map srow)))), (.cell 0 2, .av (.sl 1 (A).length 0 (nd))), (.arr 1, .arr 45 1 ((A).map srow) 0)] (.p (.ps ([].map trow))) [(.var 0, .n 3), (.cell 0 0, .av (vv (.int .i64 (unlessF w false 1)))), (.cell 0 1, .av (.p (.ps (S.map srow)))), (.cell 0 2, .av (.sl 1 (A).length 0 (nd))), (.arr 1, .arr 45 1 ((A).map srow) 0)] := by
  refine sk Try.func59 ?_
  intro F G hn hG
  refine sq ?_
  refine rg 1000 ?_
  refine pr [0, 3, 4, 5, 6, 7, 8, 9, 10, 11, 12, 13, 14, 15, 16, 17, 18, 19, 20, 21, 22, 23, 24, 25, 26, 27, 28, 29, 30, 31, 32, 33, 34, 35, 36, 37, 38, 39, 40, 41, 42, 43, 44, 45, 46, 47, 48, 49, 50, 51, 52, 53, 54, 55, 56, 57, 58, 59, 60, 61, 62, 63, 65, 66, 67, 68, 69, 70, 71, 72, 73, 74, 75, 76, 77, 78, 79, 80, 81, 82, 83, 84, 86, 87, 88, 89, 90, 91, 92, 93, 94, 95, 96, 97, 98, 99, 100, 101, 102, 103, 104, 105, 106, 107, 109, 110, 111, 112, 113, 114, 115, 116, 117, 118, 119, 120, 121, 122, 124] ?_
  refine sq ?_
  refine sq ?_
  refine rg 2000 ?_
  refine pr [0, 3, 4, 5, 6, 7, 8, 10, 11, 12, 13, 14, 15, 16, 17, 18, 19, 20, 21, 22, 23, 24, 25, 26, 27, 28, 29, 30, 31, 32, 33, 34, 35, 36, 37, 38, 39, 40, 41, 42, 43, 44, 45, 46, 47, 48, 49, 50, 51, 52, 53, 54, 55, 56, 57, 58, 59, 60, 61, 62, 63, 65, 66, 67, 68, 69, 70, 71, 72, 73, 74, 75, 76, 77, 78, 79, 80, 81, 82, 83, 84, 86, 87, 88, 89, 90, 91, 92, 93, 94, 95, 96, 97, 98, 99, 100, 101, 102, 103, 104, 105, 106, 107, 109, 110, 111, 112, 113, 114, 115, 116, 117, 118, 119, 120, 121, 122, 124] ?_
  refine k_block ?_
  refine sq ?_
  refine rg 3000 ?_
  refine pr [0, 3, 4, 5, 6, 7, 8, 10, 11, 13, 14, 15, 16, 17, 18, 19, 20, 21, 22, 23, 24, 25, 26, 27, 28, 29, 30, 31, 32, 33, 34, 35, 36, 37, 38, 39, 40, 41, 42, 43, 44, 45, 46, 47, 48, 49, 50, 51, 52, 53, 54, 55, 56, 57, 58, 59, 60, 61, 62, 63, 65, 66, 67, 68, 69, 70, 71, 72, 73, 74, 75, 76, 77, 78, 79, 80, 81, 82, 83, 84, 86, 87, 88, 89, 90, 91, 92, 93, 94, 95, 96, 97, 98, 99, 100, 101, 102, 103, 104, 105, 106, 107, 109, 110, 111, 112, 113, 114, 115, 116, 117, 118, 119, 120, 121, 122, 124] ?_
  refine ce ?_
  refine sq ?_
  refine rg 5000 ?_
  refine pr [0, 3, 4, 5, 6, 7, 8, 21, 23, 24, 25, 26, 27, 28, 29, 30, 31, 32, 33, 34, 35, 36, 37, 38, 39, 40, 41, 42, 43, 44, 45, 46, 47, 48, 49, 50, 51, 52, 53, 54, 55, 56, 57, 58, 59, 60, 61, 62, 63, 65, 66, 67, 68, 69, 70, 71, 72, 73, 74, 75, 76, 77, 78, 79, 80, 81, 82, 83, 84, 86, 87, 88, 89, 90, 91, 92, 93, 94, 95, 96, 97, 98, 99, 100, 101, 102, 103, 104, 105, 106, 107, 109, 110, 111, 112, 113, 114, 115, 116, 117, 118, 119, 120, 121, 122, 124] ?_
  refine ct ?_
  refine sq ?_
  refine sq ?_
  refine rg 6000 ?_
  refine pr [0, 3, 4, 5, 6, 7, 8, 25, 26, 27, 28, 29, 30, 31, 32, 33, 34, 35, 36, 37, 38, 39, 40, 41, 42, 43, 44, 45, 46, 47, 48, 49, 50, 51, 52, 53, 54, 55, 56, 57, 58, 59, 60, 61, 62, 63, 65, 66, 67, 68, 69, 70, 71, 72, 73, 74, 75, 76, 77, 78, 79, 80, 81, 82, 83, 84, 86, 87, 88, 89, 90, 91, 92, 93, 94, 95, 96, 97, 98, 99, 100, 101, 102, 103, 104, 105, 106, 107, 109, 110, 111, 112, 113, 114, 115, 116, 117, 118, 119, 120, 121, 122, 124] ?_
  refine ct ?_
  refine sq ?_
  refine rc 7000 ?_
  refine oc id (spec109 S A nd [] 0 w) ?_
  refine oe 7100 ?_
  refine on ?_
  refine pr [0, 3, 4, 5, 6, 7, 8, 28, 29, 30, 31, 32, 33, 34, 35, 36, 37, 38, 39, 40, 41, 42, 43, 44, 45, 46, 47, 48, 49, 50, 51, 52, 53, 54, 55, 56, 57, 58, 59, 60, 61, 62, 63, 65, 66, 67, 68, 69, 70, 71, 72, 73, 74, 75, 76, 77, 78, 79, 80, 81, 82, 83, 84, 86, 87, 88, 89, 90, 91, 92, 93, 94, 95, 96, 97, 98, 99, 100, 101, 102, 103, 104, 105, 106, 107, 109, 110, 111, 112, 113, 114, 115, 116, 117, 118, 119, 120, 121, 122, 124] ?_
  refine k_ret ?_
  show retQ _ _ _ _ _ _ _
  simp [*, oneR, oneW, offI]

attribute [local simp] Pl.av in
theorem spec59_2 (S A : List (List Int)) (nd : Nat) (m : Int) (kids : List Pl) (ex : List E) (cols wth : List Int) (agg rds : Int) (w : Int) (hnA : nd ≤ A.length) (hm : decide (m < 0) = false) : Flat.Sp Try.prog 59 [.ptr 0 0, (Pl.mk 2 m kids ex cols wth agg rds).av] [(.var 0, .n 3), (.cell 0 0, .av (vv (.int .i64 (w)))), (.cell 0 1, .av (.p (.ps (S.map srow)))), (.cell 0 2, .av (.sl 1 (A).length 0 (nd))), (.arr 1, .arr 45 1 ((A).map srow) 0)] (.p (.ps ((oneR (A.take nd) (varI nd m)).map trow))) [(.var 0, .n 3), (.cell 0 0, .av (vv (.int .i64 (oneW (A.take nd) (varI nd m) w)))), (.cell 0 1, .av (.p (.ps (S.map srow)))), (.cell 0 2, .av (.sl 1 (A).length 0 (nd))), (.arr 1, .arr 45 1 ((A).map srow) 0)] := by
  refine sk Try.func59 ?_
  intro F G hn hG
  refine sq ?_
  refine rg 1000 ?_
  refine pr [0, 3, 4, 5, 6, 7, 8, 9, 10, 11, 12, 13, 14, 15, 16, 17, 18, 19, 20, 21, 22, 23, 24, 25, 26, 27, 28, 29, 30, 31, 32, 33, 34, 35, 36, 37, 38, 39, 40, 41, 42, 43, 44, 45, 46, 47, 48, 49, 50, 51, 52, 53, 54, 55, 56, 57, 58, 59, 60, 61, 62, 63, 65, 66, 67, 68, 69, 70, 71, 72, 73, 74, 75, 76, 77, 78, 79, 80, 81, 82, 83, 84, 86, 87, 88, 89, 90, 91, 92, 93, 94, 95, 96, 97, 98, 99, 100, 101, 102, 103, 104, 105, 106, 107, 109, 110, 111, 112, 113, 114, 115, 116, 117, 118, 119, 120, 121, 122, 124] ?_
  refine sq ?_
  refine sq ?_
  refine rg 2000 ?_
  refine pr [0, 3, 4, 5, 6, 7, 8, 10, 11, 12, 13, 14, 15, 16, 17, 18, 19, 20, 21, 22, 23, 24, 25, 26, 27, 28, 29, 30, 31, 32, 33, 34, 35, 36, 37, 38, 39, 40, 41, 42, 43, 44, 45, 46, 47, 48, 49, 50, 51, 52, 53, 54, 55, 56, 57, 58, 59, 60, 61, 62, 63, 65, 66, 67, 68, 69, 70, 71, 72, 73, 74, 75, 76, 77, 78, 79, 80, 81, 82, 83, 84, 86, 87, 88, 89, 90, 91, 92, 93, 94, 95, 96, 97, 98, 99, 100, 101, 102, 103, 104, 105, 106, 107, 109, 110, 111, 112, 113, 114, 115, 116, 117, 118, 119, 120, 121, 122, 124] ?_
  refine k_block ?_
  refine sq ?_
  refine rg 3000 ?_
  refine pr [0, 3, 4, 5, 6, 7, 8, 10, 11, 13, 14, 15, 16, 17, 18, 19, 20, 21, 22, 23, 24, 25, 26, 27, 28, 29, 30, 31, 32, 33, 34, 35, 36, 37, 38, 39, 40, 41, 42, 43, 44, 45, 46, 47, 48, 49, 50, 51, 52, 53, 54, 55, 56, 57, 58, 59, 60, 61, 62, 63, 65, 66, 67, 68, 69, 70, 71, 72, 73, 74, 75, 76, 77, 78, 79, 80, 81, 82, 83, 84, 86, 87, 88, 89, 90, 91, 92, 93, 94, 95, 96, 97, 98, 99, 100, 101, 102, 103, 104, 105, 106, 107, 109, 110, 111, 112, 113, 114, 115, 116, 117, 118, 119, 120, 121, 122, 124] ?_
  refine ce ?_
  refine sq ?_
  refine rg 5000 ?_
  refine pr [0, 3, 4, 5, 6, 7, 8, 21, 23, 24, 25, 26, 27, 28, 29, 30, 31, 32, 33, 34, 35, 36, 37, 38, 39, 40, 41, 42, 43, 44, 45, 46, 47, 48, 49, 50, 51, 52, 53, 54, 55, 56, 57, 58, 59, 60, 61, 62, 63, 65, 66, 67, 68, 69, 70, 71, 72, 73, 74, 75, 76, 77, 78, 79, 80, 81, 82, 83, 84, 86, 87, 88, 89, 90, 91, 92, 93, 94, 95, 96, 97, 98, 99, 100, 101, 102, 103, 104, 105, 106, 107, 109, 110, 111, 112, 113, 114, 115, 116, 117, 118, 119, 120, 121, 122, 124] ?_
  refine ct ?_
  refine sq ?_
  refine sq ?_
  refine rg 6000 ?_
  refine pr [0, 3, 4, 5, 6, 7, 8, 25, 26, 27, 28, 29, 30, 31, 32, 33, 34, 35, 36, 37, 38, 39, 40, 41, 42, 43, 44, 45, 46, 47, 48, 49, 50, 51, 52, 53, 54, 55, 56, 57, 58, 59, 60, 61, 62, 63, 65, 66, 67, 68, 69, 70, 71, 72, 73, 74, 75, 76, 77, 78, 79, 80, 81, 82, 83, 84, 86, 87, 88, 89, 90, 91, 92, 93, 94, 95, 96, 97, 98, 99, 100, 101, 102, 103, 104, 105, 106, 107, 109, 110, 111, 112, 113, 114, 115, 116, 117, 118, 119, 120, 121, 122, 124] ?_
  refine ce ?_
  refine k_skip ?_
  refine sq ?_
  refine dr ?_
  refine de 8000 ?_
  refine dc id (spec109o S A nd hnA (varI nd m) w) ?_ (hg := by simp [*, varI]) (hf := by simp [*, varI]; exact is_rfl _) (hx := by simp [*, varI]; exact is_rfl _) (hargs := by simp [*, varI]) (hB := by simp [*, varI]) (hL := by simp [*, varI]) (hd := by simp [*, varI]; exact is_rfl _)
  refine de 8100 ?_
  refine dn ?_
  refine pr [0, 3, 4, 5, 6, 7, 8, 43, 44, 45, 46, 47, 48, 49, 50, 51, 52, 53, 54, 55, 56, 57, 58, 59, 60, 61, 62, 63, 65, 66, 67, 68, 69, 70, 71, 72, 73, 74, 75, 76, 77, 78, 79, 80, 81, 82, 83, 84, 86, 87, 88, 89, 90, 91, 92, 93, 94, 95, 96, 97, 98, 99, 100, 101, 102, 103, 104, 105, 106, 107, 109, 110, 111, 112, 113, 114, 115, 116, 117, 118, 119, 120, 121, 122, 124] ?_
  refine k_ret ?_
  show retQ _ _ _ _ _ _ _
  simp [*, varI]

attribute [local simp] Pl.av in
theorem spec59_err (S A : List (List Int)) (nd : Nat) (k m : Int) (kids : List Pl) (ex : List E) (cols wth : List Int) (agg rds : Int) (l : List (List Int)) (hk1 : (k == 1) = false) (hk2 : (k == 2) = false) (w w1 : Int) (A1 : List (List Int)) (hK : Flat.Sp Try.prog 110 [.ptr 0 0, (Pl.mk k m kids ex cols wth agg rds).av] [(.var 0, .n 3), (.cell 0 0, .av (vv (.int .i64 (w)))), (.cell 0 1, .av (.p (.ps (S.map srow)))), (.cell 0 2, .av (.sl 1 (A).length 0 (nd))), (.arr 1, .arr 45 1 ((A).map srow) 0)] (.p (.ps (l.map srow))) [(.var 0, .n 3), (.cell 0 0, .av (vv (.int .i64 (w1)))), (.cell 0 1, .av (.p (.ps (S.map srow)))), (.cell 0 2, .av (.sl 1 (A1).length 0 (nd))), (.arr 1, .arr 45 1 ((A1).map srow) 0)]) (hw1 : (w1 != 0) = true) : Flat.Sp Try.prog 59 [.ptr 0 0, (Pl.mk k m kids ex cols wth agg rds).av] [(.var 0, .n 3), (.cell 0 0, .av (vv (.int .i64 (w)))), (.cell 0 1, .av (.p (.ps (S.map srow)))), (.cell 0 2, .av (.sl 1 (A).length 0 (nd))), (.arr 1, .arr 45 1 ((A).map srow) 0)] (.p (.ps ([].map trow))) [(.var 0, .n 3), (.cell 0 0, .av (vv (.int .i64 (w1)))), (.cell 0 1, .av (.p (.ps (S.map srow)))), (.cell 0 2, .av (.sl 1 (A1).length 0 (nd))), (.arr 1, .arr 45 1 ((A1).map srow) 0)] := by
  refine sk Try.func59 ?_
  intro F G hn hG
  refine sq ?_
  refine rg 1000 ?_
  refine pr [0, 3, 4, 5, 6, 7, 8, 9, 10, 11, 12, 13, 14, 15, 16, 17, 18, 19, 20, 21, 22, 23, 24, 25, 26, 27, 28, 29, 30, 31, 32, 33, 34, 35, 36, 37, 38, 39, 40, 41, 42, 43, 44, 45, 46, 47, 48, 49, 50, 51, 52, 53, 54, 55, 56, 57, 58, 59, 60, 61, 62, 63, 65, 66, 67, 68, 69, 70, 71, 72, 73, 74, 75, 76, 77, 78, 79, 80, 81, 82, 83, 84, 86, 87, 88, 89, 90, 91, 92, 93, 94, 95, 96, 97, 98, 99, 100, 101, 102, 103, 104, 105, 106, 107, 109, 110, 111, 112, 113, 114, 115, 116, 117, 118, 119, 120, 121, 122, 124] ?_
  refine sq ?_
  refine sq ?_
  refine rg 2000 ?_
  refine pr [0, 3, 4, 5, 6, 7, 8, 10, 11, 12, 13, 14, 15, 16, 17, 18, 19, 20, 21, 22, 23, 24, 25, 26, 27, 28, 29, 30, 31, 32, 33, 34, 35, 36, 37, 38, 39, 40, 41, 42, 43, 44, 45, 46, 47, 48, 49, 50, 51, 52, 53, 54, 55, 56, 57, 58, 59, 60, 61, 62, 63, 65, 66, 67, 68, 69, 70, 71, 72, 73, 74, 75, 76, 77, 78, 79, 80, 81, 82, 83, 84, 86, 87, 88, 89, 90, 91, 92, 93, 94, 95, 96, 97, 98, 99, 100, 101, 102, 103, 104, 105, 106, 107, 109, 110, 111, 112, 113, 114, 115, 116, 117, 118, 119, 120, 121, 122, 124] ?_
  refine k_block ?_
  refine sq ?_
  refine rg 3000 ?_
  refine pr [0, 3, 4, 5, 6, 7, 8, 10, 11, 13, 14, 15, 16, 17, 18, 19, 20, 21, 22, 23, 24, 25, 26, 27, 28, 29, 30, 31, 32, 33, 34, 35, 36, 37, 38, 39, 40, 41, 42, 43, 44, 45, 46, 47, 48, 49, 50, 51, 52, 53, 54, 55, 56, 57, 58, 59, 60, 61, 62, 63, 65, 66, 67, 68, 69, 70, 71, 72, 73, 74, 75, 76, 77, 78, 79, 80, 81, 82, 83, 84, 86, 87, 88, 89, 90, 91, 92, 93, 94, 95, 96, 97, 98, 99, 100, 101, 102, 103, 104, 105, 106, 107, 109, 110, 111, 112, 113, 114, 115, 116, 117, 118, 119, 120, 121, 122, 124] ?_
  refine ce ?_
  refine sq ?_
  refine rg 5000 ?_
  refine pr [0, 3, 4, 5, 6, 7, 8, 21, 23, 24, 25, 26, 27, 28, 29, 30, 31, 32, 33, 34, 35, 36, 37, 38, 39, 40, 41, 42, 43, 44, 45, 46, 47, 48, 49, 50, 51, 52, 53, 54, 55, 56, 57, 58, 59, 60, 61, 62, 63, 65, 66, 67, 68, 69, 70, 71, 72, 73, 74, 75, 76, 77, 78, 79, 80, 81, 82, 83, 84, 86, 87, 88, 89, 90, 91, 92, 93, 94, 95, 96, 97, 98, 99, 100, 101, 102, 103, 104, 105, 106, 107, 109, 110, 111, 112, 113, 114, 115, 116, 117, 118, 119, 120, 121, 122, 124] ?_
  refine ce ?_
  refine k_skip ?_
  refine k_nil ?_
  show AK _ _ _ _ _ _
  refine sq ?_
  refine rc 9000 ?_
  refine oc id (hK) ?_
  refine oe 9100 ?_
  refine on ?_
  refine pr [0, 3, 4, 5, 6, 7, 8, 46, 47, 48, 49, 50, 51, 52, 53, 54, 55, 56, 57, 58, 59, 60, 61, 62, 63, 65, 66, 67, 68, 69, 70, 71, 72, 73, 74, 75, 76, 77, 78, 79, 80, 81, 82, 83, 84, 86, 87, 88, 89, 90, 91, 92, 93, 94, 95, 96, 97, 98, 99, 100, 101, 102, 103, 104, 105, 106, 107, 109, 110, 111, 112, 113, 114, 115, 116, 117, 118, 119, 120, 121, 122, 124] ?_
  refine sq ?_
  refine sq ?_
  refine rg 10000 ?_
  refine pr [0, 3, 4, 5, 6, 7, 8, 51, 52, 53, 54, 55, 56, 57, 58, 59, 60, 61, 62, 63, 65, 66, 67, 68, 69, 70, 71, 72, 73, 74, 75, 76, 77, 78, 79, 80, 81, 82, 83, 84, 86, 87, 88, 89, 90, 91, 92, 93, 94, 95, 96, 97, 98, 99, 100, 101, 102, 103, 104, 105, 106, 107, 109, 110, 111, 112, 113, 114, 115, 116, 117, 118, 119, 120, 121, 122, 124] ?_
  refine ct ?_
  refine sq ?_
  refine rg 11000 ?_
  refine pr [0, 3, 4, 5, 6, 7, 8, 52, 53, 54, 55, 56, 57, 58, 59, 60, 61, 62, 63, 65, 66, 67, 68, 69, 70, 71, 72, 73, 74, 75, 76, 77, 78, 79, 80, 81, 82, 83, 84, 86, 87, 88, 89, 90, 91, 92, 93, 94, 95, 96, 97, 98, 99, 100, 101, 102, 103, 104, 105, 106, 107, 109, 110, 111, 112, 113, 114, 115, 116, 117, 118, 119, 120, 121, 122, 124] ?_
  refine k_ret ?_
  show retQ _ _ _ _ _ _ _
  simp [*]

attribute [local simp] Pl.av in
theorem spec59_3 (S A : List (List Int)) (nd : Nat) (m : Int) (kids : List Pl) (ex : List E) (cols wth : List Int) (agg rds : Int) (o : List Int) (ho8 : o.length ≤ 8) (he : ex.length ≤ Bnd) (w w1 : Int) (A1 : List (List Int)) (hK : Flat.Sp Try.prog 110 [.ptr 0 0, (Pl.mk 3 m kids ex cols wth agg rds).av] [(.var 0, .n 3), (.cell 0 0, .av (vv (.int .i64 (w)))), (.cell 0 1, .av (.p (.ps (S.map srow)))), (.cell 0 2, .av (.sl 1 (A).length 0 (nd))), (.arr 1, .arr 45 1 ((A).map srow) 0)] (.p (.ps ([srow o]))) [(.var 0, .n 3), (.cell 0 0, .av (vv (.int .i64 (w1)))), (.cell 0 1, .av (.p (.ps (S.map srow)))), (.cell 0 2, .av (.sl 1 (A1).length 0 (nd))), (.arr 1, .arr 45 1 ((A1).map srow) 0)]) (hw1 : (w1 != 0) = false)  : Flat.Sp Try.prog 59 [.ptr 0 0, (Pl.mk 3 m kids ex cols wth agg rds).av] [(.var 0, .n 3), (.cell 0 0, .av (vv (.int .i64 (w)))), (.cell 0 1, .av (.p (.ps (S.map srow)))), (.cell 0 2, .av (.sl 1 (A).length 0 (nd))), (.arr 1, .arr 45 1 ((A).map srow) 0)] (.p (.ps ((ex.map (fun e => (inferE o e).1)).map trow))) [(.var 0, .n 3), (.cell 0 0, .av (vv (.int .i64 (unlessF (exsW o ex w1) (decide (((ex.map (fun e => (inferE o e).1)).length : Int) ≤ 8)) 2)))), (.cell 0 1, .av (.p (.ps (S.map srow)))), (.cell 0 2, .av (.sl 1 (A1).length 0 (nd))), (.arr 1, .arr 45 1 ((A1).map srow) 0)] := by
  refine sk Try.func59 ?_
  intro F G hn hG
  have hol : o.length ≤ Flat.lim := Nat.le_trans ho8 (by simp [Flat.lim])
  have hmm : (ex.map (fun e => (inferE o e).1)).map trow = ex.map (fun e => [PV.v (.int .u8 (inferE o e).1)]) := by simp [trow, Function.comp_def]
  refine sq ?_
  refine rg 1000 ?_
  refine pr [0, 3, 4, 5, 6, 7, 8, 9, 10, 11, 12, 13, 14, 15, 16, 17, 18, 19, 20, 21, 22, 23, 24, 25, 26, 27, 28, 29, 30, 31, 32, 33, 34, 35, 36, 37, 38, 39, 40, 41, 42, 43, 44, 45, 46, 47, 48, 49, 50, 51, 52, 53, 54, 55, 56, 57, 58, 59, 60, 61, 62, 63, 65, 66, 67, 68, 69, 70, 71, 72, 73, 74, 75, 76, 77, 78, 79, 80, 81, 82, 83, 84, 86, 87, 88, 89, 90, 91, 92, 93, 94, 95, 96, 97, 98, 99, 100, 101, 102, 103, 104, 105, 106, 107, 109, 110, 111, 112, 113, 114, 115, 116, 117, 118, 119, 120, 121, 122, 124] ?_
  refine sq ?_
  refine sq ?_
  refine rg 2000 ?_
  refine pr [0, 3, 4, 5, 6, 7, 8, 10, 11, 12, 13, 14, 15, 16, 17, 18, 19, 20, 21, 22, 23, 24, 25, 26, 27, 28, 29, 30, 31, 32, 33, 34, 35, 36, 37, 38, 39, 40, 41, 42, 43, 44, 45, 46, 47, 48, 49, 50, 51, 52, 53, 54, 55, 56, 57, 58, 59, 60, 61, 62, 63, 65, 66, 67, 68, 69, 70, 71, 72, 73, 74, 75, 76, 77, 78, 79, 80, 81, 82, 83, 84, 86, 87, 88, 89, 90, 91, 92, 93, 94, 95, 96, 97, 98, 99, 100, 101, 102, 103, 104, 105, 106, 107, 109, 110, 111, 112, 113, 114, 115, 116, 117, 118, 119, 120, 121, 122, 124] ?_
  refine k_block ?_
  refine sq ?_
  refine rg 3000 ?_
  refine pr [0, 3, 4, 5, 6, 7, 8, 10, 11, 13, 14, 15, 16, 17, 18, 19, 20, 21, 22, 23, 24, 25, 26, 27, 28, 29, 30, 31, 32, 33, 34, 35, 36, 37, 38, 39, 40, 41, 42, 43, 44, 45, 46, 47, 48, 49, 50, 51, 52, 53, 54, 55, 56, 57, 58, 59, 60, 61, 62, 63, 65, 66, 67, 68, 69, 70, 71, 72, 73, 74, 75, 76, 77, 78, 79, 80, 81, 82, 83, 84, 86, 87, 88, 89, 90, 91, 92, 93, 94, 95, 96, 97, 98, 99, 100, 101, 102, 103, 104, 105, 106, 107, 109, 110, 111, 112, 113, 114, 115, 116, 117, 118, 119, 120, 121, 122, 124] ?_
  refine ce ?_
  refine sq ?_
  refine rg 5000 ?_
  refine pr [0, 3, 4, 5, 6, 7, 8, 21, 23, 24, 25, 26, 27, 28, 29, 30, 31, 32, 33, 34, 35, 36, 37, 38, 39, 40, 41, 42, 43, 44, 45, 46, 47, 48, 49, 50, 51, 52, 53, 54, 55, 56, 57, 58, 59, 60, 61, 62, 63, 65, 66, 67, 68, 69, 70, 71, 72, 73, 74, 75, 76, 77, 78, 79, 80, 81, 82, 83, 84, 86, 87, 88, 89, 90, 91, 92, 93, 94, 95, 96, 97, 98, 99, 100, 101, 102, 103, 104, 105, 106, 107, 109, 110, 111, 112, 113, 114, 115, 116, 117, 118, 119, 120, 121, 122, 124] ?_
  refine ce ?_
  refine k_skip ?_
  refine k_nil ?_
  show AK _ _ _ _ _ _
  refine sq ?_
  refine rc 9000 ?_
  refine oc id (hK) ?_
  refine oe 9100 ?_
  refine on ?_
  refine pr [0, 3, 4, 5, 6, 7, 8, 46, 47, 48, 49, 50, 51, 52, 53, 54, 55, 56, 57, 58, 59, 60, 61, 62, 63, 65, 66, 67, 68, 69, 70, 71, 72, 73, 74, 75, 76, 77, 78, 79, 80, 81, 82, 83, 84, 86, 87, 88, 89, 90, 91, 92, 93, 94, 95, 96, 97, 98, 99, 100, 101, 102, 103, 104, 105, 106, 107, 109, 110, 111, 112, 113, 114, 115, 116, 117, 118, 119, 120, 121, 122, 124] ?_
  refine sq ?_
  refine sq ?_
  refine rg 10000 ?_
  refine pr [0, 3, 4, 5, 6, 7, 8, 51, 52, 53, 54, 55, 56, 57, 58, 59, 60, 61, 62, 63, 65, 66, 67, 68, 69, 70, 71, 72, 73, 74, 75, 76, 77, 78, 79, 80, 81, 82, 83, 84, 86, 87, 88, 89, 90, 91, 92, 93, 94, 95, 96, 97, 98, 99, 100, 101, 102, 103, 104, 105, 106, 107, 109, 110, 111, 112, 113, 114, 115, 116, 117, 118, 119, 120, 121, 122, 124] ?_
  refine ce ?_
  refine k_skip ?_
  refine sq ?_
  refine rg 12000 ?_ (h := by simp [*, srow]; exact is_rfl _)
  refine pr [0, 3, 4, 5, 6, 7, 8, 55, 56, 57, 58, 59, 60, 61, 62, 63, 65, 66, 67, 68, 69, 70, 71, 72, 73, 74, 75, 76, 77, 78, 79, 80, 81, 82, 83, 84, 86, 87, 88, 89, 90, 91, 92, 93, 94, 95, 96, 97, 98, 99, 100, 101, 102, 103, 104, 105, 106, 107, 109, 110, 111, 112, 113, 114, 115, 116, 117, 118, 119, 120, 121, 122, 124] ?_
  refine sq ?_
  refine sq ?_
  refine rg 13000 ?_
  refine pr [0, 3, 4, 5, 6, 7, 8, 56, 57, 58, 59, 60, 61, 62, 63, 65, 66, 67, 68, 69, 70, 71, 72, 73, 74, 75, 76, 77, 78, 79, 80, 81, 82, 83, 84, 86, 87, 88, 89, 90, 91, 92, 93, 94, 95, 96, 97, 98, 99, 100, 101, 102, 103, 104, 105, 106, 107, 109, 110, 111, 112, 113, 114, 115, 116, 117, 118, 119, 120, 121, 122, 124] ?_
  refine k_block ?_
  refine sq ?_
  refine rg 15000 ?_
  refine pr [0, 3, 4, 5, 6, 7, 8, 56, 57, 58, 59, 60, 61, 62, 63, 65, 67, 68, 69, 70, 71, 72, 73, 74, 75, 76, 77, 78, 79, 80, 81, 82, 83, 84, 86, 87, 88, 89, 90, 91, 92, 93, 94, 95, 96, 97, 98, 99, 100, 101, 102, 103, 104, 105, 106, 107, 109, 110, 111, 112, 113, 114, 115, 116, 117, 118, 119, 120, 121, 122, 124] ?_
  refine ct ?_
  refine rc 16000 ?_
  refine oc id (spec111 S A1 nd o hol ex he w1) ?_
  refine oe 16100 ?_
  refine on ?_
  refine k_nil ?_
  show AK _ _ _ _ _ _
  refine sq ?_
  refine dr ?_
  refine de 25000 ?_
  refine dc id (spec112 S A1 nd (exsW o ex w1) (decide (((ex.map (fun e => (inferE o e).1)).length : Int) ≤ 8)) 2) ?_
  refine dn ?_
  refine pr [4, 6, 124] ?_
  refine sq ?_
  refine rg 26000 ?_
  refine pr [4] ?_
  refine k_ret ?_
  show retQ _ _ _ _ _ _ _
  simp [*]

attribute [local simp] Pl.av in
theorem spec59_4 (S A : List (List Int)) (nd : Nat) (m : Int) (kids : List Pl) (e : E) (cols wth : List Int) (agg rds : Int) (o : List Int) (ho8 : o.length ≤ 8) (w w1 : Int) (A1 : List (List Int)) (hK : Flat.Sp Try.prog 110 [.ptr 0 0, (Pl.mk 4 m kids [e] cols wth agg rds).av] [(.var 0, .n 3), (.cell 0 0, .av (vv (.int .i64 (w)))), (.cell 0 1, .av (.p (.ps (S.map srow)))), (.cell 0 2, .av (.sl 1 (A).length 0 (nd))), (.arr 1, .arr 45 1 ((A).map srow) 0)] (.p (.ps ([srow o]))) [(.var 0, .n 3), (.cell 0 0, .av (vv (.int .i64 (w1)))), (.cell 0 1, .av (.p (.ps (S.map srow)))), (.cell 0 2, .av (.sl 1 (A1).length 0 (nd))), (.arr 1, .arr 45 1 ((A1).map srow) 0)]) (hw1 : (w1 != 0) = false)  : Flat.Sp Try.prog 59 [.ptr 0 0, (Pl.mk 4 m kids [e] cols wth agg rds).av] [(.var 0, .n 3), (.cell 0 0, .av (vv (.int .i64 (w)))), (.cell 0 1, .av (.p (.ps (S.map srow)))), (.cell 0 2, .av (.sl 1 (A).length 0 (nd))), (.arr 1, .arr 45 1 ((A).map srow) 0)] (.p (.ps ((o).map trow))) [(.var 0, .n 3), (.cell 0 0, .av (vv (.int .i64 (unlessF (unlessF (exsW o [e] w1) ((inferE o e).1 == 1) 11) (decide (((o).length : Int) ≤ 8)) 2)))), (.cell 0 1, .av (.p (.ps (S.map srow)))), (.cell 0 2, .av (.sl 1 (A1).length 0 (nd))), (.arr 1, .arr 45 1 ((A1).map srow) 0)] := by
  refine sk Try.func59 ?_
  intro F G hn hG
  have hol : o.length ≤ Flat.lim := Nat.le_trans ho8 (by simp [Flat.lim])
  refine sq ?_
  refine rg 1000 ?_
  refine pr [0, 3, 4, 5, 6, 7, 8, 9, 10, 11, 12, 13, 14, 15, 16, 17, 18, 19, 20, 21, 22, 23, 24, 25, 26, 27, 28, 29, 30, 31, 32, 33, 34, 35, 36, 37, 38, 39, 40, 41, 42, 43, 44, 45, 46, 47, 48, 49, 50, 51, 52, 53, 54, 55, 56, 57, 58, 59, 60, 61, 62, 63, 65, 66, 67, 68, 69, 70, 71, 72, 73, 74, 75, 76, 77, 78, 79, 80, 81, 82, 83, 84, 86, 87, 88, 89, 90, 91, 92, 93, 94, 95, 96, 97, 98, 99, 100, 101, 102, 103, 104, 105, 106, 107, 109, 110, 111, 112, 113, 114, 115, 116, 117, 118, 119, 120, 121, 122, 124] ?_
  refine sq ?_
  refine sq ?_
  refine rg 2000 ?_
  refine pr [0, 3, 4, 5, 6, 7, 8, 10, 11, 12, 13, 14, 15, 16, 17, 18, 19, 20, 21, 22, 23, 24, 25, 26, 27, 28, 29, 30, 31, 32, 33, 34, 35, 36, 37, 38, 39, 40, 41, 42, 43, 44, 45, 46, 47, 48, 49, 50, 51, 52, 53, 54, 55, 56, 57, 58, 59, 60, 61, 62, 63, 65, 66, 67, 68, 69, 70, 71, 72, 73, 74, 75, 76, 77, 78, 79, 80, 81, 82, 83, 84, 86, 87, 88, 89, 90, 91, 92, 93, 94, 95, 96, 97, 98, 99, 100, 101, 102, 103, 104, 105, 106, 107, 109, 110, 111, 112, 113, 114, 115, 116, 117, 118, 119, 120, 121, 122, 124] ?_
  refine k_block ?_
  refine sq ?_
  refine rg 3000 ?_
  refine pr [0, 3, 4, 5, 6, 7, 8, 10, 11, 13, 14, 15, 16, 17, 18, 19, 20, 21, 22, 23, 24, 25, 26, 27, 28, 29, 30, 31, 32, 33, 34, 35, 36, 37, 38, 39, 40, 41, 42, 43, 44, 45, 46, 47, 48, 49, 50, 51, 52, 53, 54, 55, 56, 57, 58, 59, 60, 61, 62, 63, 65, 66, 67, 68, 69, 70, 71, 72, 73, 74, 75, 76, 77, 78, 79, 80, 81, 82, 83, 84, 86, 87, 88, 89, 90, 91, 92, 93, 94, 95, 96, 97, 98, 99, 100, 101, 102, 103, 104, 105, 106, 107, 109, 110, 111, 112, 113, 114, 115, 116, 117, 118, 119, 120, 121, 122, 124] ?_
  refine ce ?_
  refine sq ?_
  refine rg 5000 ?_
  refine pr [0, 3, 4, 5, 6, 7, 8, 21, 23, 24, 25, 26, 27, 28, 29, 30, 31, 32, 33, 34, 35, 36, 37, 38, 39, 40, 41, 42, 43, 44, 45, 46, 47, 48, 49, 50, 51, 52, 53, 54, 55, 56, 57, 58, 59, 60, 61, 62, 63, 65, 66, 67, 68, 69, 70, 71, 72, 73, 74, 75, 76, 77, 78, 79, 80, 81, 82, 83, 84, 86, 87, 88, 89, 90, 91, 92, 93, 94, 95, 96, 97, 98, 99, 100, 101, 102, 103, 104, 105, 106, 107, 109, 110, 111, 112, 113, 114, 115, 116, 117, 118, 119, 120, 121, 122, 124] ?_
  refine ce ?_
  refine k_skip ?_
  refine k_nil ?_
  show AK _ _ _ _ _ _
  refine sq ?_
  refine rc 9000 ?_
  refine oc id (hK) ?_
  refine oe 9100 ?_
  refine on ?_
  refine pr [0, 3, 4, 5, 6, 7, 8, 46, 47, 48, 49, 50, 51, 52, 53, 54, 55, 56, 57, 58, 59, 60, 61, 62, 63, 65, 66, 67, 68, 69, 70, 71, 72, 73, 74, 75, 76, 77, 78, 79, 80, 81, 82, 83, 84, 86, 87, 88, 89, 90, 91, 92, 93, 94, 95, 96, 97, 98, 99, 100, 101, 102, 103, 104, 105, 106, 107, 109, 110, 111, 112, 113, 114, 115, 116, 117, 118, 119, 120, 121, 122, 124] ?_
  refine sq ?_
  refine sq ?_
  refine rg 10000 ?_
  refine pr [0, 3, 4, 5, 6, 7, 8, 51, 52, 53, 54, 55, 56, 57, 58, 59, 60, 61, 62, 63, 65, 66, 67, 68, 69, 70, 71, 72, 73, 74, 75, 76, 77, 78, 79, 80, 81, 82, 83, 84, 86, 87, 88, 89, 90, 91, 92, 93, 94, 95, 96, 97, 98, 99, 100, 101, 102, 103, 104, 105, 106, 107, 109, 110, 111, 112, 113, 114, 115, 116, 117, 118, 119, 120, 121, 122, 124] ?_
  refine ce ?_
  refine k_skip ?_
  refine sq ?_
  refine rg 12000 ?_ (h := by simp [*, srow]; exact is_rfl _)
  refine pr [0, 3, 4, 5, 6, 7, 8, 55, 56, 57, 58, 59, 60, 61, 62, 63, 65, 66, 67, 68, 69, 70, 71, 72, 73, 74, 75, 76, 77, 78, 79, 80, 81, 82, 83, 84, 86, 87, 88, 89, 90, 91, 92, 93, 94, 95, 96, 97, 98, 99, 100, 101, 102, 103, 104, 105, 106, 107, 109, 110, 111, 112, 113, 114, 115, 116, 117, 118, 119, 120, 121, 122, 124] ?_
  refine sq ?_
  refine sq ?_
  refine rg 13000 ?_
  refine pr [0, 3, 4, 5, 6, 7, 8, 56, 57, 58, 59, 60, 61, 62, 63, 65, 66, 67, 68, 69, 70, 71, 72, 73, 74, 75, 76, 77, 78, 79, 80, 81, 82, 83, 84, 86, 87, 88, 89, 90, 91, 92, 93, 94, 95, 96, 97, 98, 99, 100, 101, 102, 103, 104, 105, 106, 107, 109, 110, 111, 112, 113, 114, 115, 116, 117, 118, 119, 120, 121, 122, 124] ?_
  refine k_block ?_
  refine sq ?_
  refine rg 15000 ?_
  refine pr [0, 3, 4, 5, 6, 7, 8, 56, 57, 58, 59, 60, 61, 62, 63, 65, 67, 68, 69, 70, 71, 72, 73, 74, 75, 76, 77, 78, 79, 80, 81, 82, 83, 84, 86, 87, 88, 89, 90, 91, 92, 93, 94, 95, 96, 97, 98, 99, 100, 101, 102, 103, 104, 105, 106, 107, 109, 110, 111, 112, 113, 114, 115, 116, 117, 118, 119, 120, 121, 122, 124] ?_
  refine ce ?_
  refine sq ?_
  refine rg 17000 ?_
  refine pr [0, 3, 4, 5, 6, 7, 8, 56, 57, 58, 59, 60, 61, 62, 63, 72, 74, 75, 76, 77, 78, 79, 80, 81, 82, 83, 84, 86, 87, 88, 89, 90, 91, 92, 93, 94, 95, 96, 97, 98, 99, 100, 101, 102, 103, 104, 105, 106, 107, 109, 110, 111, 112, 113, 114, 115, 116, 117, 118, 119, 120, 121, 122, 124] ?_
  refine ct ?_
  refine dr ?_
  refine de 18000 ?_
  refine dc id (spec111 S A1 nd o hol [e] (by simp [Bnd]) w1) ?_
  refine de 18100 ?_
  refine dc id (spec112 S A1 nd (exsW o [e] w1) ((inferE o e).1 == 1) 11) ?_
  refine dn ?_
  refine k_nil ?_
  show AK _ _ _ _ _ _
  refine sq ?_
  refine dr ?_
  refine de 25000 ?_
  refine dc id (spec112 S A1 nd (unlessF (exsW o [e] w1) ((inferE o e).1 == 1) 11) (decide (((o).length : Int) ≤ 8)) 2) ?_
  refine dn ?_
  refine pr [4, 6, 124] ?_
  refine sq ?_
  refine rg 26000 ?_
  refine pr [4] ?_
  refine k_ret ?_
  show retQ _ _ _ _ _ _ _
  simp [*]

attribute [local simp] Pl.av in
theorem spec59_7 (S A : List (List Int)) (nd : Nat) (m : Int) (kids : List Pl) (ex : List E) (cols wth : List Int) (agg rds : Int) (o1 o2 : List Int) (ho1 : o1.length ≤ 8) (ho2 : o2.length ≤ 8) (hc : cols.length ≤ Bnd) (hw : wth.length ≤ Bnd) (w w1 : Int) (A1 : List (List Int)) (hK : Flat.Sp Try.prog 110 [.ptr 0 0, (Pl.mk 7 m kids ex cols wth agg rds).av] [(.var 0, .n 3), (.cell 0 0, .av (vv (.int .i64 (w)))), (.cell 0 1, .av (.p (.ps (S.map srow)))), (.cell 0 2, .av (.sl 1 (A).length 0 (nd))), (.arr 1, .arr 45 1 ((A).map srow) 0)] (.p (.ps ([srow o1, srow o2]))) [(.var 0, .n 3), (.cell 0 0, .av (vv (.int .i64 (w1)))), (.cell 0 1, .av (.p (.ps (S.map srow)))), (.cell 0 2, .av (.sl 1 (A1).length 0 (nd))), (.arr 1, .arr 45 1 ((A1).map srow) 0)]) (hw1 : (w1 != 0) = false)  : Flat.Sp Try.prog 59 [.ptr 0 0, (Pl.mk 7 m kids ex cols wth agg rds).av] [(.var 0, .n 3), (.cell 0 0, .av (vv (.int .i64 (w)))), (.cell 0 1, .av (.p (.ps (S.map srow)))), (.cell 0 2, .av (.sl 1 (A).length 0 (nd))), (.arr 1, .arr 45 1 ((A).map srow) 0)] (.p (.ps ((o1 ++ o2).map trow))) [(.var 0, .n 3), (.cell 0 0, .av (vv (.int .i64 (unlessF (unlessF (atL o2 wth (atL o1 cols w1).2).2 ((atL o1 cols w1).1 == (atL o2 wth (atL o1 cols w1).2).1) 11) (decide (((o1 ++ o2).length : Int) ≤ 8)) 2)))), (.cell 0 1, .av (.p (.ps (S.map srow)))), (.cell 0 2, .av (.sl 1 (A1).length 0 (nd))), (.arr 1, .arr 45 1 ((A1).map srow) 0)] := by
  refine sk Try.func59 ?_
  intro F G hn hG
  have hla := atL_len o1 cols w1
  have hlb := atL_len o2 wth (atL o1 cols w1).2
  have ht1 : ((atL o1 cols w1).1.map trow).take (atL o1 cols w1).1.length = (atL o1 cols w1).1.map trow := List.take_of_length_le (by simp)
  have ht2 : ((atL o2 wth (atL o1 cols w1).2).1.map trow).take (atL o2 wth (atL o1 cols w1).2).1.length = (atL o2 wth (atL o1 cols w1).2).1.map trow := List.take_of_length_le (by simp)
  refine sq ?_
  refine rg 1000 ?_
  refine pr [0, 3, 4, 5, 6, 7, 8, 9, 10, 11, 12, 13, 14, 15, 16, 17, 18, 19, 20, 21, 22, 23, 24, 25, 26, 27, 28, 29, 30, 31, 32, 33, 34, 35, 36, 37, 38, 39, 40, 41, 42, 43, 44, 45, 46, 47, 48, 49, 50, 51, 52, 53, 54, 55, 56, 57, 58, 59, 60, 61, 62, 63, 65, 66, 67, 68, 69, 70, 71, 72, 73, 74, 75, 76, 77, 78, 79, 80, 81, 82, 83, 84, 86, 87, 88, 89, 90, 91, 92, 93, 94, 95, 96, 97, 98, 99, 100, 101, 102, 103, 104, 105, 106, 107, 109, 110, 111, 112, 113, 114, 115, 116, 117, 118, 119, 120, 121, 122, 124] ?_
  refine sq ?_
  refine sq ?_
  refine rg 2000 ?_
  refine pr [0, 3, 4, 5, 6, 7, 8, 10, 11, 12, 13, 14, 15, 16, 17, 18, 19, 20, 21, 22, 23, 24, 25, 26, 27, 28, 29, 30, 31, 32, 33, 34, 35, 36, 37, 38, 39, 40, 41, 42, 43, 44, 45, 46, 47, 48, 49, 50, 51, 52, 53, 54, 55, 56, 57, 58, 59, 60, 61, 62, 63, 65, 66, 67, 68, 69, 70, 71, 72, 73, 74, 75, 76, 77, 78, 79, 80, 81, 82, 83, 84, 86, 87, 88, 89, 90, 91, 92, 93, 94, 95, 96, 97, 98, 99, 100, 101, 102, 103, 104, 105, 106, 107, 109, 110, 111, 112, 113, 114, 115, 116, 117, 118, 119, 120, 121, 122, 124] ?_
  refine k_block ?_
  refine sq ?_
  refine rg 3000 ?_
  refine pr [0, 3, 4, 5, 6, 7, 8, 10, 11, 13, 14, 15, 16, 17, 18, 19, 20, 21, 22, 23, 24, 25, 26, 27, 28, 29, 30, 31, 32, 33, 34, 35, 36, 37, 38, 39, 40, 41, 42, 43, 44, 45, 46, 47, 48, 49, 50, 51, 52, 53, 54, 55, 56, 57, 58, 59, 60, 61, 62, 63, 65, 66, 67, 68, 69, 70, 71, 72, 73, 74, 75, 76, 77, 78, 79, 80, 81, 82, 83, 84, 86, 87, 88, 89, 90, 91, 92, 93, 94, 95, 96, 97, 98, 99, 100, 101, 102, 103, 104, 105, 106, 107, 109, 110, 111, 112, 113, 114, 115, 116, 117, 118, 119, 120, 121, 122, 124] ?_
  refine ce ?_
  refine sq ?_
  refine rg 5000 ?_
  refine pr [0, 3, 4, 5, 6, 7, 8, 21, 23, 24, 25, 26, 27, 28, 29, 30, 31, 32, 33, 34, 35, 36, 37, 38, 39, 40, 41, 42, 43, 44, 45, 46, 47, 48, 49, 50, 51, 52, 53, 54, 55, 56, 57, 58, 59, 60, 61, 62, 63, 65, 66, 67, 68, 69, 70, 71, 72, 73, 74, 75, 76, 77, 78, 79, 80, 81, 82, 83, 84, 86, 87, 88, 89, 90, 91, 92, 93, 94, 95, 96, 97, 98, 99, 100, 101, 102, 103, 104, 105, 106, 107, 109, 110, 111, 112, 113, 114, 115, 116, 117, 118, 119, 120, 121, 122, 124] ?_
  refine ce ?_
  refine k_skip ?_
  refine k_nil ?_
  show AK _ _ _ _ _ _
  refine sq ?_
  refine rc 9000 ?_
  refine oc id (hK) ?_
  refine oe 9100 ?_
  refine on ?_
  refine pr [0, 3, 4, 5, 6, 7, 8, 46, 47, 48, 49, 50, 51, 52, 53, 54, 55, 56, 57, 58, 59, 60, 61, 62, 63, 65, 66, 67, 68, 69, 70, 71, 72, 73, 74, 75, 76, 77, 78, 79, 80, 81, 82, 83, 84, 86, 87, 88, 89, 90, 91, 92, 93, 94, 95, 96, 97, 98, 99, 100, 101, 102, 103, 104, 105, 106, 107, 109, 110, 111, 112, 113, 114, 115, 116, 117, 118, 119, 120, 121, 122, 124] ?_
  refine sq ?_
  refine sq ?_
  refine rg 10000 ?_
  refine pr [0, 3, 4, 5, 6, 7, 8, 51, 52, 53, 54, 55, 56, 57, 58, 59, 60, 61, 62, 63, 65, 66, 67, 68, 69, 70, 71, 72, 73, 74, 75, 76, 77, 78, 79, 80, 81, 82, 83, 84, 86, 87, 88, 89, 90, 91, 92, 93, 94, 95, 96, 97, 98, 99, 100, 101, 102, 103, 104, 105, 106, 107, 109, 110, 111, 112, 113, 114, 115, 116, 117, 118, 119, 120, 121, 122, 124] ?_
  refine ce ?_
  refine k_skip ?_
  refine sq ?_
  refine rg 12000 ?_ (h := by simp [*, srow]; exact is_rfl _)
  refine pr [0, 3, 4, 5, 6, 7, 8, 55, 56, 57, 58, 59, 60, 61, 62, 63, 65, 66, 67, 68, 69, 70, 71, 72, 73, 74, 75, 76, 77, 78, 79, 80, 81, 82, 83, 84, 86, 87, 88, 89, 90, 91, 92, 93, 94, 95, 96, 97, 98, 99, 100, 101, 102, 103, 104, 105, 106, 107, 109, 110, 111, 112, 113, 114, 115, 116, 117, 118, 119, 120, 121, 122, 124] ?_
  refine sq ?_
  refine sq ?_
  refine rg 13000 ?_
  refine pr [0, 3, 4, 5, 6, 7, 8, 56, 57, 58, 59, 60, 61, 62, 63, 65, 66, 67, 68, 69, 70, 71, 72, 73, 74, 75, 76, 77, 78, 79, 80, 81, 82, 83, 84, 86, 87, 88, 89, 90, 91, 92, 93, 94, 95, 96, 97, 98, 99, 100, 101, 102, 103, 104, 105, 106, 107, 109, 110, 111, 112, 113, 114, 115, 116, 117, 118, 119, 120, 121, 122, 124] ?_
  refine k_block ?_
  refine sq ?_
  refine rg 15000 ?_
  refine pr [0, 3, 4, 5, 6, 7, 8, 56, 57, 58, 59, 60, 61, 62, 63, 65, 67, 68, 69, 70, 71, 72, 73, 74, 75, 76, 77, 78, 79, 80, 81, 82, 83, 84, 86, 87, 88, 89, 90, 91, 92, 93, 94, 95, 96, 97, 98, 99, 100, 101, 102, 103, 104, 105, 106, 107, 109, 110, 111, 112, 113, 114, 115, 116, 117, 118, 119, 120, 121, 122, 124] ?_
  refine ce ?_
  refine sq ?_
  refine rg 17000 ?_
  refine pr [0, 3, 4, 5, 6, 7, 8, 56, 57, 58, 59, 60, 61, 62, 63, 72, 74, 75, 76, 77, 78, 79, 80, 81, 82, 83, 84, 86, 87, 88, 89, 90, 91, 92, 93, 94, 95, 96, 97, 98, 99, 100, 101, 102, 103, 104, 105, 106, 107, 109, 110, 111, 112, 113, 114, 115, 116, 117, 118, 119, 120, 121, 122, 124] ?_
  refine ce ?_
  refine sq ?_
  refine rg 19000 ?_
  refine pr [0, 3, 4, 5, 6, 7, 8, 56, 57, 58, 59, 60, 61, 62, 63, 86, 88, 89, 90, 91, 92, 93, 94, 95, 96, 97, 98, 99, 100, 101, 102, 103, 104, 105, 106, 107, 109, 110, 111, 112, 113, 114, 115, 116, 117, 118, 119, 120, 121, 122, 124] ?_
  refine ct ?_
  refine sq ?_
  refine dr ?_
  refine de 20000 ?_ (h := by simp [*, srow]; exact is_rfl _)
  refine dc (fun k => if k = 900 then 20500 else k) (spec113 S A1 nd o1 cols hc w1) ?_ (hg := by simp [*, srow]) (hf := by simp [*, srow]; exact is_rfl _) (hx := by simp [*, srow]; exact is_rfl _) (hargs := by simp [*, srow]) (hB := by simp [*, srow]) (hL := by simp [*, srow]) (hd := by simp [*, srow]; exact is_rfl _)
  refine de 20100 ?_ (h := by simp [*, srow]; exact is_rfl _)
  refine dc (fun k => if k = 900 then 20600 else k) (spec113 S A1 nd o2 wth hw (atL o1 cols w1).2) ?_ (hg := by simp [*, srow]) (hf := by simp [*, srow]; exact is_rfl _) (hx := by simp [*, srow]; exact is_rfl _) (hargs := by simp [*, srow]) (hB := by simp [*, srow]) (hL := by simp [*, srow]) (hd := by simp [*, srow]; exact is_rfl _)
  refine de 20200 ?_ (h := by simp [*, srow]; exact is_rfl _)
  refine dn ?_
  refine pr [0, 4, 5, 6, 7, 8, 102, 103, 104, 105, 106, 107, 109, 110, 117, 118, 119, 120, 121, 122, 124] ?_
  refine fz 20500 ?_
  refine fz 20600 ?_
  refine sq ?_
  refine dr ?_
  refine de 21000 ?_
  refine dc id (spec114 (atL o1 cols w1).1 (atL o2 wth (atL o1 cols w1).2).1 (Bnd_lim (Nat.le_trans hla hc))) ?_
  refine dc id (spec112 S A1 nd (atL o2 wth (atL o1 cols w1).2).2 ((atL o1 cols w1).1 == (atL o2 wth (atL o1 cols w1).2).1) 11) ?_
  refine dn ?_
  refine pr [0, 4, 5, 6, 109, 110, 117, 118, 119, 120, 121, 122, 124] ?_
  refine rc 22000 ?_ (h := by simp [*, srow]; exact is_rfl _)
  refine oc id (spec115 o1 o2 ho1 ho2) ?_ (hg := by simp [*, srow]) (hf := by simp [*, srow]; exact is_rfl _) (hx := by simp [*, srow]; exact is_rfl _) (hargs := by simp [*, srow]) (hB := by simp [*, srow]) (hL := by simp [*, srow]) (hd := by simp [*, srow]; exact is_rfl _)
  refine oe 22100 ?_ (h := by simp [*, srow]; exact is_rfl _)
  refine on ?_
  refine k_nil ?_
  show AK _ _ _ _ _ _
  refine sq ?_
  refine dr ?_
  refine de 25000 ?_
  refine dc id (spec112 S A1 nd (unlessF (atL o2 wth (atL o1 cols w1).2).2 ((atL o1 cols w1).1 == (atL o2 wth (atL o1 cols w1).2).1) 11) (decide (((o1 ++ o2).length : Int) ≤ 8)) 2) ?_
  refine dn ?_
  refine pr [4, 6, 124] ?_
  refine sq ?_
  refine rg 26000 ?_
  refine pr [4] ?_
  refine k_ret ?_
  show retQ _ _ _ _ _ _ _
  simp [*]

attribute [local simp] Pl.av in
theorem spec59_8 (S A : List (List Int)) (nd : Nat) (m : Int) (kids : List Pl) (ex : List E) (cols wth : List Int) (agg rds : Int) (o : List Int) (ho8 : o.length ≤ 8) (hc : cols.length ≤ Bnd) (w w1 : Int) (A1 : List (List Int)) (hK : Flat.Sp Try.prog 110 [.ptr 0 0, (Pl.mk 8 m kids ex cols wth agg rds).av] [(.var 0, .n 3), (.cell 0 0, .av (vv (.int .i64 (w)))), (.cell 0 1, .av (.p (.ps (S.map srow)))), (.cell 0 2, .av (.sl 1 (A).length 0 (nd))), (.arr 1, .arr 45 1 ((A).map srow) 0)] (.p (.ps ([srow o]))) [(.var 0, .n 3), (.cell 0 0, .av (vv (.int .i64 (w1)))), (.cell 0 1, .av (.p (.ps (S.map srow)))), (.cell 0 2, .av (.sl 1 (A1).length 0 (nd))), (.arr 1, .arr 45 1 ((A1).map srow) 0)]) (hw1 : (w1 != 0) = false)  : Flat.Sp Try.prog 59 [.ptr 0 0, (Pl.mk 8 m kids ex cols wth agg rds).av] [(.var 0, .n 3), (.cell 0 0, .av (vv (.int .i64 (w)))), (.cell 0 1, .av (.p (.ps (S.map srow)))), (.cell 0 2, .av (.sl 1 (A).length 0 (nd))), (.arr 1, .arr 45 1 ((A).map srow) 0)] (.p (.ps (((redR o cols m agg w1).1).map trow))) [(.var 0, .n 3), (.cell 0 0, .av (vv (.int .i64 (unlessF ((redR o cols m agg w1).2) (decide ((((redR o cols m agg w1).1).length : Int) ≤ 8)) 2)))), (.cell 0 1, .av (.p (.ps (S.map srow)))), (.cell 0 2, .av (.sl 1 (A1).length 0 (nd))), (.arr 1, .arr 45 1 ((A1).map srow) 0)] := by
  refine sk Try.func59 ?_
  intro F G hn hG
  refine sq ?_
  refine rg 1000 ?_
  refine pr [0, 3, 4, 5, 6, 7, 8, 9, 10, 11, 12, 13, 14, 15, 16, 17, 18, 19, 20, 21, 22, 23, 24, 25, 26, 27, 28, 29, 30, 31, 32, 33, 34, 35, 36, 37, 38, 39, 40, 41, 42, 43, 44, 45, 46, 47, 48, 49, 50, 51, 52, 53, 54, 55, 56, 57, 58, 59, 60, 61, 62, 63, 65, 66, 67, 68, 69, 70, 71, 72, 73, 74, 75, 76, 77, 78, 79, 80, 81, 82, 83, 84, 86, 87, 88, 89, 90, 91, 92, 93, 94, 95, 96, 97, 98, 99, 100, 101, 102, 103, 104, 105, 106, 107, 109, 110, 111, 112, 113, 114, 115, 116, 117, 118, 119, 120, 121, 122, 124] ?_
  refine sq ?_
  refine sq ?_
  refine rg 2000 ?_
  refine pr [0, 3, 4, 5, 6, 7, 8, 10, 11, 12, 13, 14, 15, 16, 17, 18, 19, 20, 21, 22, 23, 24, 25, 26, 27, 28, 29, 30, 31, 32, 33, 34, 35, 36, 37, 38, 39, 40, 41, 42, 43, 44, 45, 46, 47, 48, 49, 50, 51, 52, 53, 54, 55, 56, 57, 58, 59, 60, 61, 62, 63, 65, 66, 67, 68, 69, 70, 71, 72, 73, 74, 75, 76, 77, 78, 79, 80, 81, 82, 83, 84, 86, 87, 88, 89, 90, 91, 92, 93, 94, 95, 96, 97, 98, 99, 100, 101, 102, 103, 104, 105, 106, 107, 109, 110, 111, 112, 113, 114, 115, 116, 117, 118, 119, 120, 121, 122, 124] ?_
  refine k_block ?_
  refine sq ?_
  refine rg 3000 ?_
  refine pr [0, 3, 4, 5, 6, 7, 8, 10, 11, 13, 14, 15, 16, 17, 18, 19, 20, 21, 22, 23, 24, 25, 26, 27, 28, 29, 30, 31, 32, 33, 34, 35, 36, 37, 38, 39, 40, 41, 42, 43, 44, 45, 46, 47, 48, 49, 50, 51, 52, 53, 54, 55, 56, 57, 58, 59, 60, 61, 62, 63, 65, 66, 67, 68, 69, 70, 71, 72, 73, 74, 75, 76, 77, 78, 79, 80, 81, 82, 83, 84, 86, 87, 88, 89, 90, 91, 92, 93, 94, 95, 96, 97, 98, 99, 100, 101, 102, 103, 104, 105, 106, 107, 109, 110, 111, 112, 113, 114, 115, 116, 117, 118, 119, 120, 121, 122, 124] ?_
  refine ce ?_
  refine sq ?_
  refine rg 5000 ?_
  refine pr [0, 3, 4, 5, 6, 7, 8, 21, 23, 24, 25, 26, 27, 28, 29, 30, 31, 32, 33, 34, 35, 36, 37, 38, 39, 40, 41, 42, 43, 44, 45, 46, 47, 48, 49, 50, 51, 52, 53, 54, 55, 56, 57, 58, 59, 60, 61, 62, 63, 65, 66, 67, 68, 69, 70, 71, 72, 73, 74, 75, 76, 77, 78, 79, 80, 81, 82, 83, 84, 86, 87, 88, 89, 90, 91, 92, 93, 94, 95, 96, 97, 98, 99, 100, 101, 102, 103, 104, 105, 106, 107, 109, 110, 111, 112, 113, 114, 115, 116, 117, 118, 119, 120, 121, 122, 124] ?_
  refine ce ?_
  refine k_skip ?_
  refine k_nil ?_
  show AK _ _ _ _ _ _
  refine sq ?_
  refine rc 9000 ?_
  refine oc id (hK) ?_
  refine oe 9100 ?_
  refine on ?_
  refine pr [0, 3, 4, 5, 6, 7, 8, 46, 47, 48, 49, 50, 51, 52, 53, 54, 55, 56, 57, 58, 59, 60, 61, 62, 63, 65, 66, 67, 68, 69, 70, 71, 72, 73, 74, 75, 76, 77, 78, 79, 80, 81, 82, 83, 84, 86, 87, 88, 89, 90, 91, 92, 93, 94, 95, 96, 97, 98, 99, 100, 101, 102, 103, 104, 105, 106, 107, 109, 110, 111, 112, 113, 114, 115, 116, 117, 118, 119, 120, 121, 122, 124] ?_
  refine sq ?_
  refine sq ?_
  refine rg 10000 ?_
  refine pr [0, 3, 4, 5, 6, 7, 8, 51, 52, 53, 54, 55, 56, 57, 58, 59, 60, 61, 62, 63, 65, 66, 67, 68, 69, 70, 71, 72, 73, 74, 75, 76, 77, 78, 79, 80, 81, 82, 83, 84, 86, 87, 88, 89, 90, 91, 92, 93, 94, 95, 96, 97, 98, 99, 100, 101, 102, 103, 104, 105, 106, 107, 109, 110, 111, 112, 113, 114, 115, 116, 117, 118, 119, 120, 121, 122, 124] ?_
  refine ce ?_
  refine k_skip ?_
  refine sq ?_
  refine rg 12000 ?_ (h := by simp [*, srow]; exact is_rfl _)
  refine pr [0, 3, 4, 5, 6, 7, 8, 55, 56, 57, 58, 59, 60, 61, 62, 63, 65, 66, 67, 68, 69, 70, 71, 72, 73, 74, 75, 76, 77, 78, 79, 80, 81, 82, 83, 84, 86, 87, 88, 89, 90, 91, 92, 93, 94, 95, 96, 97, 98, 99, 100, 101, 102, 103, 104, 105, 106, 107, 109, 110, 111, 112, 113, 114, 115, 116, 117, 118, 119, 120, 121, 122, 124] ?_
  refine sq ?_
  refine sq ?_
  refine rg 13000 ?_
  refine pr [0, 3, 4, 5, 6, 7, 8, 56, 57, 58, 59, 60, 61, 62, 63, 65, 66, 67, 68, 69, 70, 71, 72, 73, 74, 75, 76, 77, 78, 79, 80, 81, 82, 83, 84, 86, 87, 88, 89, 90, 91, 92, 93, 94, 95, 96, 97, 98, 99, 100, 101, 102, 103, 104, 105, 106, 107, 109, 110, 111, 112, 113, 114, 115, 116, 117, 118, 119, 120, 121, 122, 124] ?_
  refine k_block ?_
  refine sq ?_
  refine rg 15000 ?_
  refine pr [0, 3, 4, 5, 6, 7, 8, 56, 57, 58, 59, 60, 61, 62, 63, 65, 67, 68, 69, 70, 71, 72, 73, 74, 75, 76, 77, 78, 79, 80, 81, 82, 83, 84, 86, 87, 88, 89, 90, 91, 92, 93, 94, 95, 96, 97, 98, 99, 100, 101, 102, 103, 104, 105, 106, 107, 109, 110, 111, 112, 113, 114, 115, 116, 117, 118, 119, 120, 121, 122, 124] ?_
  refine ce ?_
  refine sq ?_
  refine rg 17000 ?_
  refine pr [0, 3, 4, 5, 6, 7, 8, 56, 57, 58, 59, 60, 61, 62, 63, 72, 74, 75, 76, 77, 78, 79, 80, 81, 82, 83, 84, 86, 87, 88, 89, 90, 91, 92, 93, 94, 95, 96, 97, 98, 99, 100, 101, 102, 103, 104, 105, 106, 107, 109, 110, 111, 112, 113, 114, 115, 116, 117, 118, 119, 120, 121, 122, 124] ?_
  refine ce ?_
  refine sq ?_
  refine rg 19000 ?_
  refine pr [0, 3, 4, 5, 6, 7, 8, 56, 57, 58, 59, 60, 61, 62, 63, 86, 88, 89, 90, 91, 92, 93, 94, 95, 96, 97, 98, 99, 100, 101, 102, 103, 104, 105, 106, 107, 109, 110, 111, 112, 113, 114, 115, 116, 117, 118, 119, 120, 121, 122, 124] ?_
  refine ce ?_
  refine sq ?_
  refine rg 23000 ?_
  refine pr [0, 3, 4, 5, 6, 57, 58, 59, 60, 61, 62, 63, 111, 113, 114, 115, 116, 117, 118, 119, 120, 121, 122, 124] ?_
  refine ct ?_
  refine rc 24000 ?_
  refine oc id (spec116 S A1 nd 8 m kids ex cols wth agg rds hc o w1) ?_
  refine oe 24100 ?_
  refine on ?_
  refine k_nil ?_
  show AK _ _ _ _ _ _
  refine sq ?_
  refine dr ?_
  refine de 25000 ?_
  refine dc id (spec112 S A1 nd ((redR o cols m agg w1).2) (decide ((((redR o cols m agg w1).1).length : Int) ≤ 8)) 2) ?_
  refine dn ?_
  refine pr [4, 6, 124] ?_
  refine sq ?_
  refine rg 26000 ?_
  refine pr [4] ?_
  refine k_ret ?_
  show retQ _ _ _ _ _ _ _
  simp [*]

attribute [local simp] Pl.av in
theorem spec59_d (S A : List (List Int)) (nd : Nat) (k m : Int) (kids : List Pl) (ex : List E) (cols wth : List Int) (agg rds : Int) (o : List Int) (q : List (List Int)) (hql : (o :: q).length ≤ Flat.lim) (hq8 : ∀ s ∈ o :: q, s.length ≤ 8) (hk1 : (k == 1) = false) (hk2 : (k == 2) = false) (hk3 : (k == 3) = false) (hk4 : (k == 4) = false) (hk7 : (k == 7) = false) (hk8 : (k == 8) = false) (w w1 : Int) (A1 : List (List Int)) (hK : Flat.Sp Try.prog 110 [.ptr 0 0, (Pl.mk k m kids ex cols wth agg rds).av] [(.var 0, .n 3), (.cell 0 0, .av (vv (.int .i64 (w)))), (.cell 0 1, .av (.p (.ps (S.map srow)))), (.cell 0 2, .av (.sl 1 (A).length 0 (nd))), (.arr 1, .arr 45 1 ((A).map srow) 0)] (.p (.ps ((o :: q).map srow))) [(.var 0, .n 3), (.cell 0 0, .av (vv (.int .i64 (w1)))), (.cell 0 1, .av (.p (.ps (S.map srow)))), (.cell 0 2, .av (.sl 1 (A1).length 0 (nd))), (.arr 1, .arr 45 1 ((A1).map srow) 0)]) (hw1 : (w1 != 0) = false)  : Flat.Sp Try.prog 59 [.ptr 0 0, (Pl.mk k m kids ex cols wth agg rds).av] [(.var 0, .n 3), (.cell 0 0, .av (vv (.int .i64 (w)))), (.cell 0 1, .av (.p (.ps (S.map srow)))), (.cell 0 2, .av (.sl 1 (A).length 0 (nd))), (.arr 1, .arr 45 1 ((A).map srow) 0)] (.p (.ps ((o).map trow))) [(.var 0, .n 3), (.cell 0 0, .av (vv (.int .i64 (unlessF (unlessF w1 (!((o :: q).any (neS o))) 11) (decide (((o).length : Int) ≤ 8)) 2)))), (.cell 0 1, .av (.p (.ps (S.map srow)))), (.cell 0 2, .av (.sl 1 (A1).length 0 (nd))), (.arr 1, .arr 45 1 ((A1).map srow) 0)] := by
  refine sk Try.func59 ?_
  intro F G hn hG
  refine sq ?_
  refine rg 1000 ?_
  refine pr [0, 3, 4, 5, 6, 7, 8, 9, 10, 11, 12, 13, 14, 15, 16, 17, 18, 19, 20, 21, 22, 23, 24, 25, 26, 27, 28, 29, 30, 31, 32, 33, 34, 35, 36, 37, 38, 39, 40, 41, 42, 43, 44, 45, 46, 47, 48, 49, 50, 51, 52, 53, 54, 55, 56, 57, 58, 59, 60, 61, 62, 63, 65, 66, 67, 68, 69, 70, 71, 72, 73, 74, 75, 76, 77, 78, 79, 80, 81, 82, 83, 84, 86, 87, 88, 89, 90, 91, 92, 93, 94, 95, 96, 97, 98, 99, 100, 101, 102, 103, 104, 105, 106, 107, 109, 110, 111, 112, 113, 114, 115, 116, 117, 118, 119, 120, 121, 122, 124] ?_
  refine sq ?_
  refine sq ?_
  refine rg 2000 ?_
  refine pr [0, 3, 4, 5, 6, 7, 8, 10, 11, 12, 13, 14, 15, 16, 17, 18, 19, 20, 21, 22, 23, 24, 25, 26, 27, 28, 29, 30, 31, 32, 33, 34, 35, 36, 37, 38, 39, 40, 41, 42, 43, 44, 45, 46, 47, 48, 49, 50, 51, 52, 53, 54, 55, 56, 57, 58, 59, 60, 61, 62, 63, 65, 66, 67, 68, 69, 70, 71, 72, 73, 74, 75, 76, 77, 78, 79, 80, 81, 82, 83, 84, 86, 87, 88, 89, 90, 91, 92, 93, 94, 95, 96, 97, 98, 99, 100, 101, 102, 103, 104, 105, 106, 107, 109, 110, 111, 112, 113, 114, 115, 116, 117, 118, 119, 120, 121, 122, 124] ?_
  refine k_block ?_
  refine sq ?_
  refine rg 3000 ?_
  refine pr [0, 3, 4, 5, 6, 7, 8, 10, 11, 13, 14, 15, 16, 17, 18, 19, 20, 21, 22, 23, 24, 25, 26, 27, 28, 29, 30, 31, 32, 33, 34, 35, 36, 37, 38, 39, 40, 41, 42, 43, 44, 45, 46, 47, 48, 49, 50, 51, 52, 53, 54, 55, 56, 57, 58, 59, 60, 61, 62, 63, 65, 66, 67, 68, 69, 70, 71, 72, 73, 74, 75, 76, 77, 78, 79, 80, 81, 82, 83, 84, 86, 87, 88, 89, 90, 91, 92, 93, 94, 95, 96, 97, 98, 99, 100, 101, 102, 103, 104, 105, 106, 107, 109, 110, 111, 112, 113, 114, 115, 116, 117, 118, 119, 120, 121, 122, 124] ?_
  refine ce ?_
  refine sq ?_
  refine rg 5000 ?_
  refine pr [0, 3, 4, 5, 6, 7, 8, 21, 23, 24, 25, 26, 27, 28, 29, 30, 31, 32, 33, 34, 35, 36, 37, 38, 39, 40, 41, 42, 43, 44, 45, 46, 47, 48, 49, 50, 51, 52, 53, 54, 55, 56, 57, 58, 59, 60, 61, 62, 63, 65, 66, 67, 68, 69, 70, 71, 72, 73, 74, 75, 76, 77, 78, 79, 80, 81, 82, 83, 84, 86, 87, 88, 89, 90, 91, 92, 93, 94, 95, 96, 97, 98, 99, 100, 101, 102, 103, 104, 105, 106, 107, 109, 110, 111, 112, 113, 114, 115, 116, 117, 118, 119, 120, 121, 122, 124] ?_
  refine ce ?_
  refine k_skip ?_
  refine k_nil ?_
  show AK _ _ _ _ _ _
  refine sq ?_
  refine rc 9000 ?_
  refine oc id (hK) ?_
  refine oe 9100 ?_
  refine on ?_
  refine pr [0, 3, 4, 5, 6, 7, 8, 46, 47, 48, 49, 50, 51, 52, 53, 54, 55, 56, 57, 58, 59, 60, 61, 62, 63, 65, 66, 67, 68, 69, 70, 71, 72, 73, 74, 75, 76, 77, 78, 79, 80, 81, 82, 83, 84, 86, 87, 88, 89, 90, 91, 92, 93, 94, 95, 96, 97, 98, 99, 100, 101, 102, 103, 104, 105, 106, 107, 109, 110, 111, 112, 113, 114, 115, 116, 117, 118, 119, 120, 121, 122, 124] ?_
  refine sq ?_
  refine sq ?_
  refine rg 10000 ?_
  refine pr [0, 3, 4, 5, 6, 7, 8, 51, 52, 53, 54, 55, 56, 57, 58, 59, 60, 61, 62, 63, 65, 66, 67, 68, 69, 70, 71, 72, 73, 74, 75, 76, 77, 78, 79, 80, 81, 82, 83, 84, 86, 87, 88, 89, 90, 91, 92, 93, 94, 95, 96, 97, 98, 99, 100, 101, 102, 103, 104, 105, 106, 107, 109, 110, 111, 112, 113, 114, 115, 116, 117, 118, 119, 120, 121, 122, 124] ?_
  refine ce ?_
  refine k_skip ?_
  refine sq ?_
  refine rg 12000 ?_ (h := by simp [*, srow]; exact is_rfl _)
  refine pr [0, 3, 4, 5, 6, 7, 8, 55, 56, 57, 58, 59, 60, 61, 62, 63, 65, 66, 67, 68, 69, 70, 71, 72, 73, 74, 75, 76, 77, 78, 79, 80, 81, 82, 83, 84, 86, 87, 88, 89, 90, 91, 92, 93, 94, 95, 96, 97, 98, 99, 100, 101, 102, 103, 104, 105, 106, 107, 109, 110, 111, 112, 113, 114, 115, 116, 117, 118, 119, 120, 121, 122, 124] ?_
  refine sq ?_
  refine sq ?_
  refine rg 13000 ?_
  refine pr [0, 3, 4, 5, 6, 7, 8, 56, 57, 58, 59, 60, 61, 62, 63, 65, 66, 67, 68, 69, 70, 71, 72, 73, 74, 75, 76, 77, 78, 79, 80, 81, 82, 83, 84, 86, 87, 88, 89, 90, 91, 92, 93, 94, 95, 96, 97, 98, 99, 100, 101, 102, 103, 104, 105, 106, 107, 109, 110, 111, 112, 113, 114, 115, 116, 117, 118, 119, 120, 121, 122, 124] ?_
  refine k_block ?_
  refine sq ?_
  refine rg 15000 ?_
  refine pr [0, 3, 4, 5, 6, 7, 8, 56, 57, 58, 59, 60, 61, 62, 63, 65, 67, 68, 69, 70, 71, 72, 73, 74, 75, 76, 77, 78, 79, 80, 81, 82, 83, 84, 86, 87, 88, 89, 90, 91, 92, 93, 94, 95, 96, 97, 98, 99, 100, 101, 102, 103, 104, 105, 106, 107, 109, 110, 111, 112, 113, 114, 115, 116, 117, 118, 119, 120, 121, 122, 124] ?_
  refine ce ?_
  refine sq ?_
  refine rg 17000 ?_
  refine pr [0, 3, 4, 5, 6, 7, 8, 56, 57, 58, 59, 60, 61, 62, 63, 72, 74, 75, 76, 77, 78, 79, 80, 81, 82, 83, 84, 86, 87, 88, 89, 90, 91, 92, 93, 94, 95, 96, 97, 98, 99, 100, 101, 102, 103, 104, 105, 106, 107, 109, 110, 111, 112, 113, 114, 115, 116, 117, 118, 119, 120, 121, 122, 124] ?_
  refine ce ?_
  refine sq ?_
  refine rg 19000 ?_
  refine pr [0, 3, 4, 5, 6, 7, 8, 56, 57, 58, 59, 60, 61, 62, 63, 86, 88, 89, 90, 91, 92, 93, 94, 95, 96, 97, 98, 99, 100, 101, 102, 103, 104, 105, 106, 107, 109, 110, 111, 112, 113, 114, 115, 116, 117, 118, 119, 120, 121, 122, 124] ?_
  refine ce ?_
  refine sq ?_
  refine rg 23000 ?_
  refine pr [0, 3, 4, 5, 6, 57, 58, 59, 60, 61, 62, 63, 111, 113, 114, 115, 116, 117, 118, 119, 120, 121, 122, 124] ?_
  refine ce ?_
  refine dr ?_
  refine de 14000 ?_
  refine dk [12003] (fun _ => 12003) (spec62b (o :: q) o hql hq8) ?_
  refine de 14100 ?_
  refine dc id (spec112 S A1 nd w1 (!((o :: q).any (neS o))) 11) ?_
  refine dn ?_
  refine k_nil ?_
  show AK _ _ _ _ _ _
  refine sq ?_
  refine dr ?_
  refine de 25000 ?_
  refine dc id (spec112 S A1 nd (unlessF w1 (!((o :: q).any (neS o))) 11) (decide (((o).length : Int) ≤ 8)) 2) ?_
  refine dn ?_
  refine pr [4, 6, 124] ?_
  refine sq ?_
  refine rg 26000 ?_
  refine pr [4] ?_
  refine k_ret ?_
  show retQ _ _ _ _ _ _ _
  simp [*]

end Go.Proofs
end
section
set_option linter.unusedVariables false
set_option linter.unusedSimpArgs false
namespace Go.Proofs
open Go.Flat
set_option maxRecDepth 100000
set_option linter.unusedSimpArgs false
set_option linter.unusedVariables false
attribute [local simp] Bool.and_assoc Bool.or_assoc evalG evalX efD skF guardG guardL isCall stepL evalOp ev evs lk tmpsL app AV.ok fresh vv putCells insV ins del putL place Go.Flat.look fillC fillR getCells loadF storeF binF scalarBin intBin strBin isShift shiftBin unF lenF maxF minF rowsF appendF builtinF idxF natOf sliceP sliceF optEv Flat.cut overwrite toPV toPVs constAV scalarC scalarCs AV.cells TI.isAgg allSome andAll scalarEq buildable Go.Flat.lim retQ resL resAll resOne PartOf noTmp closedIn refs refs.refsL isSomeV hasB ids leA leA.leL renA renA.renL callB refsAll backL dropIds renS LiesAt injB ownB freshB memN locId insAll leA_refl leL_refl okS frzS frzA frzA.frzL evalD feet fine updCells cellsFrom memP footRf footWf noTmpU updIds opOps opIds idsA footR footW guardTs opTs dstTs callR callW renLoc renC inBlockQ thenQ Value.oneCell' IntKind.bits IntKind.signed

theorem formed_shape {k m : Int} {nk : Nat} {ex : List E} {cols wth : List Int} {agg rds : Int} (h : formedP k m nk ex cols wth agg rds = true) : okP1 k nk = true ∧ (k = 4 → ex.length = 1) := by
  have h2 : okP2 k m nk ex cols wth agg rds = true := by
    unfold formedP at h
    split at h
    · exact (Bool.and_eq_true _ _ ▸ h).1
    · split at h
      · exact (Bool.and_eq_true _ _ ▸ h).1
      · split at h
        · exact (Bool.and_eq_true _ _ ▸ h).1
        · exact h
  refine ⟨(Bool.and_eq_true _ _ ▸ h2).1, ?_⟩
  rintro rfl
  have : (okP2 4 m nk ex cols wth agg rds && ((ex.length : Int) == 1)) = true := h
  simp only [Bool.and_eq_true, beq_iff_eq] at this
  omega
theorem kinds {k : Int} {nk : Nat} (h : okP1 k nk = true) : ((k = 1 ∨ k = 2) ∧ nk = 0) ∨ ((k = 3 ∨ k = 4 ∨ k = 8) ∧ nk = 1) ∨ (k = 7 ∧ nk = 2) ∨ ((k == 1) = false ∧ (k == 2) = false ∧ (k == 3) = false ∧ (k == 4) = false ∧ (k == 7) = false ∧ (k == 8) = false ∧ 0 < nk ∧ ((k == 10) = true → nk = 2)) := by
  simp only [okP1, Bool.and_eq_true, decide_eq_true_eq] at h
  obtain ⟨h1, h2, h3⟩ := h
  have : k = 1 ∨ k = 2 ∨ k = 3 ∨ k = 4 ∨ k = 5 ∨ k = 6 ∨ k = 7 ∨ k = 8 ∨ k = 9 ∨ k = 10 := by omega
  rcases this with rfl | rfl | rfl | rfl | rfl | rfl | rfl | rfl | rfl | rfl <;> simp [manyP] at h3 ⊢ <;> omega
theorem one_of_len {α : Type} {l : List α} (h : l.length = 1) : ∃ x, l = [x] := List.length_eq_one_iff.1 h
theorem jdg_other (S : List (List Int)) {k : Int} (h1 : (k == 1) = false) (h2 : (k == 2) = false) (m : Int) (kids : List Pl) (ex : List E) (cols wth : List Int) (agg rds : Int) (nd : Nat) (w : Int) (A : List (List Int)) {l : List (List Int)} {w1 : Int} {A1 : List (List Int)} (hr : jdgK S k kids nd w A = (l, w1, A1)) :
    jdg S (.mk k m kids ex cols wth agg rds) nd w A = if w1 != 0 then ([], w1, A1) else ((finJ k m ex cols wth agg l w1).1, (finJ k m ex cols wth agg l w1).2, A1) := by
  rw [jdg]
  simp only [h1, h2, Bool.false_eq_true, if_false]
  unfold jdgK at hr
  rw [hr]

def JSp (S : List (List Int)) (p : Pl) (d : Nat) : Prop := ∀ (nd : Nat) (w : Int) (A : List (List Int)), nd < d → nd ≤ A.length → A.length ≤ 16 → Sh A nd w → Flat.Sp Try.prog 59 [.ptr 0 0, p.av] [(.var 0, .n 3), (.cell 0 0, .av (vv (.int .i64 (w)))), (.cell 0 1, .av (.p (.ps (S.map srow)))), (.cell 0 2, .av (.sl 1 (A).length 0 (nd))), (.arr 1, .arr 45 1 ((A).map srow) 0)] (.p (.ps ((jdg S p nd w A).1.map trow))) [(.var 0, .n 3), (.cell 0 0, .av (vv (.int .i64 ((jdg S p nd w A).2.1)))), (.cell 0 1, .av (.p (.ps (S.map srow)))), (.cell 0 2, .av (.sl 1 ((jdg S p nd w A).2.2).length 0 (nd))), (.arr 1, .arr 45 1 (((jdg S p nd w A).2.2).map srow) 0)]
theorem spec59 (S : List (List Int)) (hS : ∀ s ∈ S, s.length ≤ 8) : ∀ (p : Pl), p.bnd → ∀ d, p.good d → JSp S p d := by
  refine Pl.ind fun k m kids ex cols wth agg rds ih hb d hg nd w A hnd hnA hA hSh => ?_
  rw [Pl.good] at hg
  obtain ⟨hd, hf, hex, hgl⟩ := hg
  rw [Pl.bnd] at hb
  obtain ⟨hbk, hbe, hbc, hbw, hbl⟩ := hb
  obtain ⟨hok, he4⟩ := formed_shape hf
  have ih' : ∀ x ∈ kids, JSp S x (d + 1) := fun x hx => ih x hx (Pl.bndL_mem hbl x hx) (d + 1) (Pl.goodL_mem hgl x hx)
  have hK2 : (k == 10) = true → kids.length = 2 := by
    intro h10
    obtain rfl : k = 10 := eq_of_beq h10
    have := (kinds hok)
    simp at this
    exact this.2
  have hK := spec110 S A nd k m kids ex cols wth agg rds hK2 hbk hS d hd hgl hnd hnA hA w hSh ih'
  have hrow := jdgK_rows S k nd kids w A
  have hLO := jdgK_ok hS (k := k) hd hgl hnd hnA hA hSh
  obtain ⟨l, w1, A1, hr⟩ : ∃ l w1 A1, jdgK S k kids nd w A = (l, w1, A1) := ⟨_, _, _, rfl⟩
  rw [hr] at hK hrow hLO
  simp only at hK hrow
  rcases kinds hok with ⟨rfl | rfl, hn⟩ | ⟨h348, hn⟩ | ⟨rfl, hn⟩ | ⟨h1, h2, h3, h4, h7, h8, hn, -⟩
  · have : jdg S (.mk 1 m kids ex cols wth agg rds) nd w A = (oneR S m, oneW S m w, A) := by rw [jdg]; rfl
    rw [this]
    exact spec59_1 S A nd m kids ex cols wth agg rds w
  · cases hm : decide (m < 0) with
    | true =>
      have : jdg S (.mk 2 m kids ex cols wth agg rds) nd w A = ([], unlessF w false 1, A) := by rw [jdg, hm]; rfl
      rw [this]
      exact spec59_2n S A nd m kids ex cols wth agg rds w hm
    | false =>
      have : jdg S (.mk 2 m kids ex cols wth agg rds) nd w A = (oneR (A.take nd) (varI nd m), oneW (A.take nd) (varI nd m) w, A) := by rw [jdg, hm]; rfl
      rw [this]
      exact spec59_2 S A nd m kids ex cols wth agg rds w hnA hm
  · have h1 : (k == 1) = false := by rcases h348 with rfl | rfl | rfl <;> rfl
    have h2 : (k == 2) = false := by rcases h348 with rfl | rfl | rfl <;> rfl
    rw [jdg_other S h1 h2 m kids ex cols wth agg rds nd w A hr]
    cases hw : (w1 != 0) with
    | true => exact spec59_err S A nd k m kids ex cols wth agg rds l h1 h2 w w1 A1 hK hw
    | false =>
      obtain ⟨o, rfl⟩ := one_of_len (hrow.trans hn)
      have h8 := (hLO (by simpa using hw)).2
      have ho := h8 o (by simp)
      simp only [Bool.false_eq_true, if_false]
      rcases h348 with rfl | rfl | rfl
      · exact spec59_3 S A nd m kids ex cols wth agg rds o ho hbe w w1 A1 hK hw
      · obtain ⟨e, rfl⟩ := one_of_len (he4 rfl)
        exact spec59_4 S A nd m kids e cols wth agg rds o ho w w1 A1 hK hw
      · exact spec59_8 S A nd m kids ex cols wth agg rds o ho hbc w w1 A1 hK hw
  · rw [jdg_other S rfl rfl m kids ex cols wth agg rds nd w A hr]
    cases hw : (w1 != 0) with
    | true => exact spec59_err S A nd 7 m kids ex cols wth agg rds l rfl rfl w w1 A1 hK hw
    | false =>
      obtain ⟨o1, o2, rfl⟩ := Flat.two_of_length (hrow.trans hn)
      have h8 := (hLO (by simpa using hw)).2
      simp only [Bool.false_eq_true, if_false]
      exact spec59_7 S A nd m kids ex cols wth agg rds o1 o2 (h8 o1 (by simp)) (h8 o2 (by simp)) hbc hbw w w1 A1 hK hw
  · rw [jdg_other S h1 h2 m kids ex cols wth agg rds nd w A hr]
    cases hw : (w1 != 0) with
    | true => exact spec59_err S A nd k m kids ex cols wth agg rds l h1 h2 w w1 A1 hK hw
    | false =>
      obtain ⟨o, q, rfl⟩ : ∃ o q, l = o :: q := by
        cases l with
        | nil => simp at hrow; omega
        | cons o q => exact ⟨o, q, rfl⟩
      have hl8 := (hLO (by simpa using hw)).2
      simp only [Bool.false_eq_true, if_false]
      have hfin : finJ k m ex cols wth agg (o :: q) w1 = (o, unlessF (unlessF w1 (!((o :: q).any (neS o))) 11) (decide ((o.length : Int) ≤ 8)) 2) := by
        simp only [finJ, finR, h3, h4, h7, h8, Bool.false_eq_true, if_false]
        rfl
      rw [hfin]
      exact spec59_d S A nd k m kids ex cols wth agg rds o q (by rw [hrow]; exact Bnd_lim hbk) hl8 h1 h2 h3 h4 h7 h8 w w1 A1 hK hw

end Go.Proofs
end
section
set_option linter.unusedVariables false
set_option linter.unusedSimpArgs false
namespace Go.Proofs
open Go.Flat
theorem inferP_zero {ss : List (List Int)} {p : Pl} (h : (inferP ss p).2 = 0) : checkSch ss = 0 ∧ checkP p = 0 ∧ (jdg ss p 0 0 []).2.1 = 0 ∧ (inferP ss p).1 = (jdg ss p 0 0 []).1 := by
  unfold inferP at h ⊢
  split at h
  · rename_i h1; simp only at h; simp [h] at h1
  · rename_i h1
    rw [if_neg h1]
    split at h
    · rename_i h2; simp only at h; simp [h] at h2
    · rename_i h2
      rw [if_neg h2]
      split at h
      · rename_i h3; simp only at h; simp [h] at h3
      · rename_i h3
        rw [if_neg h3]
        exact ⟨by simpa using h1, by simpa using h2, by simpa using h3, rfl⟩
theorem inferP_ok {ss : List (List Int)} {p : Pl} (h1 : checkSch ss = 0) (h2 : checkP p = 0) : inferP ss p = if (jdg ss p 0 0 []).2.1 != 0 then ([], (jdg ss p 0 0 []).2.1) else ((jdg ss p 0 0 []).1, 0) := by
  simp [inferP, h1, h2]
theorem inferP_err {ss : List (List Int)} {p : Pl} (h : (inferP ss p).2 ≠ 0) : (inferP ss p).1 = [] := by
  unfold inferP at h ⊢
  split
  · rfl
  · rename_i h1
    rw [if_neg h1] at h
    split
    · rfl
    · rename_i h2
      rw [if_neg h2] at h
      split
      · rfl
      · rename_i h3
        rw [if_neg h3] at h
        exact absurd rfl h
theorem parts_kid {ss : List (List Int)} {k m : Int} {kids : List Pl} {ex : List E} {cols wth : List Int} {agg rds : Int} (hs : (Pl.mk k m kids ex cols wth agg rds).size ≤ 2 ^ 40) (h : (inferP ss (.mk k m kids ex cols wth agg rds)).2 = 0) {i : Nat} {x : Pl} (hx : kids[i]? = some x) (hk : (k == 10) = false ∨ ¬ i = 1) : (inferP ss x).2 = 0 := by
  obtain ⟨h1, h2, h3, -⟩ := inferP_zero h
  have hf := (checkP_iff hs).1 h2
  have hm : x ∈ kids := List.mem_of_getElem? hx
  have hxs : x.size ≤ 2 ^ 40 := by
    have := Pl.sizeL_mem hm
    rw [Pl.size] at hs
    omega
  have hxc := (checkP_iff hxs).2 (Pl.fits_kid hf hm)
  have hform := hf.1
  rw [Pl.gd] at hform
  obtain ⟨hok, -⟩ := formed_shape hform.1
  have h12 : (k == 1) = false ∧ (k == 2) = false := by
    have hne : kids ≠ [] := by rintro rfl; simp at hm
    have hpos : 0 < kids.length := List.length_pos_iff.2 hne
    rcases kinds hok with ⟨-, hn⟩ | ⟨h348, -⟩ | ⟨rfl, -⟩ | ⟨a, b, -⟩
    · omega
    · rcases h348 with rfl | rfl | rfl <;> exact ⟨rfl, rfl⟩
    · exact ⟨rfl, rfl⟩
    · exact ⟨a, b⟩
  have hj := jdg_kids h12 h3
  have hx0 : (jdg ss x 0 0 []).2.1 = 0 := by
    unfold jdgK at hj
    split at hj
    · rename_i h10
      rcases hk with hk | hk
      · rw [hk] at h10; simp at h10
      · have h2l : kids.length = 2 := by
          obtain rfl : k = 10 := eq_of_beq h10
          have := kinds hok
          simp at this
          exact this.2
        obtain ⟨a, b, rfl⟩ := two_pl h2l
        have hi : i < 2 := by have := (List.getElem?_eq_some_iff.1 hx).1; simpa using this
        have hi0 : i = 0 := by omega
        subst hi0
        simp only [List.getElem?_cons_zero, Option.some.injEq] at hx
        subst hx
        simp only [jdgI] at hj
        exact jdgL_zero hj
    · exact jdgL_each hj x hm
  rw [inferP_ok h1 hxc, hx0]
  rfl
theorem parts_more {ss : List (List Int)} {p : Pl} (t : List Int) (h : (inferP ss p).2 = 0) (hw : checkSch (ss ++ [t]) = 0) : inferP (ss ++ [t]) p = inferP ss p := by
  obtain ⟨h1, h2, h3, -⟩ := inferP_zero h
  rw [inferP_ok h1 h2, inferP_ok hw h2, jdg_more ss [t] p 0 0 [] h3]
theorem neS_self (o : List Int) : neS o o = false := by simp [neS]
theorem finJ_same {k : Int} (hk : (k == 3) = false ∧ (k == 4) = false ∧ (k == 7) = false ∧ (k == 8) = false) (o : List Int) (ho : o.length ≤ 8) (l : List (List Int)) (hl : ∀ s ∈ l, s = o) : finJ k 0 [] [] [] 0 (o :: l) 0 = (o, 0) := by
  have ha : ((o :: l).any fun s => !(s == o)) = false := by
    rw [List.any_eq_false]
    intro s hs
    rcases List.mem_cons.1 hs with rfl | hs
    · simp
    · simp [hl s hs]
  simp only [finJ, finR, hk.1, hk.2.1, hk.2.2.1, hk.2.2.2, Bool.false_eq_true, if_false, List.getD_cons_zero, ha]
  have h8 : decide (((o.length : Nat) : Int) ≤ 8) = true := by simp; omega
  simp only [h8]
  rfl
theorem jdg_len {ss : List (List Int)} (h1 : checkSch ss = 0) {p : Pl} (h2 : checkP p = 0) (h : (jdg ss p 0 0 []).2.1 = 0) : (jdg ss p 0 0 []).1.length ≤ 8 :=
  (jdg_ok (checkSch_ok h1).2 p 1 (checkP_good h2) 0 0 [] (by decide) (by decide) (by decide) (fun _ s hs => by simp at hs) h).2
theorem infer_of_jdg {ss : List (List Int)} {p q : Pl} (hq : checkP q = 0) (hp : checkP p = 0) (h : checkSch ss = 0 → Alike (jdg ss q 0 0 []) (jdg ss p 0 0 []) ∨ ((jdg ss q 0 0 []).2.1 = (jdg ss p 0 0 []).2.1 ∧ (jdg ss p 0 0 []).2.1 ≠ 0)) : inferP ss q = inferP ss p := by
  by_cases h1 : checkSch ss = 0
  · rw [inferP_ok h1 hq, inferP_ok h1 hp]
    rcases h h1 with ⟨e1, e2⟩ | ⟨e2, e3⟩
    · rw [e1, e2]
    · have : ((jdg ss p 0 0 []).2.1 != 0) = true := by simpa using e3
      rw [e2, this]
      rfl
  · have : (checkSch ss != 0) = true := by simpa using h1
    unfold inferP
    rw [if_pos this, if_pos this]
theorem wraps_one {ss : List (List Int)} {k : Int} {p : Pl} (hs : p.size ≤ 2 ^ 39) (hk : k = 6 ∨ k = 9) (hq : checkP (.mk k 0 [p] [] [] [] 0 0) = 0) : inferP ss (.mk k 0 [p] [] [] [] 0 0) = inferP ss p := by
  have hqs : (Pl.mk k 0 [p] [] [] [] 0 0).size ≤ 2 ^ 40 := by simp only [Pl.size, Pl.sizeL]; omega
  have hp := (checkP_iff (by omega)).2 (Pl.fits_kid ((checkP_iff hqs).1 hq) (x := p) (by simp))
  refine infer_of_jdg hq hp fun h1 => ?_
  have hk12 : (k == 1) = false ∧ (k == 2) = false := by rcases hk with rfl | rfl <;> exact ⟨rfl, rfl⟩
  have hk10 : (k == 10) = false := by rcases hk with rfl | rfl <;> rfl
  have hr : jdgK ss k [p] 0 0 [] = ([(jdg ss p 0 0 []).1], (jdg ss p 0 0 []).2.1, (jdg ss p 0 0 []).2.2) := by simp only [jdgK, hk10, Bool.false_eq_true, if_false, jdgL]
  rw [jdg_other ss hk12.1 hk12.2 0 [p] [] [] [] 0 0 0 0 [] hr]
  by_cases hz : (jdg ss p 0 0 []).2.1 = 0
  · left
    have hl := jdg_len h1 hp hz
    rw [hz]
    rw [finJ_same (by rcases hk with rfl | rfl <;> exact ⟨rfl, rfl, rfl, rfl⟩) _ hl [] (by simp)]
    exact ⟨rfl, hz.symm⟩
  · right
    have : ((jdg ss p 0 0 []).2.1 != 0) = true := by simpa using hz
    rw [this]
    exact ⟨rfl, hz⟩
theorem wraps_two {ss : List (List Int)} {p : Pl} (hs : p.size ≤ 2 ^ 38) (hq : checkP (.mk 5 0 [p, p] [] [] [] 0 0) = 0) : inferP ss (.mk 5 0 [p, p] [] [] [] 0 0) = inferP ss p := by
  have hqs : (Pl.mk 5 0 [p, p] [] [] [] 0 0).size ≤ 2 ^ 40 := by simp only [Pl.size, Pl.sizeL]; omega
  have hp := (checkP_iff (by omega)).2 (Pl.fits_kid ((checkP_iff hqs).1 hq) (x := p) (by simp))
  refine infer_of_jdg hq hp fun h1 => ?_
  have hi := jdg_indep ss p 0 0 (jdg ss p 0 0 []).2.2 [] (by simp) (by simp) (by simp)
  have e1 : (jdgK ss 5 [p, p] 0 0 []).1 = [(jdg ss p 0 0 []).1, (jdg ss p 0 (jdg ss p 0 0 []).2.1 (jdg ss p 0 0 []).2.2).1] := rfl
  have e2 : (jdgK ss 5 [p, p] 0 0 []).2.1 = (jdg ss p 0 (jdg ss p 0 0 []).2.1 (jdg ss p 0 0 []).2.2).2.1 := rfl
  obtain ⟨l, w1, A1, hr⟩ : ∃ l w1 A1, jdgK ss 5 [p, p] 0 0 [] = (l, w1, A1) := ⟨_, _, _, rfl⟩
  rw [hr] at e1 e2
  rw [jdg_other ss rfl rfl 0 [p, p] [] [] [] 0 0 0 0 [] hr]
  simp only at e1 e2
  by_cases hz : (jdg ss p 0 0 []).2.1 = 0
  · left
    have hl := jdg_len h1 hp hz
    rw [hz] at e1 e2
    rw [hi.1] at e1
    rw [hi.2, hz] at e2
    subst e1
    subst e2
    rw [finJ_same ⟨rfl, rfl, rfl, rfl⟩ _ hl _ (by simp)]
    exact ⟨rfl, hz.symm⟩
  · right
    rw [jdg_stick ss p 0 _ _ hz] at e2
    rw [e2]
    have : ((jdg ss p 0 0 []).2.1 != 0) = true := by simpa using hz
    rw [this]
    exact ⟨rfl, hz⟩
def varP : Pl := .mk 2 0 [] [] [] [] 0 0
theorem loops_one {ss : List (List Int)} {p : Pl} {rds : Int} (hs : p.size ≤ 2 ^ 38) (hq : checkP (.mk 10 0 [p, varP] [] [] [] 0 rds) = 0) : inferP ss (.mk 10 0 [p, varP] [] [] [] 0 rds) = inferP ss p ∧ loopsP (.mk 10 0 [p, varP] [] [] [] 0 rds) = ((max 1 p.lp : Nat) : Int) ∧ loopsP p = (p.lp : Int) := by
  have hqs : (Pl.mk 10 0 [p, varP] [] [] [] 0 rds).size ≤ 2 ^ 40 := by simp only [Pl.size, Pl.sizeL, varP]; omega
  have hqf := (checkP_iff hqs).1 hq
  have hpf := Pl.fits_kid hqf (x := p) (by simp)
  have hp := (checkP_iff (by omega)).2 hpf
  refine ⟨infer_of_jdg hq hp fun h1 => ?_, ?_, loopsP_fits (by omega) hpf⟩
  · by_cases hz : (jdg ss p 0 0 []).2.1 = 0
    · left
      have hl := jdg_len h1 hp hz
      have hv : ∀ A, A.length ≥ 0 → jdg ss varP 1 0 (pushA A 0 (jdg ss p 0 0 []).1) = ((jdg ss p 0 0 []).1, 0, pushA A 0 (jdg ss p 0 0 []).1) := by
        intro A _
        have ht := pushA_take1 (A := A) (nd := 0) (jdg ss p 0 0 []).1 (by simp)
        simp only [List.take_zero, List.nil_append, Nat.zero_add] at ht
        rw [varP, jdg]
        simp only [ht]
        rfl
      have hr : jdgK ss 10 [p, varP] 0 0 [] = ([(jdg ss p 0 0 []).1, (jdg ss p 0 0 []).1], 0, pushA (jdg ss p 0 0 []).2.2 0 (jdg ss p 0 0 []).1) := by
        change ((jdg ss p 0 0 []).1 :: [(jdg ss varP 1 (jdg ss p 0 0 []).2.1 (pushA (jdg ss p 0 0 []).2.2 0 (jdg ss p 0 0 []).1)).1], (jdg ss varP 1 (jdg ss p 0 0 []).2.1 (pushA (jdg ss p 0 0 []).2.2 0 (jdg ss p 0 0 []).1)).2) = _
        rw [hz, hv _ (Nat.zero_le _)]
      rw [jdg_other ss rfl rfl 0 [p, varP] [] [] [] 0 rds 0 0 [] hr]
      rw [finJ_same ⟨rfl, rfl, rfl, rfl⟩ _ hl _ (by simp)]
      exact ⟨rfl, hz.symm⟩
    · right
      have hst := jdg_stick ss varP 1 (jdg ss p 0 0 []).2.1 (pushA (jdg ss p 0 0 []).2.2 0 (jdg ss p 0 0 []).1) hz
      obtain ⟨l, w1, A1, hr⟩ : ∃ l w1 A1, jdgK ss 10 [p, varP] 0 0 [] = (l, w1, A1) := ⟨_, _, _, rfl⟩
      have hw : w1 = (jdg ss p 0 0 []).2.1 := by
        have h2 : (jdgK ss 10 [p, varP] 0 0 []).2.1 = (jdg ss varP 1 (jdg ss p 0 0 []).2.1 (pushA (jdg ss p 0 0 []).2.2 0 (jdg ss p 0 0 []).1)).2.1 := rfl
        rw [hr, hst] at h2
        exact h2
      rw [jdg_other ss rfl rfl 0 [p, varP] [] [] [] 0 rds 0 0 [] hr, hw]
      have : ((jdg ss p 0 0 []).2.1 != 0) = true := by simpa using hz
      rw [this]
      exact ⟨rfl, hz⟩
  · rw [loopsP_fits hqs hqf]
    have : (Pl.mk 10 0 [p, varP] [] [] [] 0 rds).lp = max 1 p.lp := by
      simp only [Pl.lp, Pl.lpL, varP, morN]
      simp
      omega
    rw [this]
theorem loops_err {ss : List (List Int)} {q : Pl} (h : checkP q ≠ 0) : (inferP ss q).2 ≠ 0 := fun h0 => h (inferP_zero h0).2.1
end Go.Proofs
end
section
set_option linter.unusedVariables false
set_option linter.unusedSimpArgs false
namespace Go.Proofs
open Go.Flat
set_option maxRecDepth 100000
set_option linter.unusedSimpArgs false
set_option linter.unusedVariables false
attribute [local simp] Bool.and_assoc Bool.or_assoc evalG evalX efD skF guardG guardL isCall stepL evalOp ev evs lk tmpsL app AV.ok fresh vv putCells insV ins del putL place Go.Flat.look fillC fillR getCells loadF storeF binF scalarBin intBin strBin isShift shiftBin unF lenF maxF minF rowsF appendF builtinF idxF natOf sliceP sliceF optEv Flat.cut overwrite toPV toPVs constAV scalarC scalarCs AV.cells TI.isAgg allSome andAll scalarEq buildable Go.Flat.lim retQ resL resAll resOne PartOf noTmp closedIn refs refs.refsL isSomeV hasB ids leA leA.leL renA renA.renL callB refsAll backL dropIds renS LiesAt injB ownB freshB memN locId insAll leA_refl leL_refl okS frzS frzA frzA.frzL evalD feet fine updCells cellsFrom memP footRf footWf noTmpU updIds opOps opIds idsA footR footW guardTs opTs dstTs callR callW renLoc renC inBlockQ thenQ Value.oneCell' IntKind.bits IntKind.signed callWk without

attribute [local simp] Pl.av inferP in
theorem spec29_mk (k m : Int) (kids : List Pl) (ex : List E) (cols wth : List Int) (agg rds : Int) (hb : (Pl.mk k m kids ex cols wth agg rds).bnd) (ss : List (List Int)) : Flat.Sp Try.prog 29 [(Pl.mk k m kids ex cols wth agg rds).av, .p (.ps (ss.map srow))] [] (.tup [.p (.ps ((inferP ss (Pl.mk k m kids ex cols wth agg rds)).1.map trow)), vv (.int .i64 (inferP ss (Pl.mk k m kids ex cols wth agg rds)).2)]) [] := by
  refine sk Try.func29 ?_
  intro F G hn hG
  refine sq ?_
  refine rg 1000 ?_
  refine pr [1, 2, 4, 5, 6, 7, 8, 9, 10, 11, 12, 13, 14, 15, 16, 17, 18, 19, 20, 21, 22, 23, 24, 25, 26, 27, 28, 29, 30, 31, 32, 33, 34, 35, 36, 37, 38] ?_
  refine sq ?_
  refine sq ?_
  refine rc 2000 ?_
  refine oc id (spec30 ss) ?_
  refine oe 2100 ?_
  refine on ?_
  refine pr [1, 2, 4, 5, 6, 7, 8, 9, 12, 13, 14, 15, 16, 17, 18, 19, 20, 21, 22, 23, 24, 25, 26, 27, 28, 29, 30, 31, 32, 33, 34, 35, 36, 37, 38] ?_
  refine sq ?_
  refine rg 3000 ?_
  refine pr [1, 2, 4, 5, 6, 7, 8, 9, 13, 14, 15, 16, 17, 18, 19, 20, 21, 22, 23, 24, 25, 26, 27, 28, 29, 30, 31, 32, 33, 34, 35, 36, 37, 38] ?_
  refine cd ?_ ?_
  · intro h13_1
    have h13_1 : (checkSch ss != 0) = true := by simpa using h13_1
    refine sq ?_
    refine rg 4000 ?_
    refine pr [1, 2, 4, 5, 7, 8, 9, 15, 16, 17, 18, 19, 20, 21, 22, 23, 24, 25, 26, 27, 28, 29, 30, 31, 32, 33, 34, 35, 36, 37, 38] ?_
    refine k_ret ?_
    show retQ _ _ _ _ _ _ _
    simp [*]
  · intro h13_1
    have h13_1 : (checkSch ss != 0) = false := by simpa using h13_1
    have hsc := h13_1
    refine k_skip ?_
    refine sq ?_
    refine sq ?_
    refine rc 5000 ?_
    refine oc id (spec32 k m kids ex cols wth agg rds hb) ?_
    refine oe 5100 ?_
    refine on ?_
    refine pr [1, 2, 4, 5, 7, 8, 9, 17, 18, 19, 20, 21, 22, 23, 24, 25, 26, 27, 28, 29, 30, 31, 32, 33, 34, 35, 36, 37, 38] ?_
    refine sq ?_
    refine rg 6000 ?_
    refine pr [1, 2, 4, 5, 7, 8, 9, 18, 19, 20, 21, 22, 23, 24, 25, 26, 27, 28, 29, 30, 31, 32, 33, 34, 35, 36, 37, 38] ?_
    refine cd ?_ ?_
    · intro h18_2
      have h18_2 : (checkP (Pl.mk k m kids ex cols wth agg rds) != 0) = true := by simpa using h18_2
      refine sq ?_
      refine rg 7000 ?_
      refine pr [1, 2, 4, 5, 8, 9, 20, 21, 22, 23, 24, 25, 26, 27, 28, 29, 30, 31, 32, 33, 34, 35, 36, 37, 38] ?_
      refine k_ret ?_
      show retQ _ _ _ _ _ _ _
      simp [*]
    · intro h18_2
      have h18_2 : (checkP (Pl.mk k m kids ex cols wth agg rds) != 0) = false := by simpa using h18_2
      have hpc := h18_2
      refine k_skip ?_
      refine sq ?_
      refine rg 8000 ?_
      refine pr [2, 4, 5, 8, 9, 23, 24, 25, 26, 27, 28, 29, 30, 31, 32, 33, 34, 35, 36, 37, 38] ?_
      refine ow (.cell 8002 2) 8900 45 1 ?_
      refine sq ?_
      refine rc 9000 ?_
      refine oc (fun k => if k = 0 then 8002 else if k = 1 then 8900 else k) (spec59 ss (checkSch_ok (by simpa using hsc)).2 (Pl.mk k m kids ex cols wth agg rds) hb 1 (checkP_good (by simpa using hpc)) 0 0 [] (by decide) (by decide) (by decide) (fun _ s hs => by simp at hs)) ?_
      refine oe 9100 ?_
      refine on ?_
      refine pr [4, 5, 8, 9, 26, 27, 28, 29, 30, 31, 32, 33, 34, 35, 36, 37, 38] ?_
      refine sq ?_
      refine sq ?_
      refine rg 10000 ?_
      refine pr [4, 5, 8, 9, 31, 32, 33, 34, 35, 36, 37, 38] ?_
      refine cd ?_ ?_
      · intro h31_3
        have h31_3 : ((jdg ss (Pl.mk k m kids ex cols wth agg rds) 0 0 []).2.1 != 0) = true := by simpa using h31_3
        refine sq ?_
        refine dr ?_
        refine de 11000 ?_
        refine dn ?_
        refine pr [4, 5, 9, 37, 38] ?_
        refine k_ret ?_
        show retQ _ _ _ _ _ _ _
        simp [*]
      · intro h31_3
        have h31_3 : ((jdg ss (Pl.mk k m kids ex cols wth agg rds) 0 0 []).2.1 != 0) = false := by simpa using h31_3
        have hl8 : (jdg ss (Pl.mk k m kids ex cols wth agg rds) 0 0 []).1.length ≤ Bnd := Nat.le_trans (jdg_ok (checkSch_ok (by simpa using hsc)).2 (Pl.mk k m kids ex cols wth agg rds) 1 (checkP_good (by simpa using hpc)) 0 0 [] (by decide) (by decide) (by decide) (fun _ s hs => by simp at hs) (by simpa using h31_3)).2 (by simp [Bnd])
        refine k_skip ?_
        refine sq ?_
        refine rc 12000 ?_
        refine oc id (spec60 (jdg ss (Pl.mk k m kids ex cols wth agg rds) 0 0 []).1 hl8) ?_
        refine oe 12100 ?_
        refine on ?_
        refine pr [4, 5] ?_
        refine k_ret ?_
        show retQ _ _ _ _ _ _ _
        simp [*]

theorem spec29 (p : Pl) (hb : p.bnd) (ss : List (List Int)) : Flat.Sp Try.prog 29 [p.av, .p (.ps (ss.map srow))] [] (.tup [.p (.ps ((inferP ss p).1.map trow)), vv (.int .i64 (inferP ss p).2)]) [] := by
  obtain ⟨k, m, kids, ex, cols, wth, agg, rds⟩ := p
  exact spec29_mk k m kids ex cols wth agg rds hb ss
theorem spec32p (p : Pl) (hb : p.bnd) : Flat.Sp Try.prog 32 [p.av] [] (vv (.int .i64 (checkP p))) [] := by
  obtain ⟨k, m, kids, ex, cols, wth, agg, rds⟩ := p
  exact spec32 k m kids ex cols wth agg rds hb
theorem spec33p (p : Pl) (hb : p.bnd) : Flat.Sp Try.prog 33 [p.av] [] (vv (.int .i64 (loopsP p))) [] := by
  obtain ⟨k, m, kids, ex, cols, wth, agg, rds⟩ := p
  exact spec33 k m kids ex cols wth agg rds hb

def srcP (n : Int) : Pl := .mk 1 n [] [] [] [] 0 0
def l9S : List (List Int) := [[1, 2], [1]]
def l9q (c : Int) : Pl := .mk 7 0 [srcP 0, srcP 1] [] [0] [c] 0 0
def l9i : Pl := .mk 10 0 [srcP 0, varP] [] [] [] 0 3
def nonP : Pl := .mk 0 0 [] [] [] [] 0 0
theorem l9_1 : inferP l9S (l9q 0) = ([1, 2, 1], 0) := by decide +kernel
theorem l9_2 : (inferP l9S (l9q 1)).2 = 1 := by decide +kernel
theorem l9_3 : inferP l9S l9i = ([1, 2], 0) := by decide +kernel
theorem l9_4 : (inferP l9S varP).2 = 1 := by decide +kernel
theorem l9_5 : loopsP l9i = 1 := by decide +kernel
theorem l9_6 : checkP nonP = 4 := by decide +kernel
theorem l9q_bnd (c : Int) : (l9q c).bnd := by simp [l9q, srcP, Pl.bnd, Pl.bndL, Bnd]
theorem l9i_bnd : l9i.bnd := by simp [l9i, srcP, varP, Pl.bnd, Pl.bndL, Bnd]
theorem varP_bnd : varP.bnd := by simp [varP, Pl.bnd, Pl.bndL, Bnd]
theorem nonP_bnd : nonP.bnd := by simp [nonP, Pl.bnd, Pl.bndL, Bnd]
theorem inferP_len (ss : List (List Int)) (p : Pl) : (inferP ss p).1.length ≤ 8 := by
  by_cases h : (inferP ss p).2 = 0
  · obtain ⟨h1, h2, h3, h4⟩ := inferP_zero h
    rw [h4]
    exact jdg_len h1 h2 h3
  · rw [inferP_err h]; simp
theorem parts_fin {ss : List (List Int)} {p : Pl} {t : List Int} (h0 : (inferP ss p).2 = 0) : ¬ checkSch (ss ++ [t]) = 0 ∨ ((inferP (ss ++ [t]) p).2 = 0 ∧ (inferP ss p).1 = (inferP (ss ++ [t]) p).1) := by
  by_cases hw : checkSch (ss ++ [t]) = 0
  · right
    rw [parts_more t h0 hw]
    exact ⟨h0, rfl⟩
  · exact .inl hw
theorem inferP_lim (ss : List (List Int)) (p : Pl) : (inferP ss p).1.length ≤ Flat.lim := Nat.le_trans (inferP_len ss p) (by simp [Flat.lim])

attribute [local simp] Pl.av srcP in
theorem spec58 (n : Int) : Flat.Sp Try.prog 58 [vv (.int .i64 n)] [] ((srcP n).av) [] := by
  refine sk Try.func58 ?_
  intro F G hn hG
  refine sq ?_
  refine rg 1000 ?_
  refine pr [0, 2, 3, 4] ?_
  refine sq ?_
  refine rg 2000 ?_
  refine pr [2] ?_
  refine k_ret ?_
  show retQ _ _ _ _ _ _ _
  simp [*]

attribute [local simp] Pl.av Pl.row_eq srow trow irow srcP in
theorem spec28  : Flat.Sp Try.prog 28 [] [] (vv (.bool true)) [] := by
  refine sk Try.func28 ?_
  intro F G hn hG
  have f1 := l9_1
  have f2 := l9_2
  have f3 := l9_3
  have f4 := l9_4
  have f5 := l9_5
  have f6 := l9_6
  simp only [l9S, l9q, l9i, srcP, varP, nonP] at f1 f2 f3 f4 f5 f6
  refine sq ?_
  refine rg 1000 ?_
  refine pr [0, 1, 2, 3, 4, 6, 7, 8, 9, 11, 12, 13, 14, 15, 16, 17, 18, 19, 20, 21, 22, 23, 24, 25, 26, 27, 28, 29, 30, 31, 32, 33, 34, 35, 36, 37, 38, 39, 40, 41, 42, 43, 44, 45, 46, 47, 48, 49, 50, 51, 52, 53, 54, 55, 56, 57, 58, 59, 60, 61, 62, 63, 64, 65, 66, 67, 68, 69, 70, 71, 72, 73, 74, 75, 76, 77, 78, 79, 80, 81, 82, 83, 84, 85, 86, 87, 88, 89, 90] ?_
  refine sq ?_
  refine rg 2000 ?_
  refine pr [0, 1, 2, 3, 4, 6, 7, 8, 9, 11, 15, 16, 17, 18, 19, 20, 21, 22, 23, 24, 25, 26, 27, 28, 29, 30, 31, 32, 33, 34, 35, 36, 37, 38, 39, 40, 41, 42, 43, 44, 45, 46, 47, 48, 49, 50, 51, 52, 53, 54, 55, 56, 57, 58, 59, 60, 61, 62, 63, 64, 65, 66, 67, 68, 69, 70, 71, 72, 73, 74, 75, 76, 77, 78, 79, 80, 81, 82, 83, 84, 85, 86, 87, 88, 89, 90] ?_
  refine sq ?_
  refine rc 3000 ?_
  refine oc id (spec58 0) ?_
  refine oc id (spec58 1) ?_
  refine oe 3200 ?_
  refine on ?_
  refine pr [0, 1, 2, 3, 4, 6, 7, 8, 9, 11, 21, 22, 23, 24, 25, 26, 27, 28, 29, 30, 31, 32, 33, 34, 35, 36, 37, 38, 39, 40, 41, 42, 43, 44, 45, 46, 47, 48, 49, 50, 51, 52, 53, 54, 55, 56, 57, 58, 59, 60, 61, 62, 63, 64, 65, 66, 67, 68, 69, 70, 71, 72, 73, 74, 75, 76, 77, 78, 79, 80, 81, 82, 83, 84, 85, 86, 87, 88, 89, 90] ?_
  refine sq ?_
  refine rc 4000 ?_
  refine oc id (spec29 (l9q 0) (l9q_bnd 0) l9S) ?_ (hg := by simp [*, l9S, l9q, l9i, srcP, varP, nonP, Pl.av, Pl.row_eq, srow, trow, irow]) (hf := by simp [*, l9S, l9q, l9i, srcP, varP, nonP, Pl.av, Pl.row_eq, srow, trow, irow]; exact is_rfl _) (hx := by simp [*, l9S, l9q, l9i, srcP, varP, nonP, Pl.av, Pl.row_eq, srow, trow, irow]; exact is_rfl _) (hargs := by simp [*, l9S, l9q, l9i, srcP, varP, nonP, Pl.av, Pl.row_eq, srow, trow, irow]) (hB := by simp [*, l9S, l9q, l9i, srcP, varP, nonP, Pl.av, Pl.row_eq, srow, trow, irow]) (hL := by simp [*, l9S, l9q, l9i, srcP, varP, nonP, Pl.av, Pl.row_eq, srow, trow, irow]) (hd := by simp [*, l9S, l9q, l9i, srcP, varP, nonP, Pl.av, Pl.row_eq, srow, trow, irow]; exact is_rfl _)
  refine oe 4100 ?_
  refine on ?_
  refine pr [0, 1, 2, 3, 4, 6, 7, 8, 9, 11, 27, 28, 29, 30, 31, 32, 33, 34, 35, 36, 37, 38, 39, 40, 41, 42, 43, 44, 45, 46, 47, 48, 49, 50, 51, 52, 53, 54, 55, 56, 57, 58, 59, 60, 61, 62, 63, 64, 65, 66, 67, 68, 69, 70, 71, 72, 73, 74, 75, 76, 77, 78, 79, 80, 81, 82, 83, 84, 85, 86, 87, 88, 89, 90] ?_
  refine sq ?_
  refine rg 5000 ?_
  refine pr [0, 1, 2, 3, 4, 6, 7, 8, 9, 11, 29, 30, 31, 32, 33, 34, 35, 36, 37, 38, 39, 40, 41, 42, 43, 44, 45, 46, 47, 48, 49, 50, 51, 52, 53, 54, 55, 56, 57, 58, 59, 60, 61, 62, 63, 64, 65, 66, 67, 68, 69, 70, 71, 72, 73, 74, 75, 76, 77, 78, 79, 80, 81, 82, 83, 84, 85, 86, 87, 88, 89, 90] ?_
  refine sq ?_
  refine rc 6000 ?_
  refine oc id (spec29 (l9q 1) (l9q_bnd 1) l9S) ?_ (hg := by simp [*, l9S, l9q, l9i, srcP, varP, nonP, Pl.av, Pl.row_eq, srow, trow, irow]) (hf := by simp [*, l9S, l9q, l9i, srcP, varP, nonP, Pl.av, Pl.row_eq, srow, trow, irow]; exact is_rfl _) (hx := by simp [*, l9S, l9q, l9i, srcP, varP, nonP, Pl.av, Pl.row_eq, srow, trow, irow]; exact is_rfl _) (hargs := by simp [*, l9S, l9q, l9i, srcP, varP, nonP, Pl.av, Pl.row_eq, srow, trow, irow]) (hB := by simp [*, l9S, l9q, l9i, srcP, varP, nonP, Pl.av, Pl.row_eq, srow, trow, irow]) (hL := by simp [*, l9S, l9q, l9i, srcP, varP, nonP, Pl.av, Pl.row_eq, srow, trow, irow]) (hd := by simp [*, l9S, l9q, l9i, srcP, varP, nonP, Pl.av, Pl.row_eq, srow, trow, irow]; exact is_rfl _)
  refine oe 6100 ?_
  refine on ?_
  refine pr [0, 1, 3, 4, 6, 7, 8, 9, 11, 35, 36, 37, 38, 39, 40, 41, 42, 43, 44, 45, 46, 47, 48, 49, 50, 51, 52, 53, 54, 55, 56, 57, 58, 59, 60, 61, 62, 63, 64, 65, 66, 67, 68, 69, 70, 71, 72, 73, 74, 75, 76, 77, 78, 79, 80, 81, 82, 83, 84, 85, 86, 87, 88, 89, 90] ?_
  refine sq ?_
  refine rc 7000 ?_
  refine oc id (spec58 0) ?_
  refine oe 7100 ?_
  refine on ?_
  refine pr [0, 1, 3, 4, 6, 7, 8, 9, 11, 39, 40, 41, 42, 43, 44, 45, 46, 47, 48, 49, 50, 51, 52, 53, 54, 55, 56, 57, 58, 59, 60, 61, 62, 63, 64, 65, 66, 67, 68, 69, 70, 71, 72, 73, 74, 75, 76, 77, 78, 79, 80, 81, 82, 83, 84, 85, 86, 87, 88, 89, 90] ?_
  refine sq ?_
  refine rc 8000 ?_
  refine oc id (spec29 l9i l9i_bnd l9S) ?_ (hg := by simp [*, l9S, l9q, l9i, srcP, varP, nonP, Pl.av, Pl.row_eq, srow, trow, irow]) (hf := by simp [*, l9S, l9q, l9i, srcP, varP, nonP, Pl.av, Pl.row_eq, srow, trow, irow]; exact is_rfl _) (hx := by simp [*, l9S, l9q, l9i, srcP, varP, nonP, Pl.av, Pl.row_eq, srow, trow, irow]; exact is_rfl _) (hargs := by simp [*, l9S, l9q, l9i, srcP, varP, nonP, Pl.av, Pl.row_eq, srow, trow, irow]) (hB := by simp [*, l9S, l9q, l9i, srcP, varP, nonP, Pl.av, Pl.row_eq, srow, trow, irow]) (hL := by simp [*, l9S, l9q, l9i, srcP, varP, nonP, Pl.av, Pl.row_eq, srow, trow, irow]) (hd := by simp [*, l9S, l9q, l9i, srcP, varP, nonP, Pl.av, Pl.row_eq, srow, trow, irow]; exact is_rfl _)
  refine oe 8100 ?_
  refine on ?_
  refine pr [0, 1, 3, 4, 6, 7, 8, 9, 11, 45, 46, 47, 48, 49, 50, 51, 52, 53, 54, 55, 56, 57, 58, 59, 60, 61, 62, 63, 64, 65, 66, 67, 68, 69, 70, 71, 72, 73, 74, 75, 76, 77, 78, 79, 80, 81, 82, 83, 84, 85, 86, 87, 88, 89, 90] ?_
  refine sq ?_
  refine rc 9000 ?_
  refine oc id (spec29 varP varP_bnd l9S) ?_ (hg := by simp [*, l9S, l9q, l9i, srcP, varP, nonP, Pl.av, Pl.row_eq, srow, trow, irow]) (hf := by simp [*, l9S, l9q, l9i, srcP, varP, nonP, Pl.av, Pl.row_eq, srow, trow, irow]; exact is_rfl _) (hx := by simp [*, l9S, l9q, l9i, srcP, varP, nonP, Pl.av, Pl.row_eq, srow, trow, irow]; exact is_rfl _) (hargs := by simp [*, l9S, l9q, l9i, srcP, varP, nonP, Pl.av, Pl.row_eq, srow, trow, irow]) (hB := by simp [*, l9S, l9q, l9i, srcP, varP, nonP, Pl.av, Pl.row_eq, srow, trow, irow]) (hL := by simp [*, l9S, l9q, l9i, srcP, varP, nonP, Pl.av, Pl.row_eq, srow, trow, irow]) (hd := by simp [*, l9S, l9q, l9i, srcP, varP, nonP, Pl.av, Pl.row_eq, srow, trow, irow]; exact is_rfl _)
  refine oe 9100 ?_
  refine on ?_
  refine pr [0, 3, 4, 6, 7, 8, 9, 11, 51, 52, 53, 54, 55, 56, 57, 58, 59, 60, 61, 62, 63, 64, 65, 66, 67, 68, 69, 70, 71, 72, 73, 74, 75, 76, 77, 78, 79, 80, 81, 82, 83, 84, 85, 86, 87, 88, 89, 90] ?_
  refine sq ?_
  refine rc 10000 ?_
  iterate 4 (first | refine gp 10350 ?_ | refine os ?_ | refine gt 10350 ?_)
  refine oe 10400 ?_
  iterate 2 (first | refine gp 10550 ?_ | refine os ?_ | refine gt 10550 ?_)
  refine oe 10600 ?_
  iterate 2 (first | refine gp 10750 ?_ | refine os ?_ | refine gt 10750 ?_)
  refine oe 10800 ?_
  iterate 3 (first | refine gp 11050 ?_ | refine os ?_ | refine gt 11050 ?_)
  refine oe 11100 ?_
  iterate 2 (first | refine gp 11250 ?_ | refine os ?_ | refine gt 11250 ?_)
  refine oe 11300 ?_
  iterate 2 (first | refine gp 11450 ?_ | refine os ?_ | refine gt 11450 ?_)
  refine oe 11500 ?_
  first | refine gp 11550 ?_ | refine os ?_ | refine gt 11550 ?_
  refine og (fun hg => spec33 10 0 [srcP 0, varP] [] [] [] 0 3 l9i_bnd) ?_ (hf := by intro hgg; (try simp only [Bool.and_eq_true] at hgg); simp [*, l9S, l9q, l9i, srcP, varP, nonP, Pl.av, Pl.row_eq, srow, trow, irow]; exact is_rfl _) (hx := by intro hgg; (try simp only [Bool.and_eq_true] at hgg); simp [*, l9S, l9q, l9i, srcP, varP, nonP, Pl.av, Pl.row_eq, srow, trow, irow]; exact is_rfl _) (hargs := by intro hgg; (try simp only [Bool.and_eq_true] at hgg); simp [*, l9S, l9q, l9i, srcP, varP, nonP, Pl.av, Pl.row_eq, srow, trow, irow]) (hd := by simp [*, l9S, l9q, l9i, srcP, varP, nonP, Pl.av, Pl.row_eq, srow, trow, irow]; exact is_rfl _)
  first | refine gp 11750 ?_ | refine os ?_ | refine gt 11750 ?_
  refine oe 11800 ?_
  first | refine gp 11850 ?_ | refine os ?_ | refine gt 11850 ?_
  refine og (fun hg => spec32 0 0 [] [] [] [] 0 0 nonP_bnd) ?_ (hf := by intro hgg; (try simp only [Bool.and_eq_true] at hgg); simp [*, l9S, l9q, l9i, srcP, varP, nonP, Pl.av, Pl.row_eq, srow, trow, irow]; exact is_rfl _) (hx := by intro hgg; (try simp only [Bool.and_eq_true] at hgg); simp [*, l9S, l9q, l9i, srcP, varP, nonP, Pl.av, Pl.row_eq, srow, trow, irow]; exact is_rfl _) (hargs := by intro hgg; (try simp only [Bool.and_eq_true] at hgg); simp [*, l9S, l9q, l9i, srcP, varP, nonP, Pl.av, Pl.row_eq, srow, trow, irow]) (hd := by simp [*, l9S, l9q, l9i, srcP, varP, nonP, Pl.av, Pl.row_eq, srow, trow, irow]; exact is_rfl _)
  first | refine gp 12050 ?_ | refine os ?_ | refine gt 12050 ?_
  refine oe 12100 ?_
  refine on ?_
  refine pr [0] ?_
  refine k_ret ?_
  show retQ _ _ _ _ _ _ _
  simp [*]

attribute [local simp] Pl.av srow in
theorem spec8 (k m : Int) (kids : List Pl) (ex : List E) (cols wth : List Int) (agg rds : Int) (hb : (Pl.mk k m kids ex cols wth agg rds).bnd) (hsz : (Pl.mk k m kids ex cols wth agg rds).size ≤ 2 ^ 38) (ss : List (List Int)) (hss : ss.length ≤ Bnd) (t : List Int) : Flat.Sp Try.prog 8 [(Pl.mk k m kids ex cols wth agg rds).av, .p (.ps (ss.map srow)), .p (.ps (t.map trow))] [] (vv (.bool true)) [] := by
  refine sk Try.func8 ?_
  intro F G hn hG
  have hb2 := hb
  rw [Pl.bnd] at hb2
  have hkl := Bnd_lim hb2.1
  have hs1 : (ss.length + 1) * 24 ≤ 140737488355328 := by simp only [Bnd] at hss; omega
  have hs2 : ss.length + 1 ≤ 140737488355328 := by omega
  have hs3 : ss.length * 24 ≤ 140737488355328 := by omega
  have hs4 : ss.length ≤ 140737488355328 := by omega
  have htk : ∀ z, (ss.map srow ++ [z]).take (ss.length + 1) = ss.map srow ++ [z] := fun z => List.take_of_length_le (by simp)
  refine sq ?_
  refine rg 1000 ?_
  refine pr [1, 2, 3, 6, 7, 8, 9, 10, 12, 13, 14, 15, 16, 17, 18, 19, 20, 21, 22, 23, 24, 25, 26, 27, 28, 29, 30, 31, 32, 33, 34, 35, 36, 37, 38, 39, 40, 41, 42, 43, 44, 45, 46, 47, 48, 49, 50, 51, 52, 53, 54, 55, 56, 57, 58, 59, 60, 61, 62, 63, 64, 65, 66, 67, 68, 69, 70, 71, 72, 73, 74, 75, 76, 77, 78] ?_
  refine sq ?_
  refine sq ?_
  refine rc 2000 ?_
  refine oc id (spec28) ?_
  refine oe 2100 ?_
  refine on ?_
  refine pr [1, 2, 3, 6, 7, 8, 9, 10, 12, 13, 14, 15, 17, 18, 19, 20, 21, 22, 23, 24, 25, 26, 27, 28, 29, 30, 31, 32, 33, 34, 35, 36, 37, 38, 39, 40, 41, 42, 43, 44, 45, 46, 47, 48, 49, 50, 51, 52, 53, 54, 55, 56, 57, 58, 59, 60, 61, 62, 63, 64, 65, 66, 67, 68, 69, 70, 71, 72, 73, 74, 75, 76, 77, 78] ?_
  refine ce ?_
  refine k_skip ?_
  refine sq ?_
  refine rc 4000 ?_
  refine oc id (spec29_mk k m kids ex cols wth agg rds hb ss) ?_
  refine oe 4100 ?_
  refine on ?_
  refine pr [1, 2, 3, 6, 7, 8, 9, 10, 12, 13, 14, 15, 24, 25, 26, 27, 28, 29, 30, 31, 32, 33, 34, 35, 36, 37, 38, 39, 40, 41, 42, 43, 44, 45, 46, 47, 48, 49, 50, 51, 52, 53, 54, 55, 56, 57, 58, 59, 60, 61, 62, 63, 64, 65, 66, 67, 68, 69, 70, 71, 72, 73, 74, 75, 76, 77, 78] ?_
  refine sq ?_
  refine sq ?_
  refine rg 5000 ?_
  refine pr [1, 2, 3, 6, 7, 9, 10, 12, 13, 14, 15, 25, 26, 27, 28, 29, 30, 31, 32, 33, 34, 35, 36, 37, 38, 39, 40, 41, 42, 43, 44, 45, 46, 47, 48, 49, 50, 51, 52, 53, 54, 55, 56, 57, 58, 59, 60, 61, 62, 63, 64, 65, 66, 67, 68, 69, 70, 71, 72, 73, 74, 75, 76, 77, 78] ?_
  refine cd ?_ ?_
  · intro h25_1
    have hnil := inferP_err (ss := ss) (p := Pl.mk k m kids ex cols wth agg rds) (by simpa using h25_1)
    refine sq ?_
    refine rg 6000 ?_
    refine pr [1, 2, 3, 6, 7, 9, 10, 12, 13, 14, 15, 29, 30, 31, 32, 33, 34, 35, 36, 37, 38, 39, 40, 41, 42, 43, 44, 45, 46, 47, 48, 49, 50, 51, 52, 53, 54, 55, 56, 57, 58, 59, 60, 61, 62, 63, 64, 65, 66, 67, 68, 69, 70, 71, 72, 73, 74, 75, 76, 77, 78] ?_
    refine k_ret ?_
    show retQ _ _ _ _ _ _ _
    simp [*]
  · intro h25_1
    have h0 : (inferP ss (Pl.mk k m kids ex cols wth agg rds)).2 = 0 := by simpa using h25_1
    have hfin := parts_fin (t := t) h0
    refine k_skip ?_
    refine sq ?_
    refine sq ?_
    refine rg 7000 ?_
    refine pr [1, 2, 3, 6, 7, 9, 10, 12, 13, 14, 15, 30, 31, 32, 33, 34, 35, 36, 37, 38, 39, 40, 41, 42, 43, 44, 45, 46, 47, 48, 49, 50, 51, 52, 53, 54, 55, 56, 57, 58, 59, 60, 61, 62, 63, 64, 65, 66, 67, 68, 69, 70, 71, 72, 73, 74, 75, 76, 77, 78] ?_
    refine k_block ?_
    refine k_loop (fun n l => ∃ i, i + n = kids.length ∧ (True) ∧ l = [(.tmp 1, .av (.p (.ps (ss.map srow)))), (.tmp 2, .av (.p (.ps (t.map trow)))), (.tmp 3, .av (.ptr 1000 0)), (.tmp 7, .av (.p (.ps ((inferP ss (Pl.mk k m kids ex cols wth agg rds)).1.map trow)))), (.tmp 30, .av (.p (.ps (kids.map Pl.row)))), (.tmp 31, .av (vv (.int .i64 kids.length))), (.tmp 32, .av (vv (.int .i64 i))), (.var 1000, .n 8), (.cell 1000 0, .av (vv (.int .u8 k))), (.cell 1000 1, .av (vv (.int .i64 m))), (.cell 1000 2, .av (.p (.ps (kids.map Pl.row)))), (.cell 1000 3, .av (.p (.ps (ex.map E.row)))), (.cell 1000 4, .av (.p (.ps (cols.map irow)))), (.cell 1000 5, .av (.p (.ps (wth.map irow)))), (.cell 1000 6, .av (vv (.int .u8 agg))), (.cell 1000 7, .av (vv (.int .i64 rds)))]) (kids.length) hG ⟨_, ⟨by simp, by simp, by simp⟩, 0, by simp, trivial, rfl⟩ ?_
    rintro n _ ⟨i, hin, hfa, rfl⟩
    refine sq ?_
    refine rg 8000 ?_
    refine pr [1, 2, 3, 6, 7, 9, 10, 12, 13, 14, 15, 30, 31, 32, 33, 34, 35, 36, 37, 38, 39, 40, 41, 42, 43, 44, 45, 46, 47, 48, 49, 50, 51, 52, 53, 54, 55, 56, 57, 58, 59, 60, 61, 62, 63, 64, 65, 66, 67, 68, 69, 70, 71, 72, 73, 74, 75, 76, 77, 78] ?_
    refine sq ?_
    refine cd ?_ ?_
    · intro h33_2
      have hlt : i < kids.length := by simpa using h33_2
      obtain ⟨x, hxe⟩ : ∃ x, kids[i] = x := ⟨_, rfl⟩
      have hx : kids[i]? = some x := by simp [hlt, hxe]
      obtain ⟨xk, xn, xq, xe, xc, xw, xa, xr⟩ := x
      have hbx : (Pl.mk xk xn xq xe xc xw xa xr).bnd := Pl.bndL_mem hb2.2.2.2.2 _ (hxe ▸ List.getElem_mem hlt)
      refine k_skip ?_
      refine sq ?_
      refine k_block ?_
      refine sq ?_
      refine rg 9000 ?_ (h := by simp [*, Pl.row_eq]; exact is_rfl _)
      refine pr [1, 2, 3, 6, 7, 9, 10, 12, 13, 14, 15, 30, 31, 32, 33, 34, 35, 36, 37, 38, 39, 40, 41, 42, 43, 44, 45, 46, 47, 48, 49, 50, 51, 52, 53, 54, 55, 56, 57, 58, 59, 60, 61, 62, 63, 64, 65, 66, 67, 68, 69, 70, 71, 72, 73, 74, 75, 76, 77, 78] ?_
      refine sq ?_
      refine rc 10000 ?_
      refine oc id (spec29_mk xk xn xq xe xc xw xa xr hbx ss) ?_
      refine oe 10100 ?_
      refine on ?_
      refine pr [1, 2, 3, 6, 7, 9, 10, 12, 13, 14, 15, 30, 31, 32, 33, 34, 35, 36, 37, 38, 39, 40, 41, 42, 43, 44, 45, 46, 47, 48, 49, 50, 51, 52, 53, 54, 55, 56, 57, 58, 59, 60, 61, 62, 63, 64, 65, 66, 67, 68, 69, 70, 71, 72, 73, 74, 75, 76, 77, 78] ?_
      refine sq ?_
      refine rc 11000 ?_
      iterate 7 (first | refine gp 11650 ?_ | refine os ?_ | refine gt 11650 ?_)
      refine oe 11700 ?_
      refine on ?_
      refine pr [1, 2, 3, 6, 7, 9, 10, 12, 13, 14, 15, 30, 31, 32, 33, 34, 35, 36, 37, 38, 39, 40, 41, 42, 43, 44, 45, 46, 47, 48, 49, 50, 51, 52, 53, 54, 55, 56, 57, 58, 59, 60, 61, 62, 63, 64, 65, 66, 67, 68, 69, 70, 71, 72, 73, 74, 75, 76, 77, 78] ?_
      refine cd ?_ ?_
      · intro h53_3
        exfalso
        simp only [Bool.and_eq_true, Bool.or_eq_true, bne_iff_ne, ne_eq] at h53_3
        exact h53_3.1 (parts_kid (by omega) h0 hx (h53_3.2.imp (fun h => by simpa using h) (fun h => by omega)))
      · intro h53_3
        refine k_skip ?_
        refine k_nil ?_
        show AK _ _ _ _ _ _
        refine rg 13000 ?_ (h := by simp [*, wrap_succ (show i < Flat.lim by omega)]; exact is_rfl _)
        refine k_nil ?_
        refine ⟨n - 1, by omega, _, ⟨?_, ?_, ?_⟩, i + 1, by omega, trivial, rfl⟩ <;> simp [*]
    · intro h33_2
      have hge : kids.length ≤ i := by simpa using h33_2
      refine k_exit ?_
      show AK _ _ _ _ _ _
      refine sq ?_
      refine rg 14000 ?_
      refine pr [3, 6, 7, 13, 14, 15, 61, 62, 63, 64, 65, 66, 67, 68, 69, 70, 71, 72, 73, 74, 75, 76, 77, 78] ?_
      refine fz 14002 ?_
      refine sq ?_
      refine rc 15000 ?_
      refine oc id (spec29_mk k m kids ex cols wth agg rds hb (ss ++ [t])) ?_
      refine oe 15100 ?_
      refine on ?_
      refine pr [6, 7, 13, 14, 15, 67, 68, 69, 70, 71, 72, 73, 74, 75, 76, 77, 78] ?_
      refine sq ?_
      refine rc 16000 ?_
      refine oc id (spec30 (ss ++ [t])) ?_
      refine oe 16100 ?_
      iterate 5 (first | refine gp 16550 ?_ | refine os ?_ | refine gt 16550 ?_)
      refine og (fun hg => spec31 (inferP ss (Pl.mk k m kids ex cols wth agg rds)).1 (inferP (ss ++ [t]) (Pl.mk k m kids ex cols wth agg rds)).1 (inferP_lim _ _)) ?_
      first | refine gp 16750 ?_ | refine os ?_ | refine gt 16750 ?_
      refine oe 16800 ?_
      refine on ?_
      refine pr [6] ?_
      refine k_ret ?_
      show retQ _ _ _ _ _ _ _
      simp [*]

theorem wrap_no {ss : List (List Int)} {p q : Pl} (h : checkP q = 0 → inferP ss q = inferP ss p) (hh : (checkP q == 0 && ((inferP ss q).2 != (inferP ss p).2 || !((inferP ss p).1 == (inferP ss q).1))) = true) : False := by
  simp only [Bool.and_eq_true, beq_iff_eq] at hh
  obtain ⟨h1, h2⟩ := hh
  rw [h h1] at h2
  simp at h2
theorem bnd_wrap {k : Int} {p : Pl} (hb : p.bnd) : (Pl.mk k 0 [p] [] [] [] 0 0).bnd := by simp [Pl.bnd, Pl.bndL, Bnd, hb]
theorem bnd_wrap2 {p : Pl} (hb : p.bnd) : (Pl.mk 5 0 [p, p] [] [] [] 0 0).bnd := by simp [Pl.bnd, Pl.bndL, Bnd, hb]
theorem bnd_loop {p : Pl} {rds : Int} (hb : p.bnd) : (Pl.mk 10 0 [p, varP] [] [] [] 0 rds).bnd := by simp [Pl.bnd, Pl.bndL, Bnd, hb, varP]

attribute [local simp] Pl.av Pl.row_eq in
theorem spec9 (k m : Int) (kids : List Pl) (ex : List E) (cols wth : List Int) (agg rds : Int) (hb : (Pl.mk k m kids ex cols wth agg rds).bnd) (hsz : (Pl.mk k m kids ex cols wth agg rds).size ≤ 2 ^ 38) (ss : List (List Int)) : Flat.Sp Try.prog 9 [(Pl.mk k m kids ex cols wth agg rds).av, .p (.ps (ss.map srow))] [] (vv (.bool true)) [] := by
  refine sk Try.func9 ?_
  intro F G hn hG
  refine sq ?_
  refine rg 1000 ?_
  refine pr [1, 2, 4, 5, 6, 8, 9, 10, 11, 12, 13, 14, 15, 16, 17, 18, 19, 20, 21, 22, 23, 24, 25, 26, 27, 28, 29, 30, 31, 32, 33, 34, 35, 36, 37, 38, 39, 40, 41, 42, 43, 44, 45, 46, 47, 48, 49, 50, 51, 52, 53, 54, 55] ?_
  refine sq ?_
  refine sq ?_
  refine rc 2000 ?_
  refine oc id (spec28) ?_
  refine oe 2100 ?_
  refine on ?_
  refine pr [1, 2, 4, 5, 6, 8, 9, 10, 12, 13, 14, 15, 16, 17, 18, 19, 20, 21, 22, 23, 24, 25, 26, 27, 28, 29, 30, 31, 32, 33, 34, 35, 36, 37, 38, 39, 40, 41, 42, 43, 44, 45, 46, 47, 48, 49, 50, 51, 52, 53, 54, 55] ?_
  refine ce ?_
  refine k_skip ?_
  refine sq ?_
  refine rc 4000 ?_
  refine oc id (spec29_mk k m kids ex cols wth agg rds hb ss) ?_
  refine oe 4100 ?_
  refine on ?_
  refine pr [1, 2, 4, 5, 6, 8, 9, 10, 19, 20, 21, 22, 23, 24, 25, 26, 27, 28, 29, 30, 31, 32, 33, 34, 35, 36, 37, 38, 39, 40, 41, 42, 43, 44, 45, 46, 47, 48, 49, 50, 51, 52, 53, 54, 55] ?_
  refine sq ?_
  refine sq ?_
  refine rg 5000 ?_
  refine pr [1, 4, 5, 6, 8, 9, 10, 29, 30, 31, 32, 33, 34, 35, 36, 37, 38, 39, 40, 41, 42, 43, 44, 45, 46, 47, 48, 49, 50, 51, 52, 53, 54, 55] ?_
  refine k_block ?_
  refine k_rounds 4 ?_
  show AK _ _ _ _ _ _
  refine sq ?_
  refine rg 6000 ?_
  refine pr [1, 4, 5, 6, 8, 9, 10, 29, 30, 31, 32, 33, 34, 35, 36, 37, 38, 39, 40, 41, 42, 43, 44, 45, 46, 47, 48, 49, 50, 51, 52, 53, 54, 55] ?_
  refine sq ?_
  refine ct ?_
  refine k_skip ?_
  refine sq ?_
  refine k_block ?_
  refine sq ?_
  refine rg 7000 ?_
  refine pr [1, 4, 5, 6, 8, 9, 10, 29, 30, 31, 32, 33, 34, 35, 36, 37, 38, 39, 40, 41, 42, 43, 44, 45, 46, 47, 48, 49, 50, 51, 52, 53, 54, 55] ?_
  refine sq ?_
  refine rc 8000 ?_
  refine oc id (spec29_mk 6 0 [Pl.mk k m kids ex cols wth agg rds] [] [] [] 0 0 (bnd_wrap hb) ss) ?_ (hg := by simp [*, Pl.row_eq]) (hf := by simp [*, Pl.row_eq]; exact is_rfl _) (hx := by simp [*, Pl.row_eq]; exact is_rfl _) (hargs := by simp [*, Pl.row_eq]) (hB := by simp [*, Pl.row_eq]) (hL := by simp [*, Pl.row_eq]) (hd := by simp [*, Pl.row_eq]; exact is_rfl _)
  refine oe 8100 ?_
  refine on ?_
  refine pr [1, 4, 5, 6, 8, 9, 10, 29, 30, 31, 32, 33, 34, 35, 36, 37, 38, 39, 40, 41, 42, 43, 44, 45, 46, 47, 48, 49, 50, 51, 52, 53, 54, 55] ?_
  refine sq ?_
  refine rc 9000 ?_
  refine oc id (spec32 6 0 [Pl.mk k m kids ex cols wth agg rds] [] [] [] 0 0 (bnd_wrap hb)) ?_ (hg := by simp [*, Pl.row_eq]) (hf := by simp [*, Pl.row_eq]; exact is_rfl _) (hx := by simp [*, Pl.row_eq]; exact is_rfl _) (hargs := by simp [*, Pl.row_eq]) (hB := by simp [*, Pl.row_eq]) (hL := by simp [*, Pl.row_eq]) (hd := by simp [*, Pl.row_eq]; exact is_rfl _)
  refine oe 9100 ?_
  iterate 6 (first | refine gp 9650 ?_ | refine os ?_ | refine gt 9650 ?_)
  refine og (fun hg => spec31 (inferP ss (Pl.mk k m kids ex cols wth agg rds)).1 (inferP ss (Pl.mk 6 0 [Pl.mk k m kids ex cols wth agg rds] [] [] [] 0 0)).1 (inferP_lim _ _)) ?_
  iterate 2 (first | refine gp 9950 ?_ | refine os ?_ | refine gt 9950 ?_)
  refine oe 10000 ?_
  refine on ?_
  refine pr [1, 4, 5, 6, 8, 9, 10, 29, 30, 31, 32, 33, 34, 35, 36, 37, 38, 39, 40, 41, 42, 43, 44, 45, 46, 47, 48, 49, 50, 51, 52, 53, 54, 55] ?_
  refine cd ?_ ?_
  · intro h54_1
    exfalso
    exact wrap_no (ss := ss) (p := Pl.mk k m kids ex cols wth agg rds) (q := (Pl.mk 6 0 [Pl.mk k m kids ex cols wth agg rds] [] [] [] 0 0)) (wraps_one (by omega) (.inl rfl)) h54_1
  · intro h54_1
    refine k_skip ?_
    refine k_nil ?_
    show AK _ _ _ _ _ _
    refine rg 11000 ?_
    refine k_nil ?_
    show AK _ _ _ _ _ _
    refine sq ?_
    refine rg 1006000 ?_
    refine pr [1, 4, 5, 6, 8, 9, 10, 29, 30, 31, 32, 33, 34, 35, 36, 37, 38, 39, 40, 41, 42, 43, 44, 45, 46, 47, 48, 49, 50, 51, 52, 53, 54, 55] ?_
    refine sq ?_
    refine ct ?_
    refine k_skip ?_
    refine sq ?_
    refine k_block ?_
    refine sq ?_
    refine rg 1007000 ?_
    refine pr [1, 4, 5, 6, 8, 9, 10, 29, 30, 31, 32, 33, 34, 35, 36, 37, 38, 39, 40, 41, 42, 43, 44, 45, 46, 47, 48, 49, 50, 51, 52, 53, 54, 55] ?_
    refine sq ?_
    refine rc 1008000 ?_
    refine oc id (spec29_mk 9 0 [Pl.mk k m kids ex cols wth agg rds] [] [] [] 0 0 (bnd_wrap hb) ss) ?_ (hg := by simp [*, Pl.row_eq]) (hf := by simp [*, Pl.row_eq]; exact is_rfl _) (hx := by simp [*, Pl.row_eq]; exact is_rfl _) (hargs := by simp [*, Pl.row_eq]) (hB := by simp [*, Pl.row_eq]) (hL := by simp [*, Pl.row_eq]) (hd := by simp [*, Pl.row_eq]; exact is_rfl _)
    refine oe 1008100 ?_
    refine on ?_
    refine pr [1, 4, 5, 6, 8, 9, 10, 29, 30, 31, 32, 33, 34, 35, 36, 37, 38, 39, 40, 41, 42, 43, 44, 45, 46, 47, 48, 49, 50, 51, 52, 53, 54, 55] ?_
    refine sq ?_
    refine rc 1009000 ?_
    refine oc id (spec32 9 0 [Pl.mk k m kids ex cols wth agg rds] [] [] [] 0 0 (bnd_wrap hb)) ?_ (hg := by simp [*, Pl.row_eq]) (hf := by simp [*, Pl.row_eq]; exact is_rfl _) (hx := by simp [*, Pl.row_eq]; exact is_rfl _) (hargs := by simp [*, Pl.row_eq]) (hB := by simp [*, Pl.row_eq]) (hL := by simp [*, Pl.row_eq]) (hd := by simp [*, Pl.row_eq]; exact is_rfl _)
    refine oe 1009100 ?_
    iterate 6 (first | refine gp 1009650 ?_ | refine os ?_ | refine gt 1009650 ?_)
    refine og (fun hg => spec31 (inferP ss (Pl.mk k m kids ex cols wth agg rds)).1 (inferP ss (Pl.mk 9 0 [Pl.mk k m kids ex cols wth agg rds] [] [] [] 0 0)).1 (inferP_lim _ _)) ?_
    iterate 2 (first | refine gp 1009950 ?_ | refine os ?_ | refine gt 1009950 ?_)
    refine oe 1010000 ?_
    refine on ?_
    refine pr [1, 4, 5, 6, 8, 9, 10, 29, 30, 31, 32, 33, 34, 35, 36, 37, 38, 39, 40, 41, 42, 43, 44, 45, 46, 47, 48, 49, 50, 51, 52, 53, 54, 55] ?_
    refine cd ?_ ?_
    · intro h54_2
      exfalso
      exact wrap_no (ss := ss) (p := Pl.mk k m kids ex cols wth agg rds) (q := (Pl.mk 9 0 [Pl.mk k m kids ex cols wth agg rds] [] [] [] 0 0)) (wraps_one (by omega) (.inr rfl)) h54_2
    · intro h54_2
      refine k_skip ?_
      refine k_nil ?_
      show AK _ _ _ _ _ _
      refine rg 1011000 ?_
      refine k_nil ?_
      show AK _ _ _ _ _ _
      refine sq ?_
      refine rg 2006000 ?_
      refine pr [1, 4, 5, 6, 8, 9, 10, 29, 30, 31, 32, 33, 34, 35, 36, 37, 38, 39, 40, 41, 42, 43, 44, 45, 46, 47, 48, 49, 50, 51, 52, 53, 54, 55] ?_
      refine sq ?_
      refine ct ?_
      refine k_skip ?_
      refine sq ?_
      refine k_block ?_
      refine sq ?_
      refine rg 2007000 ?_
      refine pr [1, 4, 5, 6, 8, 9, 10, 29, 30, 31, 32, 33, 34, 35, 36, 37, 38, 39, 40, 41, 42, 43, 44, 45, 46, 47, 48, 49, 50, 51, 52, 53, 54, 55] ?_
      refine sq ?_
      refine rc 2008000 ?_
      refine oc id (spec29_mk 5 0 [Pl.mk k m kids ex cols wth agg rds, Pl.mk k m kids ex cols wth agg rds] [] [] [] 0 0 (bnd_wrap2 hb) ss) ?_ (hg := by simp [*, Pl.row_eq]) (hf := by simp [*, Pl.row_eq]; exact is_rfl _) (hx := by simp [*, Pl.row_eq]; exact is_rfl _) (hargs := by simp [*, Pl.row_eq]) (hB := by simp [*, Pl.row_eq]) (hL := by simp [*, Pl.row_eq]) (hd := by simp [*, Pl.row_eq]; exact is_rfl _)
      refine oe 2008100 ?_
      refine on ?_
      refine pr [1, 4, 5, 6, 8, 9, 10, 29, 30, 31, 32, 33, 34, 35, 36, 37, 38, 39, 40, 41, 42, 43, 44, 45, 46, 47, 48, 49, 50, 51, 52, 53, 54, 55] ?_
      refine sq ?_
      refine rc 2009000 ?_
      refine oc id (spec32 5 0 [Pl.mk k m kids ex cols wth agg rds, Pl.mk k m kids ex cols wth agg rds] [] [] [] 0 0 (bnd_wrap2 hb)) ?_ (hg := by simp [*, Pl.row_eq]) (hf := by simp [*, Pl.row_eq]; exact is_rfl _) (hx := by simp [*, Pl.row_eq]; exact is_rfl _) (hargs := by simp [*, Pl.row_eq]) (hB := by simp [*, Pl.row_eq]) (hL := by simp [*, Pl.row_eq]) (hd := by simp [*, Pl.row_eq]; exact is_rfl _)
      refine oe 2009100 ?_
      iterate 6 (first | refine gp 2009650 ?_ | refine os ?_ | refine gt 2009650 ?_)
      refine og (fun hg => spec31 (inferP ss (Pl.mk k m kids ex cols wth agg rds)).1 (inferP ss (Pl.mk 5 0 [Pl.mk k m kids ex cols wth agg rds, Pl.mk k m kids ex cols wth agg rds] [] [] [] 0 0)).1 (inferP_lim _ _)) ?_
      iterate 2 (first | refine gp 2009950 ?_ | refine os ?_ | refine gt 2009950 ?_)
      refine oe 2010000 ?_
      refine on ?_
      refine pr [1, 4, 5, 6, 8, 9, 10, 29, 30, 31, 32, 33, 34, 35, 36, 37, 38, 39, 40, 41, 42, 43, 44, 45, 46, 47, 48, 49, 50, 51, 52, 53, 54, 55] ?_
      refine cd ?_ ?_
      · intro h54_3
        exfalso
        exact wrap_no (ss := ss) (p := Pl.mk k m kids ex cols wth agg rds) (q := (Pl.mk 5 0 [Pl.mk k m kids ex cols wth agg rds, Pl.mk k m kids ex cols wth agg rds] [] [] [] 0 0)) (wraps_two hsz) h54_3
      · intro h54_3
        refine k_skip ?_
        refine k_nil ?_
        show AK _ _ _ _ _ _
        refine rg 2011000 ?_
        refine k_nil ?_
        show AK _ _ _ _ _ _
        refine sq ?_
        refine rg 3006000 ?_
        refine pr [1, 4, 5, 6, 8, 9, 10, 29, 30, 31, 32, 33, 34, 35, 36, 37, 38, 39, 40, 41, 42, 43, 44, 45, 46, 47, 48, 49, 50, 51, 52, 53, 54, 55] ?_
        refine sq ?_
        refine ce ?_
        refine k_exit ?_
        show AK _ _ _ _ _ _
        refine sq ?_
        refine rg 12000 ?_
        refine pr [4] ?_
        refine k_ret ?_
        show retQ _ _ _ _ _ _ _
        simp [*]

attribute [local simp] Pl.av Pl.row_eq varP in
theorem spec10 (k m : Int) (kids : List Pl) (ex : List E) (cols wth : List Int) (agg rds : Int) (hb : (Pl.mk k m kids ex cols wth agg rds).bnd) (hsz : (Pl.mk k m kids ex cols wth agg rds).size ≤ 2 ^ 38) (ss : List (List Int)) (ro : Int) : Flat.Sp Try.prog 10 [(Pl.mk k m kids ex cols wth agg rds).av, .p (.ps (ss.map srow)), vv (.int .i64 ro)] [] (vv (.bool true)) [] := by
  refine sk Try.func10 ?_
  intro F G hn hG
  refine sq ?_
  refine rg 1000 ?_
  refine pr [1, 2, 3, 6, 7, 8, 9, 10, 11, 12, 13, 14, 15, 16, 17, 18, 19, 20, 21, 22, 23, 24, 25, 26, 27, 28, 29, 30, 31, 32, 33, 34, 35, 36, 37, 38, 39, 40, 41, 42, 43, 44, 45, 46, 47, 48, 49, 50, 51] ?_
  refine sq ?_
  refine sq ?_
  refine rc 2000 ?_
  refine oc id (spec28) ?_
  refine oe 2100 ?_
  refine on ?_
  refine pr [1, 2, 3, 6, 7, 8, 9, 10, 11, 13, 14, 15, 16, 17, 18, 19, 20, 21, 22, 23, 24, 25, 26, 27, 28, 29, 30, 31, 32, 33, 34, 35, 36, 37, 38, 39, 40, 41, 42, 43, 44, 45, 46, 47, 48, 49, 50, 51] ?_
  refine ce ?_
  refine k_skip ?_
  refine sq ?_
  refine rc 4000 ?_
  refine oc id (spec29_mk k m kids ex cols wth agg rds hb ss) ?_
  refine oe 4100 ?_
  refine on ?_
  refine pr [1, 2, 3, 6, 7, 8, 9, 10, 11, 20, 21, 22, 23, 24, 25, 26, 27, 28, 29, 30, 31, 32, 33, 34, 35, 36, 37, 38, 39, 40, 41, 42, 43, 44, 45, 46, 47, 48, 49, 50, 51] ?_
  refine sq ?_
  refine rg 5000 ?_
  refine pr [1, 3, 6, 7, 8, 9, 10, 11, 25, 26, 27, 28, 29, 30, 31, 32, 33, 34, 35, 36, 37, 38, 39, 40, 41, 42, 43, 44, 45, 46, 47, 48, 49, 50, 51] ?_
  refine sq ?_
  refine rc 6000 ?_
  refine oc id (spec29_mk 10 0 [Pl.mk k m kids ex cols wth agg rds, varP] [] [] [] 0 ro (bnd_loop hb) ss) ?_
  refine oe 6100 ?_
  refine on ?_
  refine pr [3, 6, 7, 8, 9, 10, 11, 31, 32, 33, 34, 35, 36, 37, 38, 39, 40, 41, 42, 43, 44, 45, 46, 47, 48, 49, 50, 51] ?_
  refine sq ?_
  refine sq ?_
  refine rc 7000 ?_
  refine oc id (spec32 10 0 [Pl.mk k m kids ex cols wth agg rds, varP] [] [] [] 0 ro (bnd_loop hb)) ?_
  refine oe 7100 ?_
  refine on ?_
  refine pr [3, 6, 7, 8, 9, 10, 11, 33, 34, 35, 36, 37, 38, 39, 40, 41, 42, 43, 44, 45, 46, 47, 48, 49, 50, 51] ?_
  refine cd ?_ ?_
  · intro h33_1
    have hne := loops_err (ss := ss) (q := (Pl.mk 10 0 [Pl.mk k m kids ex cols wth agg rds, varP] [] [] [] 0 ro)) (by simpa [varP] using h33_1)
    simp only [varP] at hne
    refine sq ?_
    refine rg 8000 ?_
    refine pr [3, 6, 7, 8, 9, 10, 11, 36, 37, 38, 39, 40, 41, 42, 43, 44, 45, 46, 47, 48, 49, 50, 51] ?_
    refine k_ret ?_
    show retQ _ _ _ _ _ _ _
    simp [*]
  · intro h33_1
    have hz : checkP (Pl.mk 10 0 [Pl.mk k m kids ex cols wth agg rds, varP] [] [] [] 0 ro) = 0 := by simpa [varP] using h33_1
    obtain ⟨g1, g2, g3⟩ := loops_one (ss := ss) hsz hz
    have g4 : loopsP (Pl.mk 10 0 [Pl.mk k m kids ex cols wth agg rds, varP] [] [] [] 0 ro) = if 1 < loopsP (Pl.mk k m kids ex cols wth agg rds) then loopsP (Pl.mk k m kids ex cols wth agg rds) else 1 := by rw [g2, g3]; split <;> omega
    simp only [varP] at g1 g4
    clear g2 g3
    refine k_skip ?_
    refine sq ?_
    refine dr ?_
    refine de 9000 ?_
    iterate 2 (first | refine dp 9150 ?_ | refine ds ?_ | refine dt 9150 ?_)
    refine dg (fun hg => spec31 (inferP ss (Pl.mk k m kids ex cols wth agg rds)).1 (inferP ss (Pl.mk 10 0 [Pl.mk k m kids ex cols wth agg rds, varP] [] [] [] 0 ro)).1 (inferP_lim _ _)) ?_
    refine de 9300 ?_
    first | refine dp 9350 ?_ | refine ds ?_ | refine dt 9350 ?_
    refine dg (fun hg => spec33 10 0 [Pl.mk k m kids ex cols wth agg rds, varP] [] [] [] 0 ro (bnd_loop hb)) ?_
    first | refine dp 9550 ?_ | refine ds ?_ | refine dt 9550 ?_
    refine dg (fun hg => spec33 k m kids ex cols wth agg rds hb) ?_
    iterate 2 (first | refine dp 9850 ?_ | refine ds ?_ | refine dt 9850 ?_)
    refine de 9900 ?_
    refine dn ?_
    refine pr [6] ?_
    refine k_ret ?_
    show retQ _ _ _ _ _ _ _
    simp [*]

end Go.Proofs
end
