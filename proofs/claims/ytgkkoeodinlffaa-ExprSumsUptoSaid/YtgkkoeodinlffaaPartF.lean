/-
  Contracts: expressions: what one comes to, the third part.
  Contracts: expressions: what one comes to; the law functions of chapter 08.
  Plain laws of expressions: how many there are, sums, what an expression of a type comes to.
  Plain laws of sums of two words.
  Plain laws of chapter 08.
  The law functions of chapter 08.
-/
import Derived.Test.YtgkkoeodinlffaaPartE
section
set_option linter.unusedVariables false
set_option linter.unusedSimpArgs false
namespace Go.Proofs
open Go.Flat
set_option maxRecDepth 100000
set_option linter.unusedSimpArgs false
set_option linter.unusedVariables false
attribute [local simp] Bool.and_assoc Bool.or_assoc evalG evalX efD skF guardG guardL isCall stepL evalOp ev evs lk tmpsL app AV.ok fresh vv putCells insV ins del putL place Go.Flat.look fillC fillR getCells loadF storeF binF scalarBin intBin strBin isShift shiftBin unF lenF maxF minF rowsF appendF builtinF idxF natOf sliceP sliceF optEv Flat.cut overwrite toPV toPVs constAV scalarC scalarCs AV.cells TI.isAgg allSome andAll scalarEq buildable Go.Flat.lim retQ resL resAll resOne PartOf noTmp closedIn refs refs.refsL isSomeV hasB ids leA leA.leL renA renA.renL callB refsAll backL dropIds renS LiesAt injB ownB freshB memN locId insAll leA_refl leL_refl okS frzS frzA frzA.frzL evalD feet fine updCells cellsFrom memP footRf footWf noTmpU updIds opOps opIds idsA footR footW guardTs opTs dstTs callR callW renLoc renC inBlockQ thenQ Value.oneCell' IntKind.bits IntKind.signed callWk without

attribute [local simp] E.av E.row_eq Val.av in
theorem spec55_one (row : List Val) (hrow : row.length ≤ Flat.lim) (op : Int) (col : Int) (c : Val) (ao ac : Int) (av : Val) (ak : List E) (hop : op = 6 ∨ op = 11) (ha : ∀ w : Int, Flat.Sp Try.prog 55 [.ptr 0 0, (E.mk ao ac av ak).av] [(.var 0, .n 2), (.cell 0 0, .av (vv (.int .i64 w))), (.cell 0 1, .av (.p (.ps (row.map Val.row))))] (reck row (E.mk ao ac av ak) w).1.av [(.var 0, .n 2), (.cell 0 0, .av (vv (.int .i64 (reck row (E.mk ao ac av ak) w).2))), (.cell 0 1, .av (.p (.ps (row.map Val.row))))]) (w : Int) (hw : (w != 0) = false) : Flat.Sp Try.prog 55 [.ptr 0 0, (E.mk op col c [E.mk ao ac av ak]).av] [(.var 0, .n 2), (.cell 0 0, .av (vv (.int .i64 w))), (.cell 0 1, .av (.p (.ps (row.map Val.row))))] ((reck row (E.mk op col c [E.mk ao ac av ak]) w).1.av) [(.var 0, .n 2), (.cell 0 0, .av (vv (.int .i64 (reck row (E.mk op col c [E.mk ao ac av ak]) w).2))), (.cell 0 1, .av (.p (.ps (row.map Val.row))))] := by
  refine sk Try.func55 ?_
  intro F G hn hG
  have ho1 : (op == 1) = false := by rcases hop with rfl | rfl <;> rfl
  have ho2 : (op == 2) = false := by rcases hop with rfl | rfl <;> rfl
  have ho7 : (op == 7) = false := by rcases hop with rfl | rfl <;> rfl
  have ho8 : (op == 8) = false := by rcases hop with rfl | rfl <;> rfl
  refine sq ?_
  refine rg 1000 ?_
  refine pr [0, 3, 4, 5, 6, 7, 8, 9, 10, 11, 12, 13, 14, 15, 16, 17, 18, 19, 20, 21, 22, 23, 24, 25, 26, 27, 28, 29, 30, 31, 32, 33, 34, 35, 36, 37, 38, 39, 40, 41, 43, 44, 45, 46, 47, 48, 49, 50, 51, 52, 53, 54, 55, 56, 57, 58, 59, 60, 61, 62, 63, 64, 65, 66, 67, 68, 69, 70, 71, 72, 73, 74, 75, 76, 77, 78, 80, 81, 82, 83, 84, 85, 86, 87, 88, 89, 90, 91, 92, 93, 94, 95, 96, 97, 98, 99, 100, 101, 102, 103, 104, 105, 106, 107, 108] ?_
  refine sq ?_
  refine k_block ?_
  refine sq ?_
  refine rg 2000 ?_
  refine pr [0, 3, 4, 5, 6, 7, 8, 15, 16, 17, 18, 19, 20, 21, 22, 23, 24, 25, 26, 27, 28, 29, 30, 31, 32, 33, 34, 35, 36, 37, 38, 39, 40, 41, 43, 44, 45, 46, 47, 48, 49, 50, 51, 52, 53, 54, 55, 56, 57, 58, 59, 60, 61, 62, 63, 64, 65, 66, 67, 68, 69, 70, 71, 72, 73, 74, 75, 76, 77, 78, 80, 81, 82, 83, 84, 85, 86, 87, 88, 89, 90, 91, 92, 93, 94, 95, 96, 97, 98, 99, 100, 101, 102, 103, 104, 105, 106, 107, 108] ?_
  refine ce ?_
  refine sq ?_
  refine rg 4000 ?_
  refine pr [0, 3, 4, 5, 6, 7, 16, 20, 21, 22, 23, 24, 25, 26, 27, 28, 29, 30, 31, 32, 33, 34, 35, 36, 37, 38, 39, 40, 41, 43, 44, 45, 46, 47, 48, 49, 50, 51, 52, 53, 54, 55, 56, 57, 58, 59, 60, 61, 62, 63, 64, 65, 66, 67, 68, 69, 70, 71, 72, 73, 74, 75, 76, 77, 78, 80, 81, 82, 83, 84, 85, 86, 87, 88, 89, 90, 91, 92, 93, 94, 95, 96, 97, 98, 99, 100, 101, 102, 103, 104, 105, 106, 107, 108] ?_
  refine ce ?_
  refine sq ?_
  refine rg 6000 ?_
  refine pr [0, 3, 4, 5, 6, 7, 22, 26, 27, 28, 29, 30, 31, 32, 33, 34, 35, 36, 37, 38, 39, 40, 41, 43, 44, 45, 46, 47, 48, 49, 50, 51, 52, 53, 54, 55, 56, 57, 58, 59, 60, 61, 62, 63, 64, 65, 66, 67, 68, 69, 70, 71, 72, 73, 74, 75, 76, 77, 78, 80, 81, 82, 83, 84, 85, 86, 87, 88, 89, 90, 91, 92, 93, 94, 95, 96, 97, 98, 99, 100, 101, 102, 103, 104, 105, 106, 107, 108] ?_
  refine ce ?_
  refine sq ?_
  refine sq ?_
  refine rg 11000 ?_
  refine pr [0, 3, 4, 5, 6, 7, 52, 56, 57, 58, 59, 60, 61, 62, 63, 64, 65, 66, 67, 68, 69, 70, 71, 72, 73, 74, 75, 76, 77, 78, 80, 81, 82, 83, 84, 85, 86, 87, 88, 89, 90, 91, 92, 93, 94, 95, 96, 97, 98, 99, 100, 101, 102, 103, 104, 105, 106, 107, 108] ?_
  refine ce ?_
  refine rg 12000 ?_
  refine pr [0, 3, 4, 5, 6, 7, 52, 59, 60, 61, 62, 63, 64, 65, 66, 67, 68, 69, 70, 71, 72, 73, 74, 75, 76, 77, 78, 80, 81, 82, 83, 84, 85, 86, 87, 88, 89, 90, 91, 92, 93, 94, 95, 96, 97, 98, 99, 100, 101, 102, 103, 104, 105, 106, 107, 108] ?_
  refine ce ?_
  refine k_skip ?_
  refine k_nil ?_
  show AK _ _ _ _ _ _
  refine sq ?_
  refine dr ?_
  refine de 17000 ?_
  refine dc id (spec108 row hrow ao ac av ak (reck row (E.mk ao ac av ak)) ha w) ?_
  refine dc id (spec107_one row hrow op col c [E.mk ao ac av ak] hop noF noF (numF (reck row (E.mk ao ac av ak)) w).1 (numF (reck row (E.mk ao ac av ak)) w).2) ?_
  refine de 17200 ?_
  refine dn ?_
  refine pr [4] ?_
  refine k_ret ?_
  show retQ _ _ _ _ _ _ _
  simp [*, reck, recks, stepR, Val.av]

attribute [local simp] E.av E.row_eq Val.av in
theorem spec55_two (row : List Val) (hrow : row.length ≤ Flat.lim) (op : Int) (col : Int) (c : Val) (ao ac : Int) (av : Val) (ak : List E) (bo bc : Int) (bv : Val) (bk : List E) (hop : op = 3 ∨ op = 4 ∨ op = 5 ∨ op = 9 ∨ op = 10) (ha : ∀ w : Int, Flat.Sp Try.prog 55 [.ptr 0 0, (E.mk ao ac av ak).av] [(.var 0, .n 2), (.cell 0 0, .av (vv (.int .i64 w))), (.cell 0 1, .av (.p (.ps (row.map Val.row))))] (reck row (E.mk ao ac av ak) w).1.av [(.var 0, .n 2), (.cell 0 0, .av (vv (.int .i64 (reck row (E.mk ao ac av ak) w).2))), (.cell 0 1, .av (.p (.ps (row.map Val.row))))]) (hb : ∀ w : Int, Flat.Sp Try.prog 55 [.ptr 0 0, (E.mk bo bc bv bk).av] [(.var 0, .n 2), (.cell 0 0, .av (vv (.int .i64 w))), (.cell 0 1, .av (.p (.ps (row.map Val.row))))] (reck row (E.mk bo bc bv bk) w).1.av [(.var 0, .n 2), (.cell 0 0, .av (vv (.int .i64 (reck row (E.mk bo bc bv bk) w).2))), (.cell 0 1, .av (.p (.ps (row.map Val.row))))]) (w : Int) (hw : (w != 0) = false) : Flat.Sp Try.prog 55 [.ptr 0 0, (E.mk op col c [E.mk ao ac av ak, E.mk bo bc bv bk]).av] [(.var 0, .n 2), (.cell 0 0, .av (vv (.int .i64 w))), (.cell 0 1, .av (.p (.ps (row.map Val.row))))] ((reck row (E.mk op col c [E.mk ao ac av ak, E.mk bo bc bv bk]) w).1.av) [(.var 0, .n 2), (.cell 0 0, .av (vv (.int .i64 (reck row (E.mk op col c [E.mk ao ac av ak, E.mk bo bc bv bk]) w).2))), (.cell 0 1, .av (.p (.ps (row.map Val.row))))] := by
  refine sk Try.func55 ?_
  intro F G hn hG
  have ho1 : (op == 1) = false := by rcases hop with rfl | rfl | rfl | rfl | rfl <;> rfl
  have ho2 : (op == 2) = false := by rcases hop with rfl | rfl | rfl | rfl | rfl <;> rfl
  have ho7 : (op == 7) = false := by rcases hop with rfl | rfl | rfl | rfl | rfl <;> rfl
  have ho8 : (op == 8) = false := by rcases hop with rfl | rfl | rfl | rfl | rfl <;> rfl
  refine sq ?_
  refine rg 1000 ?_
  refine pr [0, 3, 4, 5, 6, 7, 8, 9, 10, 11, 12, 13, 14, 15, 16, 17, 18, 19, 20, 21, 22, 23, 24, 25, 26, 27, 28, 29, 30, 31, 32, 33, 34, 35, 36, 37, 38, 39, 40, 41, 43, 44, 45, 46, 47, 48, 49, 50, 51, 52, 53, 54, 55, 56, 57, 58, 59, 60, 61, 62, 63, 64, 65, 66, 67, 68, 69, 70, 71, 72, 73, 74, 75, 76, 77, 78, 80, 81, 82, 83, 84, 85, 86, 87, 88, 89, 90, 91, 92, 93, 94, 95, 96, 97, 98, 99, 100, 101, 102, 103, 104, 105, 106, 107, 108] ?_
  refine sq ?_
  refine k_block ?_
  refine sq ?_
  refine rg 2000 ?_
  refine pr [0, 3, 4, 5, 6, 7, 8, 15, 16, 17, 18, 19, 20, 21, 22, 23, 24, 25, 26, 27, 28, 29, 30, 31, 32, 33, 34, 35, 36, 37, 38, 39, 40, 41, 43, 44, 45, 46, 47, 48, 49, 50, 51, 52, 53, 54, 55, 56, 57, 58, 59, 60, 61, 62, 63, 64, 65, 66, 67, 68, 69, 70, 71, 72, 73, 74, 75, 76, 77, 78, 80, 81, 82, 83, 84, 85, 86, 87, 88, 89, 90, 91, 92, 93, 94, 95, 96, 97, 98, 99, 100, 101, 102, 103, 104, 105, 106, 107, 108] ?_
  refine ce ?_
  refine sq ?_
  refine rg 4000 ?_
  refine pr [0, 3, 4, 5, 6, 7, 16, 20, 21, 22, 23, 24, 25, 26, 27, 28, 29, 30, 31, 32, 33, 34, 35, 36, 37, 38, 39, 40, 41, 43, 44, 45, 46, 47, 48, 49, 50, 51, 52, 53, 54, 55, 56, 57, 58, 59, 60, 61, 62, 63, 64, 65, 66, 67, 68, 69, 70, 71, 72, 73, 74, 75, 76, 77, 78, 80, 81, 82, 83, 84, 85, 86, 87, 88, 89, 90, 91, 92, 93, 94, 95, 96, 97, 98, 99, 100, 101, 102, 103, 104, 105, 106, 107, 108] ?_
  refine ce ?_
  refine sq ?_
  refine rg 6000 ?_
  refine pr [0, 3, 4, 5, 6, 7, 22, 26, 27, 28, 29, 30, 31, 32, 33, 34, 35, 36, 37, 38, 39, 40, 41, 43, 44, 45, 46, 47, 48, 49, 50, 51, 52, 53, 54, 55, 56, 57, 58, 59, 60, 61, 62, 63, 64, 65, 66, 67, 68, 69, 70, 71, 72, 73, 74, 75, 76, 77, 78, 80, 81, 82, 83, 84, 85, 86, 87, 88, 89, 90, 91, 92, 93, 94, 95, 96, 97, 98, 99, 100, 101, 102, 103, 104, 105, 106, 107, 108] ?_
  refine ce ?_
  refine sq ?_
  refine sq ?_
  refine rg 11000 ?_
  refine pr [0, 3, 4, 5, 6, 7, 52, 56, 57, 58, 59, 60, 61, 62, 63, 64, 65, 66, 67, 68, 69, 70, 71, 72, 73, 74, 75, 76, 77, 78, 80, 81, 82, 83, 84, 85, 86, 87, 88, 89, 90, 91, 92, 93, 94, 95, 96, 97, 98, 99, 100, 101, 102, 103, 104, 105, 106, 107, 108] ?_
  refine ce ?_
  refine rg 12000 ?_
  refine pr [0, 3, 4, 5, 6, 7, 52, 59, 60, 61, 62, 63, 64, 65, 66, 67, 68, 69, 70, 71, 72, 73, 74, 75, 76, 77, 78, 80, 81, 82, 83, 84, 85, 86, 87, 88, 89, 90, 91, 92, 93, 94, 95, 96, 97, 98, 99, 100, 101, 102, 103, 104, 105, 106, 107, 108] ?_
  refine ce ?_
  refine k_skip ?_
  refine k_nil ?_
  show AK _ _ _ _ _ _
  refine sq ?_
  refine dr ?_
  refine de 17000 ?_
  refine dc id (spec108 row hrow ao ac av ak (reck row (E.mk ao ac av ak)) ha w) ?_
  refine dc id (spec107_two row hrow op col c [E.mk ao ac av ak, E.mk bo bc bv bk] hop bo bc bv bk (reck row (E.mk bo bc bv bk)) hb (by simp) rfl noF (numF (reck row (E.mk ao ac av ak)) w).1 (numF (reck row (E.mk ao ac av ak)) w).2) ?_
  refine de 17200 ?_
  refine dn ?_
  refine pr [4] ?_
  refine k_ret ?_
  show retQ _ _ _ _ _ _ _
  simp [*, reck, recks, stepR, Val.av]

attribute [local simp] E.av E.row_eq Val.av in
theorem spec55_if (row : List Val) (hrow : row.length ≤ Flat.lim) (col : Int) (c : Val) (ao ac : Int) (av : Val) (ak : List E) (bo bc : Int) (bv : Val) (bk : List E) (eo ec : Int) (ev : Val) (ek : List E) (ha : ∀ w : Int, Flat.Sp Try.prog 55 [.ptr 0 0, (E.mk ao ac av ak).av] [(.var 0, .n 2), (.cell 0 0, .av (vv (.int .i64 w))), (.cell 0 1, .av (.p (.ps (row.map Val.row))))] (reck row (E.mk ao ac av ak) w).1.av [(.var 0, .n 2), (.cell 0 0, .av (vv (.int .i64 (reck row (E.mk ao ac av ak) w).2))), (.cell 0 1, .av (.p (.ps (row.map Val.row))))]) (hb : ∀ w : Int, Flat.Sp Try.prog 55 [.ptr 0 0, (E.mk bo bc bv bk).av] [(.var 0, .n 2), (.cell 0 0, .av (vv (.int .i64 w))), (.cell 0 1, .av (.p (.ps (row.map Val.row))))] (reck row (E.mk bo bc bv bk) w).1.av [(.var 0, .n 2), (.cell 0 0, .av (vv (.int .i64 (reck row (E.mk bo bc bv bk) w).2))), (.cell 0 1, .av (.p (.ps (row.map Val.row))))]) (he : ∀ w : Int, Flat.Sp Try.prog 55 [.ptr 0 0, (E.mk eo ec ev ek).av] [(.var 0, .n 2), (.cell 0 0, .av (vv (.int .i64 w))), (.cell 0 1, .av (.p (.ps (row.map Val.row))))] (reck row (E.mk eo ec ev ek) w).1.av [(.var 0, .n 2), (.cell 0 0, .av (vv (.int .i64 (reck row (E.mk eo ec ev ek) w).2))), (.cell 0 1, .av (.p (.ps (row.map Val.row))))]) (w : Int) (hw : (w != 0) = false) : Flat.Sp Try.prog 55 [.ptr 0 0, (E.mk 12 col c [E.mk ao ac av ak, E.mk bo bc bv bk, E.mk eo ec ev ek]).av] [(.var 0, .n 2), (.cell 0 0, .av (vv (.int .i64 w))), (.cell 0 1, .av (.p (.ps (row.map Val.row))))] ((reck row (E.mk 12 col c [E.mk ao ac av ak, E.mk bo bc bv bk, E.mk eo ec ev ek]) w).1.av) [(.var 0, .n 2), (.cell 0 0, .av (vv (.int .i64 (reck row (E.mk 12 col c [E.mk ao ac av ak, E.mk bo bc bv bk, E.mk eo ec ev ek]) w).2))), (.cell 0 1, .av (.p (.ps (row.map Val.row))))] := by
  refine sk Try.func55 ?_
  intro F G hn hG
  refine sq ?_
  refine rg 1000 ?_
  refine pr [0, 3, 4, 5, 6, 7, 8, 9, 10, 11, 12, 13, 14, 15, 16, 17, 18, 19, 20, 21, 22, 23, 24, 25, 26, 27, 28, 29, 30, 31, 32, 33, 34, 35, 36, 37, 38, 39, 40, 41, 43, 44, 45, 46, 47, 48, 49, 50, 51, 52, 53, 54, 55, 56, 57, 58, 59, 60, 61, 62, 63, 64, 65, 66, 67, 68, 69, 70, 71, 72, 73, 74, 75, 76, 77, 78, 80, 81, 82, 83, 84, 85, 86, 87, 88, 89, 90, 91, 92, 93, 94, 95, 96, 97, 98, 99, 100, 101, 102, 103, 104, 105, 106, 107, 108] ?_
  refine sq ?_
  refine k_block ?_
  refine sq ?_
  refine rg 2000 ?_
  refine pr [0, 3, 4, 5, 6, 7, 8, 15, 16, 17, 18, 19, 20, 21, 22, 23, 24, 25, 26, 27, 28, 29, 30, 31, 32, 33, 34, 35, 36, 37, 38, 39, 40, 41, 43, 44, 45, 46, 47, 48, 49, 50, 51, 52, 53, 54, 55, 56, 57, 58, 59, 60, 61, 62, 63, 64, 65, 66, 67, 68, 69, 70, 71, 72, 73, 74, 75, 76, 77, 78, 80, 81, 82, 83, 84, 85, 86, 87, 88, 89, 90, 91, 92, 93, 94, 95, 96, 97, 98, 99, 100, 101, 102, 103, 104, 105, 106, 107, 108] ?_
  refine ce ?_
  refine sq ?_
  refine rg 4000 ?_
  refine pr [0, 3, 4, 5, 6, 7, 16, 20, 21, 22, 23, 24, 25, 26, 27, 28, 29, 30, 31, 32, 33, 34, 35, 36, 37, 38, 39, 40, 41, 43, 44, 45, 46, 47, 48, 49, 50, 51, 52, 53, 54, 55, 56, 57, 58, 59, 60, 61, 62, 63, 64, 65, 66, 67, 68, 69, 70, 71, 72, 73, 74, 75, 76, 77, 78, 80, 81, 82, 83, 84, 85, 86, 87, 88, 89, 90, 91, 92, 93, 94, 95, 96, 97, 98, 99, 100, 101, 102, 103, 104, 105, 106, 107, 108] ?_
  refine ce ?_
  refine sq ?_
  refine rg 6000 ?_
  refine pr [0, 3, 4, 5, 6, 7, 22, 26, 27, 28, 29, 30, 31, 32, 33, 34, 35, 36, 37, 38, 39, 40, 41, 43, 44, 45, 46, 47, 48, 49, 50, 51, 52, 53, 54, 55, 56, 57, 58, 59, 60, 61, 62, 63, 64, 65, 66, 67, 68, 69, 70, 71, 72, 73, 74, 75, 76, 77, 78, 80, 81, 82, 83, 84, 85, 86, 87, 88, 89, 90, 91, 92, 93, 94, 95, 96, 97, 98, 99, 100, 101, 102, 103, 104, 105, 106, 107, 108] ?_
  refine ce ?_
  refine sq ?_
  refine sq ?_
  refine rg 11000 ?_
  refine pr [0, 3, 4, 5, 6, 7, 52, 56, 57, 58, 59, 60, 61, 62, 63, 64, 65, 66, 67, 68, 69, 70, 71, 72, 73, 74, 75, 76, 77, 78, 80, 81, 82, 83, 84, 85, 86, 87, 88, 89, 90, 91, 92, 93, 94, 95, 96, 97, 98, 99, 100, 101, 102, 103, 104, 105, 106, 107, 108] ?_
  refine ce ?_
  refine rg 12000 ?_
  refine pr [0, 3, 4, 5, 6, 7, 52, 59, 60, 61, 62, 63, 64, 65, 66, 67, 68, 69, 70, 71, 72, 73, 74, 75, 76, 77, 78, 80, 81, 82, 83, 84, 85, 86, 87, 88, 89, 90, 91, 92, 93, 94, 95, 96, 97, 98, 99, 100, 101, 102, 103, 104, 105, 106, 107, 108] ?_
  refine ce ?_
  refine k_skip ?_
  refine k_nil ?_
  show AK _ _ _ _ _ _
  refine sq ?_
  refine dr ?_
  refine de 17000 ?_
  refine dc id (spec108 row hrow ao ac av ak (reck row (E.mk ao ac av ak)) ha w) ?_
  refine dc id (spec107_if row hrow col c [E.mk ao ac av ak, E.mk bo bc bv bk, E.mk eo ec ev ek] bo bc bv bk (reck row (E.mk bo bc bv bk)) hb (by simp) rfl eo ec ev ek (reck row (E.mk eo ec ev ek)) he (by simp) rfl (numF (reck row (E.mk ao ac av ak)) w).1 (numF (reck row (E.mk ao ac av ak)) w).2) ?_
  refine de 17200 ?_
  refine dn ?_
  refine pr [4] ?_
  refine k_ret ?_
  show retQ _ _ _ _ _ _ _
  simp [*, reck, recks, stepR, Val.av]

attribute [local simp] E.av E.row_eq Val.av bitV Val.num in
theorem spec55_cmp7 (row : List Val) (hrow : row.length ≤ Flat.lim) (col : Int) (c : Val) (ao ac : Int) (av : Val) (ak : List E) (bo bc : Int) (bv : Val) (bk : List E) (ha : ∀ w : Int, Flat.Sp Try.prog 55 [.ptr 0 0, (E.mk ao ac av ak).av] [(.var 0, .n 2), (.cell 0 0, .av (vv (.int .i64 w))), (.cell 0 1, .av (.p (.ps (row.map Val.row))))] (reck row (E.mk ao ac av ak) w).1.av [(.var 0, .n 2), (.cell 0 0, .av (vv (.int .i64 (reck row (E.mk ao ac av ak) w).2))), (.cell 0 1, .av (.p (.ps (row.map Val.row))))]) (hb : ∀ w : Int, Flat.Sp Try.prog 55 [.ptr 0 0, (E.mk bo bc bv bk).av] [(.var 0, .n 2), (.cell 0 0, .av (vv (.int .i64 w))), (.cell 0 1, .av (.p (.ps (row.map Val.row))))] (reck row (E.mk bo bc bv bk) w).1.av [(.var 0, .n 2), (.cell 0 0, .av (vv (.int .i64 (reck row (E.mk bo bc bv bk) w).2))), (.cell 0 1, .av (.p (.ps (row.map Val.row))))]) (w : Int) (hw : (w != 0) = false) : Flat.Sp Try.prog 55 [.ptr 0 0, (E.mk 7 col c [E.mk ao ac av ak, E.mk bo bc bv bk]).av] [(.var 0, .n 2), (.cell 0 0, .av (vv (.int .i64 w))), (.cell 0 1, .av (.p (.ps (row.map Val.row))))] ((reck row (E.mk 7 col c [E.mk ao ac av ak, E.mk bo bc bv bk]) w).1.av) [(.var 0, .n 2), (.cell 0 0, .av (vv (.int .i64 (reck row (E.mk 7 col c [E.mk ao ac av ak, E.mk bo bc bv bk]) w).2))), (.cell 0 1, .av (.p (.ps (row.map Val.row))))] := by
  refine sk Try.func55 ?_
  intro F G hn hG
  refine sq ?_
  refine rg 1000 ?_
  refine pr [0, 3, 4, 5, 6, 7, 8, 9, 10, 11, 12, 13, 14, 15, 16, 17, 18, 19, 20, 21, 22, 23, 24, 25, 26, 27, 28, 29, 30, 31, 32, 33, 34, 35, 36, 37, 38, 39, 40, 41, 43, 44, 45, 46, 47, 48, 49, 50, 51, 52, 53, 54, 55, 56, 57, 58, 59, 60, 61, 62, 63, 64, 65, 66, 67, 68, 69, 70, 71, 72, 73, 74, 75, 76, 77, 78, 80, 81, 82, 83, 84, 85, 86, 87, 88, 89, 90, 91, 92, 93, 94, 95, 96, 97, 98, 99, 100, 101, 102, 103, 104, 105, 106, 107, 108] ?_
  refine sq ?_
  refine k_block ?_
  refine sq ?_
  refine rg 2000 ?_
  refine pr [0, 3, 4, 5, 6, 7, 8, 15, 16, 17, 18, 19, 20, 21, 22, 23, 24, 25, 26, 27, 28, 29, 30, 31, 32, 33, 34, 35, 36, 37, 38, 39, 40, 41, 43, 44, 45, 46, 47, 48, 49, 50, 51, 52, 53, 54, 55, 56, 57, 58, 59, 60, 61, 62, 63, 64, 65, 66, 67, 68, 69, 70, 71, 72, 73, 74, 75, 76, 77, 78, 80, 81, 82, 83, 84, 85, 86, 87, 88, 89, 90, 91, 92, 93, 94, 95, 96, 97, 98, 99, 100, 101, 102, 103, 104, 105, 106, 107, 108] ?_
  refine ce ?_
  refine sq ?_
  refine rg 4000 ?_
  refine pr [0, 3, 4, 5, 6, 7, 16, 20, 21, 22, 23, 24, 25, 26, 27, 28, 29, 30, 31, 32, 33, 34, 35, 36, 37, 38, 39, 40, 41, 43, 44, 45, 46, 47, 48, 49, 50, 51, 52, 53, 54, 55, 56, 57, 58, 59, 60, 61, 62, 63, 64, 65, 66, 67, 68, 69, 70, 71, 72, 73, 74, 75, 76, 77, 78, 80, 81, 82, 83, 84, 85, 86, 87, 88, 89, 90, 91, 92, 93, 94, 95, 96, 97, 98, 99, 100, 101, 102, 103, 104, 105, 106, 107, 108] ?_
  refine ce ?_
  refine sq ?_
  refine rg 6000 ?_
  refine pr [0, 3, 4, 5, 6, 7, 22, 26, 27, 28, 29, 30, 31, 32, 33, 34, 35, 36, 37, 38, 39, 40, 41, 43, 44, 45, 46, 47, 48, 49, 50, 51, 52, 53, 54, 55, 56, 57, 58, 59, 60, 61, 62, 63, 64, 65, 66, 67, 68, 69, 70, 71, 72, 73, 74, 75, 76, 77, 78, 80, 81, 82, 83, 84, 85, 86, 87, 88, 89, 90, 91, 92, 93, 94, 95, 96, 97, 98, 99, 100, 101, 102, 103, 104, 105, 106, 107, 108] ?_
  refine ce ?_
  refine sq ?_
  refine sq ?_
  refine rg 11000 ?_
  refine pr [0, 3, 4, 5, 6, 7, 52, 56, 57, 58, 59, 60, 61, 62, 63, 64, 65, 66, 67, 68, 69, 70, 71, 72, 73, 74, 75, 76, 77, 78, 80, 81, 82, 83, 84, 85, 86, 87, 88, 89, 90, 91, 92, 93, 94, 95, 96, 97, 98, 99, 100, 101, 102, 103, 104, 105, 106, 107, 108] ?_
  refine ct ?_
  refine k_skip ?_
  refine ct ?_
  refine sq ?_
  refine dr ?_
  refine de 13000 ?_
  refine dc id (ha w) ?_
  refine de 13100 ?_
  refine dc id (hb ((reck row (E.mk ao ac av ak)) w).2) ?_
  refine de 13200 ?_
  refine dn ?_
  refine pr [0, 3, 4, 5, 6, 7, 71, 72, 73, 74, 75, 76, 77, 78, 80, 81, 82, 83, 84, 85, 86, 87, 88, 89, 90, 91, 92, 93, 94, 95, 96, 97, 98, 99, 100, 101, 102, 103, 104, 105, 106, 107, 108] ?_
  refine sq ?_
  refine dr ?_
  refine de 14000 ?_
  refine dc id (spec104 ((reck row (E.mk bo bc bv bk)) ((reck row (E.mk ao ac av ak)) w).2).2 (.ps (row.map Val.row)) (((reck row (E.mk ao ac av ak)) w).1.t == ((reck row (E.mk bo bc bv bk)) ((reck row (E.mk ao ac av ak)) w).2).1.t) 11) ?_
  refine dn ?_
  refine pr [0, 3, 4, 5, 6, 7, 80, 81, 82, 83, 84, 85, 86, 87, 88, 89, 90, 91, 92, 93, 94, 95, 96, 97, 98, 99, 100, 101, 102, 103, 104, 105, 106, 107, 108] ?_
  refine sq ?_
  refine rc 15000 ?_
  refine oc id (spec105 ((reck row (E.mk ao ac av ak)) w).1 ((reck row (E.mk bo bc bv bk)) ((reck row (E.mk ao ac av ak)) w).2).1) ?_
  refine oe 15100 ?_
  refine on ?_
  refine pr [0, 3, 4, 7, 83, 84, 85, 86, 87, 88, 89, 90, 91, 92, 93, 94, 95, 96, 97, 98, 99, 100, 101, 102, 103, 104, 105, 106, 107, 108] ?_
  refine sq ?_
  refine rc 16000 ?_
  iterate 3 (first | refine gp 16250 ?_ | refine os ?_ | refine gt 16250 ?_)
  refine oe 16300 ?_
  iterate 7 (first | refine gp 16950 ?_ | refine os ?_ | refine gt 16950 ?_)
  refine oe 17000 ?_
  refine oc id (spec106 ((decide ((((reck row (E.mk ao ac av ak)) w).1.cmp ((reck row (E.mk bo bc bv bk)) ((reck row (E.mk ao ac av ak)) w).2).1) < 0) && (7 : Int) == 7) || ((((reck row (E.mk ao ac av ak)) w).1.cmp ((reck row (E.mk bo bc bv bk)) ((reck row (E.mk ao ac av ak)) w).2).1) == 0 && (7 : Int) == 8))) ?_
  refine oe 17100 ?_
  refine on ?_
  refine pr [0, 3, 4, 100, 101, 102, 103, 104, 105, 106, 107, 108] ?_
  refine k_ret ?_
  show retQ _ _ _ _ _ _ _
  simp [*, reck, recks, stepR, Val.av]

attribute [local simp] E.av E.row_eq Val.av bitV Val.num in
theorem spec55_cmp8 (row : List Val) (hrow : row.length ≤ Flat.lim) (col : Int) (c : Val) (ao ac : Int) (av : Val) (ak : List E) (bo bc : Int) (bv : Val) (bk : List E) (ha : ∀ w : Int, Flat.Sp Try.prog 55 [.ptr 0 0, (E.mk ao ac av ak).av] [(.var 0, .n 2), (.cell 0 0, .av (vv (.int .i64 w))), (.cell 0 1, .av (.p (.ps (row.map Val.row))))] (reck row (E.mk ao ac av ak) w).1.av [(.var 0, .n 2), (.cell 0 0, .av (vv (.int .i64 (reck row (E.mk ao ac av ak) w).2))), (.cell 0 1, .av (.p (.ps (row.map Val.row))))]) (hb : ∀ w : Int, Flat.Sp Try.prog 55 [.ptr 0 0, (E.mk bo bc bv bk).av] [(.var 0, .n 2), (.cell 0 0, .av (vv (.int .i64 w))), (.cell 0 1, .av (.p (.ps (row.map Val.row))))] (reck row (E.mk bo bc bv bk) w).1.av [(.var 0, .n 2), (.cell 0 0, .av (vv (.int .i64 (reck row (E.mk bo bc bv bk) w).2))), (.cell 0 1, .av (.p (.ps (row.map Val.row))))]) (w : Int) (hw : (w != 0) = false) : Flat.Sp Try.prog 55 [.ptr 0 0, (E.mk 8 col c [E.mk ao ac av ak, E.mk bo bc bv bk]).av] [(.var 0, .n 2), (.cell 0 0, .av (vv (.int .i64 w))), (.cell 0 1, .av (.p (.ps (row.map Val.row))))] ((reck row (E.mk 8 col c [E.mk ao ac av ak, E.mk bo bc bv bk]) w).1.av) [(.var 0, .n 2), (.cell 0 0, .av (vv (.int .i64 (reck row (E.mk 8 col c [E.mk ao ac av ak, E.mk bo bc bv bk]) w).2))), (.cell 0 1, .av (.p (.ps (row.map Val.row))))] := by
  refine sk Try.func55 ?_
  intro F G hn hG
  refine sq ?_
  refine rg 1000 ?_
  refine pr [0, 3, 4, 5, 6, 7, 8, 9, 10, 11, 12, 13, 14, 15, 16, 17, 18, 19, 20, 21, 22, 23, 24, 25, 26, 27, 28, 29, 30, 31, 32, 33, 34, 35, 36, 37, 38, 39, 40, 41, 43, 44, 45, 46, 47, 48, 49, 50, 51, 52, 53, 54, 55, 56, 57, 58, 59, 60, 61, 62, 63, 64, 65, 66, 67, 68, 69, 70, 71, 72, 73, 74, 75, 76, 77, 78, 80, 81, 82, 83, 84, 85, 86, 87, 88, 89, 90, 91, 92, 93, 94, 95, 96, 97, 98, 99, 100, 101, 102, 103, 104, 105, 106, 107, 108] ?_
  refine sq ?_
  refine k_block ?_
  refine sq ?_
  refine rg 2000 ?_
  refine pr [0, 3, 4, 5, 6, 7, 8, 15, 16, 17, 18, 19, 20, 21, 22, 23, 24, 25, 26, 27, 28, 29, 30, 31, 32, 33, 34, 35, 36, 37, 38, 39, 40, 41, 43, 44, 45, 46, 47, 48, 49, 50, 51, 52, 53, 54, 55, 56, 57, 58, 59, 60, 61, 62, 63, 64, 65, 66, 67, 68, 69, 70, 71, 72, 73, 74, 75, 76, 77, 78, 80, 81, 82, 83, 84, 85, 86, 87, 88, 89, 90, 91, 92, 93, 94, 95, 96, 97, 98, 99, 100, 101, 102, 103, 104, 105, 106, 107, 108] ?_
  refine ce ?_
  refine sq ?_
  refine rg 4000 ?_
  refine pr [0, 3, 4, 5, 6, 7, 16, 20, 21, 22, 23, 24, 25, 26, 27, 28, 29, 30, 31, 32, 33, 34, 35, 36, 37, 38, 39, 40, 41, 43, 44, 45, 46, 47, 48, 49, 50, 51, 52, 53, 54, 55, 56, 57, 58, 59, 60, 61, 62, 63, 64, 65, 66, 67, 68, 69, 70, 71, 72, 73, 74, 75, 76, 77, 78, 80, 81, 82, 83, 84, 85, 86, 87, 88, 89, 90, 91, 92, 93, 94, 95, 96, 97, 98, 99, 100, 101, 102, 103, 104, 105, 106, 107, 108] ?_
  refine ce ?_
  refine sq ?_
  refine rg 6000 ?_
  refine pr [0, 3, 4, 5, 6, 7, 22, 26, 27, 28, 29, 30, 31, 32, 33, 34, 35, 36, 37, 38, 39, 40, 41, 43, 44, 45, 46, 47, 48, 49, 50, 51, 52, 53, 54, 55, 56, 57, 58, 59, 60, 61, 62, 63, 64, 65, 66, 67, 68, 69, 70, 71, 72, 73, 74, 75, 76, 77, 78, 80, 81, 82, 83, 84, 85, 86, 87, 88, 89, 90, 91, 92, 93, 94, 95, 96, 97, 98, 99, 100, 101, 102, 103, 104, 105, 106, 107, 108] ?_
  refine ce ?_
  refine sq ?_
  refine sq ?_
  refine rg 11000 ?_
  refine pr [0, 3, 4, 5, 6, 7, 52, 56, 57, 58, 59, 60, 61, 62, 63, 64, 65, 66, 67, 68, 69, 70, 71, 72, 73, 74, 75, 76, 77, 78, 80, 81, 82, 83, 84, 85, 86, 87, 88, 89, 90, 91, 92, 93, 94, 95, 96, 97, 98, 99, 100, 101, 102, 103, 104, 105, 106, 107, 108] ?_
  refine ce ?_
  refine rg 12000 ?_
  refine pr [0, 3, 4, 5, 6, 7, 52, 59, 60, 61, 62, 63, 64, 65, 66, 67, 68, 69, 70, 71, 72, 73, 74, 75, 76, 77, 78, 80, 81, 82, 83, 84, 85, 86, 87, 88, 89, 90, 91, 92, 93, 94, 95, 96, 97, 98, 99, 100, 101, 102, 103, 104, 105, 106, 107, 108] ?_
  refine ct ?_
  refine sq ?_
  refine dr ?_
  refine de 13000 ?_
  refine dc id (ha w) ?_
  refine de 13100 ?_
  refine dc id (hb ((reck row (E.mk ao ac av ak)) w).2) ?_
  refine de 13200 ?_
  refine dn ?_
  refine pr [0, 3, 4, 5, 6, 7, 71, 72, 73, 74, 75, 76, 77, 78, 80, 81, 82, 83, 84, 85, 86, 87, 88, 89, 90, 91, 92, 93, 94, 95, 96, 97, 98, 99, 100, 101, 102, 103, 104, 105, 106, 107, 108] ?_
  refine sq ?_
  refine dr ?_
  refine de 14000 ?_
  refine dc id (spec104 ((reck row (E.mk bo bc bv bk)) ((reck row (E.mk ao ac av ak)) w).2).2 (.ps (row.map Val.row)) (((reck row (E.mk ao ac av ak)) w).1.t == ((reck row (E.mk bo bc bv bk)) ((reck row (E.mk ao ac av ak)) w).2).1.t) 11) ?_
  refine dn ?_
  refine pr [0, 3, 4, 5, 6, 7, 80, 81, 82, 83, 84, 85, 86, 87, 88, 89, 90, 91, 92, 93, 94, 95, 96, 97, 98, 99, 100, 101, 102, 103, 104, 105, 106, 107, 108] ?_
  refine sq ?_
  refine rc 15000 ?_
  refine oc id (spec105 ((reck row (E.mk ao ac av ak)) w).1 ((reck row (E.mk bo bc bv bk)) ((reck row (E.mk ao ac av ak)) w).2).1) ?_
  refine oe 15100 ?_
  refine on ?_
  refine pr [0, 3, 4, 7, 83, 84, 85, 86, 87, 88, 89, 90, 91, 92, 93, 94, 95, 96, 97, 98, 99, 100, 101, 102, 103, 104, 105, 106, 107, 108] ?_
  refine sq ?_
  refine rc 16000 ?_
  iterate 3 (first | refine gp 16250 ?_ | refine os ?_ | refine gt 16250 ?_)
  refine oe 16300 ?_
  iterate 7 (first | refine gp 16950 ?_ | refine os ?_ | refine gt 16950 ?_)
  refine oe 17000 ?_
  refine oc id (spec106 ((decide ((((reck row (E.mk ao ac av ak)) w).1.cmp ((reck row (E.mk bo bc bv bk)) ((reck row (E.mk ao ac av ak)) w).2).1) < 0) && (8 : Int) == 7) || ((((reck row (E.mk ao ac av ak)) w).1.cmp ((reck row (E.mk bo bc bv bk)) ((reck row (E.mk ao ac av ak)) w).2).1) == 0 && (8 : Int) == 8))) ?_
  refine oe 17100 ?_
  refine on ?_
  refine pr [0, 3, 4, 100, 101, 102, 103, 104, 105, 106, 107, 108] ?_
  refine k_ret ?_
  show retQ _ _ _ _ _ _ _
  simp [*, reck, recks, stepR, Val.av]

end Go.Proofs
end
section
set_option linter.unusedVariables false
set_option linter.unusedSimpArgs false
namespace Go.Proofs
open Go.Flat
set_option maxRecDepth 100000
set_option linter.unusedSimpArgs false
set_option linter.unusedVariables false
attribute [local simp] Bool.and_assoc Bool.or_assoc evalG evalX efD skF guardG guardL isCall stepL evalOp ev evs lk tmpsL app AV.ok fresh vv putCells insV ins del putL place Go.Flat.look fillC fillR getCells loadF storeF binF scalarBin intBin strBin isShift shiftBin unF lenF maxF minF rowsF appendF builtinF idxF natOf sliceP sliceF optEv Flat.cut overwrite toPV toPVs constAV scalarC scalarCs AV.cells TI.isAgg allSome andAll scalarEq buildable Go.Flat.lim retQ resL resAll resOne PartOf noTmp closedIn refs refs.refsL isSomeV hasB ids leA leA.leL renA renA.renL callB refsAll backL dropIds renS LiesAt injB ownB freshB memN locId insAll leA_refl leL_refl okS frzS frzA frzA.frzL evalD feet fine updCells cellsFrom memP footRf footWf noTmpU updIds opOps opIds idsA footR footW guardTs opTs dstTs callR callW renLoc renC inBlockQ thenQ Value.oneCell' IntKind.bits IntKind.signed callWk without

theorem spec55 (row : List Val) (hrow : row.length ≤ Flat.lim) : ∀ e : E, e.good → ∀ w : Int, Flat.Sp Try.prog 55 [.ptr 0 0, e.av] [(.var 0, .n 2), (.cell 0 0, .av (vv (.int .i64 w))), (.cell 0 1, .av (.p (.ps (row.map Val.row))))] (reck row e w).1.av [(.var 0, .n 2), (.cell 0 0, .av (vv (.int .i64 (reck row e w).2))), (.cell 0 1, .av (.p (.ps (row.map Val.row))))] := by
  refine E.ind fun op col c kids ih hg w => ?_
  rw [E.good] at hg
  obtain ⟨hok, hgk⟩ := hg
  have ih' : ∀ k ∈ kids, ∀ w, _ := fun k hk => ih k hk (E.goodL_mem hgk k hk)
  cases hw : (w != 0) with
  | true => exact spec55_err row hrow op col c kids w hw
  | false =>
    rcases okE_shape hok with ⟨rfl, hn⟩ | ⟨rfl, hn⟩ | ⟨ho, hn⟩ | ⟨ho, hn⟩ | ⟨rfl, hn⟩ | ⟨rfl, hn⟩ | ⟨rfl, hn⟩
    · obtain rfl := List.length_eq_zero_iff.1 hn
      exact spec55_col row hrow col c w hw
    · obtain rfl := List.length_eq_zero_iff.1 hn
      exact spec55_con row hrow col c w hw
    · obtain ⟨⟨ao, ac, av, ak⟩, rfl⟩ := List.length_eq_one_iff.1 hn
      exact spec55_one row hrow op col c ao ac av ak ho (ih' _ (by simp)) w hw
    · obtain ⟨⟨ao, ac, av, ak⟩, ⟨bo, bc, bv, bk⟩, rfl⟩ := Flat.two_of_length hn
      exact spec55_two row hrow op col c ao ac av ak bo bc bv bk ho (ih' _ (by simp)) (ih' _ (by simp)) w hw
    · obtain ⟨⟨ao, ac, av, ak⟩, ⟨bo, bc, bv, bk⟩, rfl⟩ := Flat.two_of_length hn
      exact spec55_cmp7 row hrow col c ao ac av ak bo bc bv bk (ih' _ (by simp)) (ih' _ (by simp)) w hw
    · obtain ⟨⟨ao, ac, av, ak⟩, ⟨bo, bc, bv, bk⟩, rfl⟩ := Flat.two_of_length hn
      exact spec55_cmp8 row hrow col c ao ac av ak bo bc bv bk (ih' _ (by simp)) (ih' _ (by simp)) w hw
    · obtain ⟨⟨ao, ac, av, ak⟩, ⟨bo, bc, bv, bk⟩, ⟨eo, ec, ev, ek⟩, rfl⟩ := three_of_length hn
      exact spec55_if row hrow col c ao ac av ak bo bc bv bk eo ec ev ek (ih' _ (by simp)) (ih' _ (by simp)) (ih' _ (by simp)) w hw
/-- What an expression comes to, and why to nothing. -/
def evalE (row : List Val) (e : E) : Val × Int :=
  if checkE e != 0 then (⟨false, 0, ⟨#[]⟩⟩, checkE e) else if checkRow row != 0 then (⟨false, 0, ⟨#[]⟩⟩, checkRow row) else if (reck row e 0).2 != 0 then (⟨false, 0, ⟨#[]⟩⟩, (reck row e 0).2) else ((reck row e 0).1, 0)

attribute [local simp] E.av Val.av evalE in
theorem spec23_mk (row : List Val) (hrow : row.length ≤ Flat.lim) (op col : Int) (c : Val) (kids : List E) : Flat.Sp Try.prog 23 [(E.mk op col c kids).av, .p (.ps (row.map Val.row))] [] (.tup [(evalE row (E.mk op col c kids)).1.av, vv (.int .i64 (evalE row (E.mk op col c kids)).2)]) [] := by
  refine sk Try.func23 ?_
  intro F G hn hG
  refine sq ?_
  refine rg 1000 ?_
  refine pr [1, 2, 4, 5, 6, 7, 8, 9, 10, 11, 12, 13, 14, 15, 16, 17, 18, 19, 20, 21, 22, 23, 24, 25, 26, 27, 28, 29, 30, 31, 32, 33, 34, 35, 36, 37, 38, 39, 40] ?_
  refine sq ?_
  refine sq ?_
  refine rc 2000 ?_
  refine oc id (spec22 op col c kids) ?_
  refine oe 2100 ?_
  refine on ?_
  refine pr [1, 2, 4, 5, 6, 7, 8, 9, 12, 13, 14, 15, 16, 17, 18, 19, 20, 21, 22, 23, 24, 25, 26, 27, 28, 29, 30, 31, 32, 33, 34, 35, 36, 37, 38, 39, 40] ?_
  refine sq ?_
  refine rg 3000 ?_
  refine pr [1, 2, 4, 5, 6, 7, 8, 9, 13, 14, 15, 16, 17, 18, 19, 20, 21, 22, 23, 24, 25, 26, 27, 28, 29, 30, 31, 32, 33, 34, 35, 36, 37, 38, 39, 40] ?_
  refine cd ?_ ?_
  · intro h13_1
    have h13_1 : (checkE (E.mk op col c kids) != 0) = true := by simpa using h13_1
    refine sq ?_
    refine rg 4000 ?_
    refine pr [1, 2, 4, 5, 7, 8, 9, 16, 17, 18, 19, 20, 21, 22, 23, 24, 25, 26, 27, 28, 29, 30, 31, 32, 33, 34, 35, 36, 37, 38, 39, 40] ?_
    refine k_ret ?_
    show retQ _ _ _ _ _ _ _
    simp [*]
  · intro h13_1
    have h13_1 : (checkE (E.mk op col c kids) != 0) = false := by simpa using h13_1
    have hgood := checkE_good (e := (E.mk op col c kids)) (by simpa using h13_1)
    refine k_skip ?_
    refine sq ?_
    refine sq ?_
    refine rc 5000 ?_
    refine oc id (spec54 row hrow) ?_
    refine oe 5100 ?_
    refine on ?_
    refine pr [1, 2, 4, 5, 7, 8, 9, 18, 19, 20, 21, 22, 23, 24, 25, 26, 27, 28, 29, 30, 31, 32, 33, 34, 35, 36, 37, 38, 39, 40] ?_
    refine sq ?_
    refine rg 6000 ?_
    refine pr [1, 2, 4, 5, 7, 8, 9, 19, 20, 21, 22, 23, 24, 25, 26, 27, 28, 29, 30, 31, 32, 33, 34, 35, 36, 37, 38, 39, 40] ?_
    refine cd ?_ ?_
    · intro h19_2
      have h19_2 : (checkRow row != 0) = true := by simpa using h19_2
      refine sq ?_
      refine rg 7000 ?_
      refine pr [1, 2, 4, 5, 8, 9, 22, 23, 24, 25, 26, 27, 28, 29, 30, 31, 32, 33, 34, 35, 36, 37, 38, 39, 40] ?_
      refine k_ret ?_
      show retQ _ _ _ _ _ _ _
      simp [*]
    · intro h19_2
      have h19_2 : (checkRow row != 0) = false := by simpa using h19_2
      refine k_skip ?_
      refine sq ?_
      refine rg 8000 ?_
      refine pr [2, 4, 5, 8, 9, 25, 26, 27, 28, 29, 30, 31, 32, 33, 34, 35, 36, 37, 38, 39, 40] ?_
      refine sq ?_
      refine rc 9000 ?_
      refine oc (fun k => 8002) (spec55 row hrow (E.mk op col c kids) hgood 0) ?_
      refine oe 9100 ?_
      refine on ?_
      refine pr [4, 5, 8, 9, 28, 29, 30, 31, 32, 33, 34, 35, 36, 37, 38, 39, 40] ?_
      refine sq ?_
      refine sq ?_
      refine rg 10000 ?_
      refine pr [4, 5, 8, 9, 33, 34, 35, 36, 37, 38, 39, 40] ?_
      refine cd ?_ ?_
      · intro h33_3
        have h33_3 : ((reck row (E.mk op col c kids) 0).2 != 0) = true := by simpa using h33_3
        refine sq ?_
        refine dr ?_
        refine de 11000 ?_
        refine dn ?_
        refine pr [4, 5, 9, 40] ?_
        refine k_ret ?_
        show retQ _ _ _ _ _ _ _
        simp [*]
      · intro h33_3
        have h33_3 : ((reck row (E.mk op col c kids) 0).2 != 0) = false := by simpa using h33_3
        refine k_skip ?_
        refine sq ?_
        refine rg 12000 ?_
        refine pr [4, 5] ?_
        refine k_ret ?_
        show retQ _ _ _ _ _ _ _
        simp [*]

theorem spec23 (row : List Val) (hrow : row.length ≤ Flat.lim) (e : E) : Flat.Sp Try.prog 23 [e.av, .p (.ps (row.map Val.row))] [] (.tup [(evalE row e).1.av, vv (.int .i64 (evalE row e).2)]) [] := by
  obtain ⟨op, col, c, kids⟩ := e
  exact spec23_mk row hrow op col c kids

attribute [local simp] Val.row Val.av in
theorem spec27 (row : List Val) (hrow : row.length ≤ Flat.lim) : Flat.Sp Try.prog 27 [.p (.ps (row.map Val.row))] [] (.p (.ps (row.map fun v => [PV.v (.int .u8 (tOf v))]))) [] := by
  refine sk Try.func27 ?_
  intro F G hn hG
  refine sq ?_
  refine rg 1000 ?_
  refine pr [0, 2, 3, 5, 6, 7, 8, 9, 10, 11, 12, 13, 14, 15, 16, 17, 18] ?_
  refine sq ?_
  refine rg 2000 ?_
  refine pr [0, 2, 3, 5, 6, 7, 8, 9, 10, 11, 12, 13, 14, 15, 16, 17, 18] ?_
  refine sq ?_
  refine sq ?_
  refine rg 3000 ?_
  refine pr [2, 3, 5, 6, 7, 8, 9, 10, 11, 12, 13, 14, 15, 16, 17, 18] ?_
  refine k_block ?_
  refine ow (.tmp 3) 900 42 1 ?_
  refine k_loop (fun n l => ∃ i, i + n = row.length ∧ (True) ∧ l = [(.tmp 3, .av (.sl 900 i 0 i)), (.tmp 6, .av (.p (.ps (row.map Val.row)))), (.tmp 7, .av (vv (.int .i64 row.length))), (.tmp 8, .av (vv (.int .i64 i))), (.arr 900, .arr 42 1 ((row.map (fun v => [PV.v (.int .u8 (tOf v))])).take i) 0)]) (row.length) hG ⟨_, ⟨by simp, by simp, by simp⟩, 0, by simp, trivial, rfl⟩ ?_
  rintro n _ ⟨i, hin, hfa, rfl⟩
  refine sq ?_
  refine rg 4000 ?_
  refine pr [2, 3, 5, 6, 7, 8, 9, 10, 11, 12, 13, 14, 15, 16, 17, 18] ?_
  refine sq ?_
  refine cd ?_ ?_
  · intro h9_1
    have hlt : i < row.length := by simpa using h9_1
    obtain ⟨x, hxe⟩ : ∃ x, row[i] = x := ⟨_, rfl⟩
    have hx : row[i]? = some x := by simp [hlt, hxe]
    have hw := wrap_succ (show i < Flat.lim by omega)
    have hmin : min i row.length = i := by omega
    have hlim : (i + 1) * 1 ≤ 140737488355328 := by simp only [Flat.lim] at *; omega
    have hlim1 : i + 1 ≤ 140737488355328 := by simp only [Flat.lim] at *; omega
    have htm0 := tmap_succ (f := (fun v => [PV.v (.int .u8 (tOf v))])) hx
    refine k_skip ?_
    refine sq ?_
    refine k_block ?_
    refine sq ?_
    refine rg 5000 ?_
    refine pr [2, 3, 5, 6, 7, 8, 9, 10, 11, 12, 13, 14, 15, 16, 17, 18] ?_
    refine rc 6000 ?_
    refine oc id (spec57 x) ?_
    refine oe 6100 ?_
    refine on ?_
    refine k_nil ?_
    show AK _ _ _ _ _ _
    refine rg 7000 ?_
    refine k_nil ?_
    refine ⟨n - 1, by omega, _, ⟨?_, ?_, ?_⟩, i + 1, by omega, trivial, rfl⟩ <;> simp [*]
  · intro h9_1
    have hge : row.length ≤ i := by simpa using h9_1
    obtain rfl : i = row.length := by omega
    have htm0 := tmap_all (f := (fun v => [PV.v (.int .u8 (tOf v))])) (Nat.le_refl row.length)
    refine fz 900 ?_
    refine k_exit ?_
    show AK _ _ _ _ _ _
    refine sq ?_
    refine rg 8000 ?_
    refine pr [2] ?_
    refine k_ret ?_
    show retQ _ _ _ _ _ _ _
    simp [*]

attribute [local simp] E.av Val.av E.row_eq in
theorem spec24 (o : Int) (ao ac : Int) (av : Val) (ak : List E) (bo bc : Int) (bv : Val) (bk : List E) : Flat.Sp Try.prog 24 [vv (.int .u8 o), (E.mk ao ac av ak).av, (E.mk bo bc bv bk).av] [] ((E.mk o 0 ⟨false, 0, ⟨#[]⟩⟩ [E.mk ao ac av ak, E.mk bo bc bv bk]).av) [] := by
  refine sk Try.func24 ?_
  intro F G hn hG
  refine sq ?_
  refine rg 1000 ?_
  refine pr [0, 4, 5, 6, 7, 8, 9, 10, 11] ?_
  refine sq ?_
  refine rg 2000 ?_
  refine pr [6] ?_
  refine k_ret ?_
  show retQ _ _ _ _ _ _ _
  simp [*]

attribute [local simp] E.av Val.av E.row_eq in
theorem spec25 (n : Int) : Flat.Sp Try.prog 25 [vv (.int .i64 n)] [] ((E.mk 1 n ⟨false, 0, ⟨#[]⟩⟩ []).av) [] := by
  refine sk Try.func25 ?_
  intro F G hn hG
  refine sq ?_
  refine rg 1000 ?_
  refine pr [0, 2, 3, 4] ?_
  refine sq ?_
  refine rg 2000 ?_
  refine pr [2] ?_
  refine k_ret ?_
  show retQ _ _ _ _ _ _ _
  simp [*]

attribute [local simp] E.av Val.av E.row_eq in
theorem spec21 (n : Int) : Flat.Sp Try.prog 21 [vv (.int .i64 n)] [] ((E.mk 2 0 ⟨false, n, ⟨#[]⟩⟩ []).av) [] := by
  refine sk Try.func21 ?_
  intro F G hn hG
  refine sq ?_
  refine rg 1000 ?_
  refine pr [0, 2, 3, 4, 5] ?_
  refine sq ?_
  refine rg 2000 ?_
  refine pr [2] ?_
  refine k_ret ?_
  show retQ _ _ _ _ _ _ _
  simp [*]

end Go.Proofs
end
section
set_option linter.unusedVariables false
set_option linter.unusedSimpArgs false
namespace Go.Proofs
open Go.Flat
set_option linter.unusedSimpArgs false
set_option linter.unusedVariables false
theorem w64 (n : Int) : IntKind.i64.wrap n = (n + 9223372036854775808) % 18446744073709551616 - 9223372036854775808 := by
  unfold IntKind.wrap
  simp [IntKind.bits, IntKind.signed]
  omega
theorem w64_in {n : Int} (h1 : -9223372036854775808 ≤ n) (h2 : n < 9223372036854775808) : IntKind.i64.wrap n = n := by rw [w64]; omega
theorem w64_add (a b : Int) : IntKind.i64.wrap (IntKind.i64.wrap a + b) = IntKind.i64.wrap (a + b) := by simp only [w64]; omega
mutual
def cnt : E → Int → Int
  | .mk op col c kids, d => if !okE op col c kids.length || decide (d > 16) then 1 else 1 + cntL kids (IntKind.i64.wrap (d + 1))
def cntL : List E → Int → Int
  | [], _ => 0
  | e :: r, d => cnt e d + cntL r d
end
mutual
def dep : E → Int → Int
  | .mk op col c kids, d => if !okE op col c kids.length || decide (d > 16) then d else max d (depL kids (IntKind.i64.wrap (d + 1)))
def depL : List E → Int → Int
  | [], _ => 0
  | e :: r, d => max (dep e d) (depL r d)
end
mutual
def wrg : E → Int → Bool
  | .mk op col c kids, d => if !okE op col c kids.length || decide (d > 16) then !okE op col c kids.length else wrgL kids (IntKind.i64.wrap (d + 1))
def wrgL : List E → Int → Bool
  | [], _ => false
  | e :: r, d => wrg e d || wrgL r d
end
theorem lookL_eq {l : List E} (h : ∀ k ∈ l, ∀ d (s : Srv), 0 ≤ s.2.1 → look k d s = (IntKind.i64.wrap (s.1 + cnt k d), max s.2.1 (dep k d), s.2.2 || wrg k d)) : ∀ d (s : Srv), 0 ≤ s.2.1 → IntKind.i64.wrap s.1 = s.1 → lookL l d s = (IntKind.i64.wrap (s.1 + cntL l d), max s.2.1 (depL l d), s.2.2 || wrgL l d) := by
  induction l with
  | nil =>
    intro d s h0 hw
    simp only [lookL, cntL, depL, wrgL, Int.add_zero, hw, Bool.or_false]
    rw [Int.max_eq_left h0]
  | cons k r ih =>
    intro d s h0 hw
    rw [lookL, h k (by simp) d s h0, ih (fun k hk => h k (by simp [hk])) d _ (by simp only; omega) (by simp only [w64]; omega)]
    simp only [cntL, depL, wrgL, w64_add, Bool.or_assoc, Int.add_assoc, Int.max_assoc]
theorem look_eq : ∀ (e : E) d (s : Srv), 0 ≤ s.2.1 → look e d s = (IntKind.i64.wrap (s.1 + cnt e d), max s.2.1 (dep e d), s.2.2 || wrg e d) := by
  refine E.ind fun op col c kids ih d s h0 => ?_
  rw [look, cnt, dep, wrg]
  have hm : (if d > s.2.1 then d else s.2.1) = max s.2.1 d := by
    split <;> omega
  by_cases hc : (!okE op col c kids.length || decide (d > 16)) = true
  · rw [if_pos hc, if_pos hc, if_pos hc, if_pos hc, hm]
  · rw [if_neg hc, if_neg hc, if_neg hc, if_neg hc]
    have hok : okE op col c kids.length = true := by
      simp only [Bool.or_eq_true, Bool.not_eq_true', decide_eq_true_eq, not_or, Bool.not_eq_false] at hc
      exact hc.1
    rw [lookL_eq ih _ _ (by simp only [hm]; omega) (by simp only [w64]; omega)]
    simp only [hm, hok, Bool.not_true, Bool.or_false, w64_add, Int.add_assoc, Int.max_assoc]
theorem checkE_eq (e : E) (hd : 0 ≤ dep e 1) : checkE e = if wrg e 1 then 4 else if decide (64 < IntKind.i64.wrap (cnt e 1)) then 2 else if decide (16 < dep e 1) then 2 else 0 := by
  unfold checkE
  simp only [look_eq e 1 (0, 0, false) (by simp), Int.zero_add, Bool.false_or, Int.max_eq_right hd]
theorem dep_ge : ∀ (e : E) d, d ≤ dep e d := by
  refine E.ind fun op col c kids ih d => ?_
  rw [dep]
  split
  · omega
  · omega
theorem depL_ge : ∀ (l : List E) d, 0 ≤ depL l d
  | [], d => by simp [depL]
  | e :: r, d => by have := depL_ge r d; rw [depL]; omega
/-- A bound on how many are looked at. -/
def pw : Nat → Int
  | 0 => 1
  | k + 1 => 1 + 3 * pw k
theorem pw_pos : ∀ k, 1 ≤ pw k
  | 0 => by simp [pw]
  | k + 1 => by have := pw_pos k; simp only [pw]; omega
theorem cntL_le {b : Int} (hb : 0 ≤ b) {l : List E} {d : Int} (h : ∀ k ∈ l, 0 ≤ cnt k d ∧ cnt k d ≤ b) : 0 ≤ cntL l d ∧ cntL l d ≤ l.length * b := by
  induction l with
  | nil => simp [cntL]
  | cons k r ih =>
    have h1 := h k (by simp)
    have h2 := ih fun k hk => h k (by simp [hk])
    rw [cntL, List.length_cons]
    refine ⟨by omega, ?_⟩
    have : ((r.length + 1 : Nat) : Int) * b = r.length * b + b := by rw [Int.natCast_add, Int.add_mul]; simp
    omega
theorem cnt_le : ∀ (e : E) (k : Nat) (d : Int), k ≤ 17 → d = 17 - (k : Int) → 0 ≤ cnt e d ∧ cnt e d ≤ pw k := by
  refine E.ind fun op col c kids ih k d hk17 hd => ?_
  have hp := pw_pos k
  rw [cnt]
  split
  · omega
  · rename_i hc
    simp only [Bool.or_eq_true, Bool.not_eq_true', decide_eq_true_eq, not_or, Bool.not_eq_false] at hc
    have hl := okE_len hc.1
    cases k with
    | zero => omega
    | succ k =>
      have hk := pw_pos k
      have hw : IntKind.i64.wrap (d + 1) = d + 1 := by
        rw [w64]
        omega
      rw [hw]
      have := cntL_le (b := pw k) (by omega) (l := kids) (d := d + 1) fun x hx => ih x hx k (d + 1) (by omega) (by omega)
      simp only [pw]
      have h3 : (kids.length : Int) * pw k ≤ 3 * pw k := Int.mul_le_mul_of_nonneg_right (by omega) (by omega)
      omega
theorem cnt_in (e : E) (d : Int) (h1 : 0 ≤ d) (h2 : d ≤ 17) : 0 ≤ cnt e d ∧ cnt e d ≤ 193710244 := by
  have := cnt_le e (17 - d).toNat d (by omega) (by omega)
  have hp : ∀ k, k ≤ 17 → pw k ≤ 193710244 := by decide
  have := hp (17 - d).toNat (by omega)
  omega
theorem checkE_cases (e : E) : checkE e = if wrg e 1 then 4 else if decide (64 < cnt e 1) || decide (16 < dep e 1) then 2 else 0 := by
  have h1 := dep_ge e 1
  have h2 := cnt_in e 1 (by omega) (by omega)
  rw [checkE_eq e (by omega), w64_in (by omega) (by omega)]
  cases wrg e 1 <;> by_cases h : 64 < cnt e 1 <;> by_cases h' : 16 < dep e 1 <;> simp [h, h']
theorem checkE_zero {e : E} : checkE e = 0 ↔ wrg e 1 = false ∧ cnt e 1 ≤ 64 ∧ dep e 1 ≤ 16 := by
  rw [checkE_cases]
  cases wrg e 1 <;> by_cases h : 64 < cnt e 1 <;> by_cases h' : 16 < dep e 1 <;> simp [h, h'] <;> omega
theorem checkE_range (e : E) : checkE e = 0 ∨ checkE e = 2 ∨ checkE e = 4 := by
  rw [checkE_cases]
  cases wrg e 1 <;> by_cases h : 64 < cnt e 1 <;> by_cases h' : 16 < dep e 1 <;> simp [h, h']
def vZ : Val := ⟨false, 0, ⟨#[]⟩⟩
def eCon (n : Int) : E := .mk 2 0 ⟨false, n, ⟨#[]⟩⟩ []
def eCol (n : Int) : E := .mk 1 n vZ []
def eTwo (o : Int) (a b : E) : E := .mk o 0 vZ [a, b]
@[simp] theorem okE_con (n : Int) : okE 2 0 ⟨false, n, ⟨#[]⟩⟩ 0 = true := by simp [okE, okA, kidsOf, Val.eqB, checkRow, badRow, firstBad, Val.right]
@[simp] theorem okE_col (n : Int) : okE 1 n vZ 0 = true := by simp [okE, okA, kidsOf, Val.eqB, checkRow, badRow, firstBad, Val.right, vZ]
theorem okE_two {o : Int} (h : o = 3 ∨ o = 4 ∨ o = 5 ∨ o = 7 ∨ o = 8 ∨ o = 9 ∨ o = 10) : okE o 0 vZ 2 = true := by
  rcases h with rfl | rfl | rfl | rfl | rfl | rfl | rfl <;> simp [okE, okA, kidsOf, Val.eqB, checkRow, badRow, firstBad, Val.right, vZ]
theorem okE_one {o : Int} (h : o = 6 ∨ o = 11) : okE o 0 vZ 1 = true := by
  rcases h with rfl | rfl <;> simp [okE, okA, kidsOf, Val.eqB, checkRow, badRow, firstBad, Val.right, vZ]
@[simp] theorem okE_if : okE 12 0 vZ 3 = true := by simp [okE, okA, kidsOf, Val.eqB, checkRow, badRow, firstBad, Val.right, vZ]
theorem con_cnt (n d : Int) : cnt (eCon n) d = 1 := by simp [eCon, cnt, cntL]
theorem con_dep (n d : Int) (hd : 0 ≤ d) : dep (eCon n) d = d := by simp [eCon, dep, depL]; omega
theorem con_wrg (n d : Int) : wrg (eCon n) d = false := by simp [eCon, wrg, wrgL]
theorem col_cnt (n d : Int) : cnt (eCol n) d = 1 := by simp [eCol, cnt, cntL]
theorem col_dep (n d : Int) (hd : 0 ≤ d) : dep (eCol n) d = d := by simp [eCol, dep, depL]; omega
theorem col_wrg (n d : Int) : wrg (eCol n) d = false := by simp [eCol, wrg, wrgL]
theorem two_chk {o : Int} (a b : E) (h : o = 3 ∨ o = 4 ∨ o = 5 ∨ o = 7 ∨ o = 8 ∨ o = 9 ∨ o = 10) : wrg (eTwo o a b) 1 = (wrg a 2 || wrg b 2) ∧ cnt (eTwo o a b) 1 = 1 + (cnt a 2 + cnt b 2) ∧ dep (eTwo o a b) 1 = max 1 (max (dep a 2) (max (dep b 2) 0)) := by
  have hok := okE_two h
  simp [eTwo, cnt, dep, wrg, cntL, depL, wrgL, hok]
/-- Who is not needed is not asked. -/
theorem lazy_checks {e : E} (h : checkE (.mk 12 0 vZ [eCon 1, eCon 7, e]) = 0) (o : Int) (ho : o = 9 ∨ o = 10) (n : Int) : checkE (eTwo o (eCon n) e) = 0 := by
  rw [checkE_zero] at h ⊢
  obtain ⟨h1, h2, h3⟩ := two_chk (o := o) (eCon n) e (by omega)
  have hd := dep_ge e 2
  have e1 : cnt (.mk 12 0 vZ [eCon 1, eCon 7, e]) 1 = 1 + (1 + (1 + cnt e 2)) := by simp [cnt, cntL, con_cnt]
  have e2 : dep (.mk 12 0 vZ [eCon 1, eCon 7, e]) 1 = max 1 (max 2 (max 2 (max (dep e 2) 0))) := by simp [dep, depL, con_dep]
  have e3 : wrg (.mk 12 0 vZ [eCon 1, eCon 7, e]) 1 = wrg e 2 := by simp [wrg, wrgL, con_wrg]
  rw [e1, e2, e3] at h
  rw [h1, h2, h3, con_cnt, con_wrg, con_dep n 2 (by omega)]
  obtain ⟨g1, g2, g3⟩ := h
  refine ⟨by simpa using g1, by omega, by omega⟩
theorem eval_ok {row : List Val} {e : E} (h : checkE e = 0) : evalE row e = if checkRow row != 0 then (vZ, checkRow row) else if (reck row e 0).2 != 0 then (vZ, (reck row e 0).2) else ((reck row e 0).1, 0) := by
  unfold evalE
  rw [h]
  rfl
theorem lazy_law {row : List Val} {e : E} (h : checkE (.mk 12 0 vZ [eCon 1, eCon 7, e]) = 0) :
    (((evalE row (eTwo 9 (eCon 0) e)).2 != 0) = true → (evalE row (eTwo 9 (eCon 0) e)).2 = checkRow row ∧ (evalE row (eTwo 10 (eCon 2) e)).2 = checkRow row ∧ (evalE row (.mk 12 0 vZ [eCon 1, eCon 7, e])).2 = checkRow row) ∧
    (((evalE row (eTwo 9 (eCon 0) e)).2 != 0) = false → (evalE row (eTwo 9 (eCon 0) e)).1.n = 0 ∧ (evalE row (eTwo 10 (eCon 2) e)).2 = 0 ∧ (evalE row (eTwo 10 (eCon 2) e)).1.n = 1 ∧ (evalE row (.mk 12 0 vZ [eCon 1, eCon 7, e])).2 = 0 ∧ (evalE row (.mk 12 0 vZ [eCon 1, eCon 7, e])).1.n = 7) := by
  rw [eval_ok h, eval_ok (lazy_checks h 9 (by omega) 0), eval_ok (lazy_checks h 10 (by omega) 2)]
  have r1 : reck row (eTwo 9 (eCon 0) e) 0 = (Val.num 0, 0) := by simp [eTwo, eCon, reck, recks, stepR, sumR, numF, unlessF, bitV]
  have r2 : reck row (eTwo 10 (eCon 2) e) 0 = (Val.num 1, 0) := by simp [eTwo, eCon, reck, recks, stepR, sumR, numF, unlessF, bitV]
  have r3 : reck row (.mk 12 0 vZ [eCon 1, eCon 7, e]) 0 = (Val.num 7, 0) := by simp [eTwo, eCon, reck, recks, stepR, sumR, numF, unlessF, bitV, Val.num]
  rw [r1, r2, r3]
  cases hc : checkRow row != 0 with
  | true => simp at hc; simp [hc]
  | false => simp [Val.num]
end Go.Proofs
end
section
set_option linter.unusedVariables false
set_option linter.unusedSimpArgs false
namespace Go.Proofs
open Go.Flat
set_option linter.unusedSimpArgs false
set_option linter.unusedVariables false
def i64 (n : Int) : Prop := -9223372036854775808 ≤ n ∧ n < 9223372036854775808
theorem fdiv63 (n : Int) : n.fdiv 9223372036854775808 = n / 9223372036854775808 := Int.fdiv_eq_ediv_of_nonneg _ (by omega)
/-- What two words are, up to what does not fit into them. -/
def V (p : Int × Int) : Int := p.1 * 18446744073709551616 + p.2
theorem tadd_V {p : Int × Int} (hp : tin p) {n : Int} (hn : i64 n) : ∃ k : Int, V (tadd p n) = V p + n + k * 340282366920938463463374607431768211456 := by
  unfold tin at hp
  unfold i64 at hn
  unfold V tadd
  simp only [fdiv63, wrapU]
  by_cases h0 : 0 ≤ n
  · have e : n / 9223372036854775808 = 0 := by omega
    rw [e]
    exact ⟨-((p.1 + 0 % 18446744073709551616 + (p.2 + n % 18446744073709551616) / 18446744073709551616) / 18446744073709551616), by omega⟩
  · have e : n / 9223372036854775808 = -1 := by omega
    rw [e]
    exact ⟨1 - ((p.1 + -1 % 18446744073709551616 + (p.2 + n % 18446744073709551616) / 18446744073709551616) / 18446744073709551616), by omega⟩
theorem tsum_V {xs : List Int} (h : ∀ x ∈ xs, i64 x) : ∀ p, tin p → ∃ k : Int, V (xs.foldl tadd p) = V p + xs.sum + k * 340282366920938463463374607431768211456 := by
  induction xs with
  | nil => intro p hp; exact ⟨0, by simp⟩
  | cons x r ih =>
    intro p hp
    obtain ⟨k, hk⟩ := tadd_V hp (h x (by simp))
    obtain ⟨k', hk'⟩ := ih (fun y hy => h y (by simp [hy])) (tadd p x) (tadd_in hp x)
    refine ⟨k + k', ?_⟩
    rw [List.foldl_cons, hk', hk, List.sum_cons]
    omega
theorem sum_bound {xs : List Int} (h : ∀ x ∈ xs, i64 x) : -(xs.length * 9223372036854775808 : Int) ≤ xs.sum ∧ xs.sum ≤ xs.length * 9223372036854775808 := by
  induction xs with
  | nil => simp
  | cons x r ih =>
    have h1 := h x (by simp)
    have h2 := ih fun y hy => h y (by simp [hy])
    unfold i64 at h1
    rw [List.sum_cons, List.length_cons]
    omega
theorem tfit_V {p : Int × Int} (hp : tin p) {s k : Int} (h : V p = s + k * 340282366920938463463374607431768211456) (hs1 : -85070591730234615865843651857942052864 ≤ s) (hs2 : s ≤ 85070591730234615865843651857942052864) :
    tfit p = if -9223372036854775808 ≤ s ∧ s < 9223372036854775808 then (s, 0) else (0, 10) := by
  unfold tin at hp
  unfold V at h
  unfold tfit tfits
  rw [fdiv63, wrapU, w64]
  by_cases hc : -9223372036854775808 ≤ s ∧ s < 9223372036854775808
  · rw [if_pos hc]
    have e1 : (p.2 + 9223372036854775808) % 18446744073709551616 - 9223372036854775808 = s := by omega
    rw [e1, if_pos]
    simp only [beq_iff_eq]
    omega
  · rw [if_neg hc, if_neg]
    simp only [beq_iff_eq]
    generalize hx : (p.2 + 9223372036854775808) % 18446744073709551616 - 9223372036854775808 = x
    have : x / 9223372036854775808 = 0 ∨ x / 9223372036854775808 = -1 := by omega
    rcases this with e | e <;> rw [e] <;> omega
theorem tfit_sum {xs : List Int} (h : ∀ x ∈ xs, i64 x) (hl : xs.length ≤ 1073741824) : tfit (tsum xs) = if -9223372036854775808 ≤ xs.sum ∧ xs.sum < 9223372036854775808 then (xs.sum, 0) else (0, 10) := by
  obtain ⟨k, hk⟩ := tsum_V h (0, 0) (by simp [tin])
  have hb := sum_bound h
  have : (xs.length : Int) ≤ 1073741824 := by omega
  refine tfit_V (tsum_in xs) (k := k) (by simpa [V, tsum] using hk) ?_ ?_
  · have : (xs.length : Int) * 9223372036854775808 ≤ 1073741824 * 9223372036854775808 := by omega
    omega
  · omega
theorem bxor_neg (b : Int) (hb : i64 b) : IntKind.i64.wrap (bxorN .i64 (-1) b) = -1 - b := by
  unfold i64 at hb
  have h : (bxorN .i64 (-1) b) = (-1 - b) % 18446744073709551616 := by
    unfold bxorN
    show (((BitVec.ofInt 64 (-1) ^^^ BitVec.ofInt 64 b).toNat : Nat) : Int) = _
    have h1 : BitVec.ofInt 64 (-1) = BitVec.allOnes 64 := by decide
    rw [h1, BitVec.allOnes_xor, BitVec.toNat_not, BitVec.toNat_ofInt]
    omega
  rw [h, w64]
  omega
/-- A number less another one. -/
theorem lessR_eq {a b : Int} (ha : i64 a) (hb : i64 b) : lessR a b = if -9223372036854775808 ≤ a - b ∧ a - b < 9223372036854775808 then (a - b, 0) else (0, 10) := by
  unfold lessR
  rw [bxor_neg b hb, tfit_sum (by unfold i64 at *; simp; omega) (by simp)]
  have : [a, -1 - b, 1].sum = a - b := by simp; omega
  rw [this]
theorem sum2_eq {a b : Int} (ha : i64 a) (hb : i64 b) : tfit (tsum [a, b]) = if -9223372036854775808 ≤ a + b ∧ a + b < 9223372036854775808 then (a + b, 0) else (0, 10) := by
  rw [tfit_sum (by unfold i64 at *; simp; omega) (by simp)]
  simp
end Go.Proofs
end
section
set_option linter.unusedVariables false
set_option linter.unusedSimpArgs false
namespace Go.Proofs
open Go.Flat
set_option linter.unusedSimpArgs false
set_option linter.unusedVariables false
def lE : E := eTwo 7 (eTwo 3 (eCol 0) (eCon 1)) (eCol 1)
theorem lE_chk : checkE lE = 0 := by
  rw [checkE_zero]
  simp [lE, eTwo, eCol, eCon, cnt, dep, wrg, cntL, depL, wrgL, okE, okA, kidsOf, Val.eqB, checkRow, badRow, firstBad, Val.right, vZ] <;> omega
theorem sum_11 : tfit (tsum [1, 1]) = (2, 0) := by rw [sum2_eq (by unfold i64; omega) (by unfold i64; omega)]; simp
theorem sum_max1 : tfit (tsum [9223372036854775807, 1]) = (0, 10) := by rw [sum2_eq (by unfold i64; omega) (by unfold i64; omega)]; simp
theorem lE_1 : evalE [⟨false, 1, ⟨#[]⟩⟩, ⟨false, 2, ⟨#[]⟩⟩] lE = (Val.num 0, 0) := by
  rw [eval_ok lE_chk]
  simp [lE, eTwo, eCol, eCon, checkRow, badRow, firstBad, Val.right, reck, recks, stepR, sumR, numF, unlessF, bitV, fitF, Val.cmp, cmpI, Val.num, vZ, sum_11]
theorem lE_2 : evalE [⟨false, 1, ⟨#[]⟩⟩, ⟨false, 3, ⟨#[]⟩⟩] lE = (Val.num 1, 0) := by
  rw [eval_ok lE_chk]
  simp [lE, eTwo, eCol, eCon, checkRow, badRow, firstBad, Val.right, reck, recks, stepR, sumR, numF, unlessF, bitV, fitF, Val.cmp, cmpI, Val.num, vZ, sum_11]
theorem lE_3 : evalE [⟨false, 9223372036854775807, ⟨#[]⟩⟩, ⟨false, 3, ⟨#[]⟩⟩] lE = (vZ, 10) := by
  rw [eval_ok lE_chk]
  simp [lE, eTwo, eCol, eCon, checkRow, badRow, firstBad, Val.right, reck, recks, stepR, sumR, numF, unlessF, bitV, fitF, Val.cmp, cmpI, Val.num, vZ, sum_max1]
theorem lE_4 : inferE [1, 1] lE = (1, 0) := by
  unfold inferE
  rw [lE_chk]
  simp [lE, eTwo, eCol, eCon, judge, judgeL, at3, unlessF, tOf]
theorem lE_5 : inferE [1, 2] lE = (0, 11) := by
  unfold inferE
  rw [lE_chk]
  simp [lE, eTwo, eCol, eCon, judge, judgeL, at3, unlessF, tOf]

/-! ### the order of values -/
theorem less_tri : ∀ a b : List UInt8, (Op.bytesLess a b = true ∧ a ≠ b ∧ Op.bytesLess b a = false) ∨ (Op.bytesLess a b = false ∧ a = b ∧ Op.bytesLess b a = false) ∨ (Op.bytesLess a b = false ∧ a ≠ b ∧ Op.bytesLess b a = true)
  | [], [] => by simp [Op.bytesLess]
  | [], b :: y => by simp [Op.bytesLess]
  | a :: x, [] => by simp [Op.bytesLess]
  | a :: x, b :: y => by
    have ih := less_tri x y
    simp only [Op.bytesLess, ne_eq, List.cons.injEq, not_and]
    by_cases h1 : a < b
    · have h2 : ¬ b < a := by rw [UInt8.lt_iff_toNat_lt] at *; omega
      have h3 : a ≠ b := by rintro rfl; rw [UInt8.lt_iff_toNat_lt] at h1; omega
      simp [h1, h2, h3, Ne.symm h3]
    · by_cases h2 : b < a
      · have h3 : a ≠ b := by rintro rfl; exact h1 h2
        simp [h1, h2, h3, Ne.symm h3]
      · have h3 : a = b := by
          apply UInt8.toNat_inj.1
          rw [UInt8.lt_iff_toNat_lt] at *
          omega
        subst h3
        simpa [h1] using ih
/-- Of two values of one type just one of three things holds. -/
theorem cmp_tri {a b : Val} (h : a.t = b.t) : (a.cmp b < 0 ∧ a.cmp b ≠ 0 ∧ ¬ b.cmp a < 0) ∨ (¬ a.cmp b < 0 ∧ a.cmp b = 0 ∧ ¬ b.cmp a < 0) ∨ (¬ a.cmp b < 0 ∧ a.cmp b ≠ 0 ∧ b.cmp a < 0) := by
  unfold Val.cmp
  rw [h]
  cases b.t
  · simp only [bne_self_eq_false, Bool.false_eq_true, if_false, cmpI]
    by_cases h1 : a.n < b.n
    · have h2 : ¬ b.n < a.n := by omega
      simp [h1, h2]
    · by_cases h2 : b.n < a.n
      · simp [h1, h2]
      · simp [h1, h2]
  · simp only [bne_self_eq_false, Bool.false_eq_true, if_false, if_true, cmpS]
    rcases less_tri a.s.toList b.s.toList with ⟨h1, h2, h3⟩ | ⟨h1, h2, h3⟩ | ⟨h1, h2, h3⟩
    · simp [h1, h2, h3, Ne.symm h2]
    · rw [h2] at h1 h3 ⊢; simp [h3]
    · simp [h1, h2, h3, Ne.symm h2]
theorem chk_cols {o : Int} (i k : Int) (h : o = 7 ∨ o = 8) : checkE (eTwo o (eCol i) (eCol k)) = 0 := by
  rw [checkE_zero]
  obtain ⟨h1, h2, h3⟩ := two_chk (o := o) (eCol i) (eCol k) (by omega)
  rw [h1, h2, h3, col_wrg, col_wrg, col_cnt, col_cnt, col_dep i 2 (by omega), col_dep k 2 (by omega)]
  refine ⟨rfl, by omega, by omega⟩
def colV (row : List Val) (i : Int) : Option Val := if decide (i < 0) || decide ((row.length : Int) ≤ i) then none else some (row.getD i.toNat vZ)
theorem reck_col (row : List Val) (i : Int) : reck row (eCol i) 0 = match colV row i with
    | none => (vZ, 1)
    | some v => (v, 0) := by
  have e : reck row (eCol i) 0 = if decide (i < 0) || decide ((row.length : Int) ≤ i) then (vZ, 1) else (row.getD i.toNat vZ, 0) := by
    simp [eCol, reck, recks, stepR, unlessF, vZ]
  rw [e]
  unfold colV
  cases decide (i < 0) || decide ((row.length : Int) ≤ i) <;> rfl
theorem reck_err (row : List Val) (e : E) (w : Int) (hw : w ≠ 0) : reck row e w = (vZ, w) := by
  obtain ⟨op, col, c, kids⟩ := e
  simp [reck, stepR, hw, vZ]
theorem reck_cmp (row : List Val) (o : Int) (a b : E) (h : o = 7 ∨ o = 8) : reck row (eTwo o a b) 0 =
    (bitV ((decide ((reck row a 0).1.cmp (reck row b (reck row a 0).2).1 < 0) && o == 7) || ((reck row a 0).1.cmp (reck row b (reck row a 0).2).1 == 0 && o == 8)), unlessF (reck row b (reck row a 0).2).2 ((reck row a 0).1.t == (reck row b (reck row a 0).2).1.t) 11) := by
  rcases h with rfl | rfl <;> simp [eTwo, reck, recks, stepR]
theorem line_law (row : List Val) (i k : Int) :
    (((evalE row (eTwo 7 (eCol i) (eCol k))).2 != 0) = true → (evalE row (eTwo 8 (eCol i) (eCol k))).2 = (evalE row (eTwo 7 (eCol i) (eCol k))).2 ∧ (evalE row (eTwo 7 (eCol k) (eCol i))).2 = (evalE row (eTwo 7 (eCol i) (eCol k))).2) ∧
    (((evalE row (eTwo 7 (eCol i) (eCol k))).2 != 0) = false → (evalE row (eTwo 8 (eCol i) (eCol k))).2 = 0 ∧ (evalE row (eTwo 7 (eCol k) (eCol i))).2 = 0 ∧
      IntKind.i64.wrap (IntKind.i64.wrap ((evalE row (eTwo 7 (eCol i) (eCol k))).1.n + (evalE row (eTwo 8 (eCol i) (eCol k))).1.n) + (evalE row (eTwo 7 (eCol k) (eCol i))).1.n) = 1) := by
  rw [eval_ok (chk_cols i k (.inl rfl)), eval_ok (chk_cols i k (.inr rfl)), eval_ok (chk_cols k i (.inl rfl))]
  cases hr : checkRow row != 0 with
  | true => simp at hr; simp [hr]
  | false =>
    simp only [Bool.false_eq_true, if_false]
    rw [reck_cmp row 7 _ _ (by omega), reck_cmp row 8 _ _ (by omega), reck_cmp row 7 _ _ (by omega), reck_col, reck_col]
    cases hi : colV row i with
    | none =>
      cases hk : colV row k with
      | none => simp [reck_err, unlessF]
      | some y => simp [reck_err, reck_col, hi, unlessF]
    | some x =>
      cases hk : colV row k with
      | none => simp [reck_err, reck_col, hi, hk, unlessF]
      | some y =>
        simp only [reck_col, hi, hk]
        by_cases ht : x.t = y.t
        · rcases cmp_tri ht with ⟨h1, h2, h3⟩ | ⟨h1, h2, h3⟩ | ⟨h1, h2, h3⟩ <;> simp [unlessF, ht, h1, h2, h3, bitV, Val.num] <;> rfl
        · simp [unlessF, ht, Ne.symm ht]
/-! ### a number less another one -/
theorem con_two_chk {o : Int} (a b : Int) (h : o = 3 ∨ o = 4 ∨ o = 5 ∨ o = 7 ∨ o = 8 ∨ o = 9 ∨ o = 10) : checkE (eTwo o (eCon a) (eCon b)) = 0 := by
  rw [checkE_zero]
  obtain ⟨h1, h2, h3⟩ := two_chk (o := o) (eCon a) (eCon b) h
  rw [h1, h2, h3, con_wrg, con_wrg, con_cnt, con_cnt, con_dep a 2 (by omega), con_dep b 2 (by omega)]
  refine ⟨rfl, by omega, by omega⟩
def eNeg (a : E) : E := .mk 6 0 vZ [a]
theorem neg_sub_chk (a b : Int) : checkE (eNeg (eTwo 4 (eCon b) (eCon a))) = 0 := by
  rw [checkE_zero]
  have h1 := okE_one (o := 6) (by omega)
  have h2 := okE_two (o := 4) (by omega)
  refine ⟨?_, ?_, ?_⟩
  · simp [eNeg, eTwo, eCon, wrg, wrgL, h1, h2]
  · simp [eNeg, eTwo, eCon, cnt, cntL, h1, h2]
  · simp [eNeg, eTwo, eCon, dep, depL, h1, h2] <;> omega
theorem neg_neg_chk (a : Int) : checkE (eNeg (eNeg (eCon a))) = 0 := by
  rw [checkE_zero]
  have h1 := okE_one (o := 6) (by omega)
  refine ⟨?_, ?_, ?_⟩
  · simp [eNeg, eCon, wrg, wrgL, h1]
  · simp [eNeg, eCon, cnt, cntL, h1]
  · simp [eNeg, eCon, dep, depL, h1] <;> omega
theorem chk_nil : checkRow [] = 0 := by simp [checkRow, badRow, firstBad]
theorem eqB_refl (v : Val) : v.eqB v = true := by simp [Val.eqB]
theorem turned_law {a b : Int} (ha : i64 a) (hb : i64 b) :
    ((evalE [] (eTwo 4 (eCon a) (eCon b))).2 == 0 && ((evalE [] (eNeg (eTwo 4 (eCon b) (eCon a)))).2 == 0 && !(Val.eqB (evalE [] (eTwo 4 (eCon a) (eCon b))).1 (evalE [] (eNeg (eTwo 4 (eCon b) (eCon a)))).1))) = false ∧
    ((evalE [] (eNeg (eNeg (eCon a)))).2 == 10 && a == IntKind.i64.wrap (0 - a) || (evalE [] (eNeg (eNeg (eCon a)))).2 == 0 && (evalE [] (eNeg (eNeg (eCon a)))).1.n == a) = true := by
  have e1 : reck [] (eTwo 4 (eCon a) (eCon b)) 0 = if -9223372036854775808 ≤ a - b ∧ a - b < 9223372036854775808 then (Val.num (a - b), 0) else (Val.num 0, 10) := by
    have : reck [] (eTwo 4 (eCon a) (eCon b)) 0 = fitF (lessR a b) 0 := by simp [eTwo, eCon, reck, recks, stepR, sumR, numF, unlessF]
    rw [this, lessR_eq ha hb]
    split <;> simp [fitF, unlessF]
  have e2 : reck [] (eNeg (eTwo 4 (eCon b) (eCon a))) 0 = if -9223372036854775808 ≤ b - a ∧ b - a < 9223372036854775808 then fitF (lessR 0 (b - a)) 0 else (vZ, 10) := by
    have : reck [] (eNeg (eTwo 4 (eCon b) (eCon a))) 0 = sumR 6 (fitF (lessR b a) 0).1.n noF noF (fitF (lessR b a) 0).2 := by
      simp [eNeg, eTwo, eCon, reck, recks, stepR, numF, sumR, unlessF, fitF, Val.num]
    rw [this, lessR_eq hb ha]
    split <;> simp [fitF, sumR, unlessF, Val.num, vZ]
  have e3 : reck [] (eNeg (eNeg (eCon a))) 0 = if a = -9223372036854775808 then (vZ, 10) else (Val.num a, 0) := by
    have : reck [] (eNeg (eNeg (eCon a))) 0 = sumR 6 (fitF (lessR 0 a) 0).1.n noF noF (fitF (lessR 0 a) 0).2 := by
      simp [eNeg, eCon, reck, recks, stepR, numF, sumR, unlessF, fitF, Val.num]
    rw [this, lessR_eq (by unfold i64; omega) ha]
    unfold i64 at ha
    by_cases hm : a = -9223372036854775808
    · subst hm; simp [fitF, sumR, unlessF, vZ]
    · rw [if_pos (by omega), if_neg hm]
      simp only [fitF, Val.num, unlessF, Int.zero_sub]
      have := lessR_eq (a := 0) (b := -a) (by unfold i64; omega) (by unfold i64; omega)
      rw [if_pos (by omega)] at this
      simp [sumR, this, fitF, unlessF, Val.num]
  rw [eval_ok (con_two_chk a b (by omega)), eval_ok (neg_sub_chk a b), eval_ok (neg_neg_chk a), chk_nil, e1, e2, e3]
  constructor
  · by_cases h1 : -9223372036854775808 ≤ a - b ∧ a - b < 9223372036854775808
    · by_cases h2 : -9223372036854775808 ≤ b - a ∧ b - a < 9223372036854775808
      · have e := lessR_eq (a := 0) (b := b - a) (by unfold i64; omega) (by unfold i64; omega)
        rw [if_pos (by omega), show (0 : Int) - (b - a) = a - b by omega] at e
        rw [if_pos h1, if_pos h2, e]
        simp [fitF, unlessF, eqB_refl]
      · rw [if_neg h2]; simp
    · rw [if_neg h1]; simp
  · by_cases h : a = -9223372036854775808
    · subst h; simp [w64]
    · simp [h, Val.num]
/-! ### the order of two -/
theorem timesR_comm (a b : Int) : timesR a b = timesR b a := by
  unfold timesR
  rw [Int.mul_comm (size64 a), Int.mul_comm a b]
  have : (decide (a < 0) == decide (b < 0)) = (decide (b < 0) == decide (a < 0)) := by cases decide (a < 0) <;> cases decide (b < 0) <;> rfl
  rw [this]
theorem tsum_comm (a b : Int) (h : a = a) : tsum [a, b] = tsum [b, a] := by
  simp only [tsum, List.foldl_cons, List.foldl_nil, tadd, Prod.mk.injEq, wrapU, fdiv63]
  omega
theorem two_chk_comm {o : Int} (a b : E) (h : o = 3 ∨ o = 5) : checkE (eTwo o a b) = checkE (eTwo o b a) := by
  obtain ⟨h1, h2, h3⟩ := two_chk (o := o) a b (by omega)
  obtain ⟨g1, g2, g3⟩ := two_chk (o := o) b a (by omega)
  rw [checkE_cases, checkE_cases, h1, h2, h3, g1, g2, g3, Bool.or_comm, Int.add_comm (cnt a 2), show max (dep a 2) (max (dep b 2) 0) = max (dep b 2) (max (dep a 2) 0) by omega]
def num0 (row : List Val) (e : E) : Int × Int := numF (reck row e) 0
theorem numF_err (row : List Val) (e : E) (w : Int) (hw : w ≠ 0) : numF (reck row e) w = (0, w) := by
  simp [numF, reck_err row e w hw, vZ, unlessF, hw]
theorem reck_sum (row : List Val) {o : Int} (a b : E) (h : o = 3 ∨ o = 5) : reck row (eTwo o a b) 0 =
    if (num0 row a).2 != 0 then (vZ, (num0 row a).2) else fitF (if o == 3 then tfit (tsum [(num0 row a).1, (num0 row b).1]) else timesR (num0 row a).1 (num0 row b).1) (num0 row b).2 := by
  have : reck row (eTwo o a b) 0 = sumR o (num0 row a).1 (reck row b) noF (num0 row a).2 := by
    rcases h with rfl | rfl <;> simp [eTwo, reck, recks, stepR, num0]
  rw [this]
  by_cases h0 : (num0 row a).2 = 0
  · rw [h0]; rcases h with rfl | rfl <;> simp [sumR, num0]
  · rcases h with rfl | rfl <;> simp [sumR, h0, vZ]
theorem fitF_2 (r : Int × Int) (w : Int) : ((fitF r w).2 == 0) = (w == 0 && r.2 == 0) := by
  unfold fitF unlessF
  by_cases h1 : w = 0 <;> by_cases h2 : r.2 = 0 <;> simp [h1, h2]
theorem sums_law (row : List Val) {o : Int} (a b : E) (h : o = 3 ∨ o = 5) :
    (((evalE row (eTwo o a b)).2 == 0) != ((evalE row (eTwo o b a)).2 == 0) || ((evalE row (eTwo o a b)).2 == 0 && !(Val.eqB (evalE row (eTwo o a b)).1 (evalE row (eTwo o b a)).1))) = false := by
  have hcc := two_chk_comm a b h
  by_cases hc : checkE (eTwo o a b) = 0
  · rw [eval_ok hc, eval_ok (hcc ▸ hc)]
    cases hr : checkRow row != 0 with
    | true => simp at hr; simp [hr]
    | false =>
      simp only [Bool.false_eq_true, if_false]
      have hs : (if o == 3 then tfit (tsum [(num0 row a).1, (num0 row b).1]) else timesR (num0 row a).1 (num0 row b).1) = (if o == 3 then tfit (tsum [(num0 row b).1, (num0 row a).1]) else timesR (num0 row b).1 (num0 row a).1) := by
        rw [tsum_comm _ _ rfl, timesR_comm]
      rw [reck_sum row a b h, reck_sum row b a h, hs]
      generalize (if o == 3 then tfit (tsum [(num0 row b).1, (num0 row a).1]) else timesR (num0 row b).1 (num0 row a).1) = r
      by_cases h1 : (num0 row a).2 = 0 <;> by_cases h2 : (num0 row b).2 = 0 <;> by_cases h3 : r.2 = 0 <;> simp [h1, h2, h3, fitF, unlessF, eqB_refl, vZ] <;> rw [beq_eq_false_iff_ne.2 h1, beq_eq_false_iff_ne.2 h2]
  · unfold evalE
    rw [← hcc]
    simp [hc]
theorem sums_facts (row : List Val) {o : Int} (a b : E) (h : o = 3 ∨ o = 5) :
    ((evalE row (eTwo o a b)).2 == 0) = ((evalE row (eTwo o b a)).2 == 0) ∧ ((evalE row (eTwo o b a)).2 == 0 && !(Val.eqB (evalE row (eTwo o a b)).1 (evalE row (eTwo o b a)).1)) = false := by
  have := sums_law row a b h
  generalize evalE row (eTwo o a b) = X at this ⊢
  generalize evalE row (eTwo o b a) = Y at this ⊢
  cases h1 : X.2 == 0 <;> cases h2 : Y.2 == 0 <;> rw [h1, h2] at this <;> simp_all
/-! ### what an expression of a type comes to -/
theorem judge_err (ts : List Int) : ∀ (e : E) (w : Int), w ≠ 0 → (judge ts e w).2 = w := by
  refine E.ind fun op col c kids ih w hw => ?_
  have hL : ∀ l : List E, (∀ k ∈ l, ∀ w : Int, w ≠ 0 → (judge ts k w).2 = w) → (judgeL ts l w).2 = w := by
    intro l
    induction l with
    | nil => intro _; simp [judgeL]
    | cons k r ih2 => intro h; rw [judgeL]; simp only [h k (by simp) w hw]; exact ih2 fun k hk => h k (by simp [hk])
  have hk := hL kids ih
  have hu : ∀ b y, unlessF w b y = w := by intro b y; simp [unlessF, hw]
  have hf : ∀ l : List Int, l.foldl (fun w t => unlessF w (t == 1) 11) w = w := by
    intro l
    induction l with
    | nil => rfl
    | cons x r ih => rw [List.foldl_cons, hu]; exact ih
  rw [judge]
  simp only [hu, hk, hf]
  split
  · simp [hw]
  · split
    · rfl
    · split
      · rfl
      · split <;> rfl
def tyP (t : Bool) (ty : Int) : Prop := (t = true ∧ ty = 2) ∨ (t = false ∧ ty = 1)
theorem tyP_of (v : Val) : tyP v.t (tOf v) := by unfold tyP tOf; cases v.t <;> simp
/-- What one comes to that has a type: a value of it, or a number that does not fit. -/
def Sound (row : List Val) (e : E) : Prop := (judge (row.map tOf) e 0).2 = 0 → ((reck row e 0).2 = 0 ∧ tyP (reck row e 0).1.t (judge (row.map tOf) e 0).1) ∨ (reck row e 0).2 = 10
theorem tfit_2 (p : Int × Int) : (tfit p).2 = 0 ∨ (tfit p).2 = 10 := by unfold tfit; split <;> simp
theorem lessR_2 (a b : Int) : (lessR a b).2 = 0 ∨ (lessR a b).2 = 10 := tfit_2 _
theorem timesR_2 (a b : Int) : (timesR a b).2 = 0 ∨ (timesR a b).2 = 10 := by unfold timesR; split <;> (split <;> simp)
theorem fitF_ok {r : Int × Int} (h : r.2 = 0 ∨ r.2 = 10) : ((fitF r 0).2 = 0 ∧ (fitF r 0).1.t = false) ∨ (fitF r 0).2 = 10 := by
  unfold fitF unlessF Val.num
  rcases h with h | h <;> simp [h]
theorem fitF_10 {r : Int × Int} : (fitF r 10).2 = 10 := by simp [fitF, unlessF]
theorem num_ok {row : List Val} {e : E} (h : Sound row e) (h1 : (judge (row.map tOf) e 0).2 = 0) (h2 : (judge (row.map tOf) e 0).1 = 1) : (numF (reck row e) 0).2 = 0 ∨ (numF (reck row e) 0).2 = 10 := by
  unfold numF unlessF
  rcases h h1 with ⟨g1, g2⟩ | g
  · unfold tyP at g2
    rw [h2] at g2
    rcases g2 with ⟨_, g⟩ | ⟨g, _⟩
    · omega
    · simp [g1, g]
  · simp [g]
theorem unlessF_zero {w y : Int} {b : Bool} (hy : y ≠ 0) (h : unlessF w b y = 0) : w = 0 ∧ b = true := by
  unfold unlessF at h
  by_cases hw : w = 0
  · cases b
    · simp [hw] at h; exact absurd h hy
    · exact ⟨hw, rfl⟩
  · simp [hw] at h
theorem judge_zero {ts : List Int} {e : E} {w : Int} (h : (judge ts e w).2 = 0) : w = 0 := by
  by_cases hw : w = 0
  · exact hw
  · rw [judge_err ts e w hw] at h; exact h
theorem sumR_10 (op n : Int) (b e : Int → Val × Int) : (sumR op n b e 10).2 = 10 := by simp [sumR]
theorem bitV_t (b : Bool) : (bitV b).t = false := by simp [bitV, Val.num]
/-- A sum's rest: with each Kid's outcome right, it is right. -/
theorem sumR_ok {row : List Val} {op n : Int} {b e : Int → Val × Int} (hop : op = 3 ∨ op = 4 ∨ op = 5 ∨ op = 6 ∨ op = 9 ∨ op = 10 ∨ op = 11) (hb : (numF b 0).2 = 0 ∨ (numF b 0).2 = 10 ∨ op = 6 ∨ op = 11) : ((sumR op n b e 0).2 = 0 ∧ (sumR op n b e 0).1.t = false) ∨ (sumR op n b e 0).2 = 10 := by
  have hf : ∀ r : Int × Int, (r.2 = 0 ∨ r.2 = 10) → ∀ w : Int, (w = 0 ∨ w = 10) → ((fitF r w).2 = 0 ∧ (fitF r w).1.t = false) ∨ (fitF r w).2 = 10 := by
    intro r hr w hw
    rcases hw with rfl | rfl
    · exact fitF_ok hr
    · exact .inr fitF_10
  have hw : op ≠ 6 → op ≠ 11 → (numF b 0).2 = 0 ∨ (numF b 0).2 = 10 := by
    intro h1 h2
    rcases hb with h | h | h | h
    · exact .inl h
    · exact .inr h
    · exact absurd h h1
    · exact absurd h h2
  rcases hop with rfl | rfl | rfl | rfl | rfl | rfl | rfl
  · simpa [sumR] using hf _ (tfit_2 _) _ (hw (by omega) (by omega))
  · simpa [sumR] using hf _ (lessR_2 _ _) _ (hw (by omega) (by omega))
  · simpa [sumR] using hf _ (timesR_2 _ _) _ (hw (by omega) (by omega))
  · simpa [sumR] using hf _ (lessR_2 _ _) 0 (.inl rfl)
  · have := hw (by omega) (by omega)
    simp only [sumR]
    split
    · simp at *
    · simp only [show ((9 : Int) == 11) = false by rfl, show ((9 : Int) == 6) = false by rfl, show ((9 : Int) == 9) = true by rfl, Bool.false_eq_true, if_false, if_true]
      split
      · exact this.imp (fun h => ⟨h, bitV_t _⟩) id
      · exact .inl ⟨rfl, bitV_t _⟩
  · have := hw (by omega) (by omega)
    simp only [sumR]
    split
    · simp at *
    · simp only [show ((10 : Int) == 11) = false by rfl, show ((10 : Int) == 6) = false by rfl, show ((10 : Int) == 9) = false by rfl, show ((10 : Int) == 10) = true by rfl, Bool.false_eq_true, if_false, if_true]
      split
      · exact .inl ⟨rfl, bitV_t _⟩
      · exact this.imp (fun h => ⟨h, bitV_t _⟩) id
  · exact .inl ⟨by simp [sumR], by simp [sumR, bitV_t]⟩
theorem reck_gen (row : List Val) {op : Int} (col : Int) (c : Val) (kids : List E) (h : op ≠ 1 ∧ op ≠ 2 ∧ op ≠ 7 ∧ op ≠ 8) : reck row (.mk op col c kids) 0 = sumR op (numF ((recks row kids).getD 0 noF) 0).1 ((recks row kids).getD 1 noF) ((recks row kids).getD 2 noF) (numF ((recks row kids).getD 0 noF) 0).2 := by
  obtain ⟨h1, h2, h3, h4⟩ := h
  simp [reck, stepR, h1, h2, h3, h4]
theorem sound (row : List Val) : ∀ e : E, e.good → Sound row e := by
  refine E.ind fun op col c kids ih hg => ?_
  rw [E.good] at hg
  obtain ⟨hok, hgk⟩ := hg
  have ih' : ∀ k ∈ kids, Sound row k := fun k hk => ih k hk (E.goodL_mem hgk k hk)
  unfold Sound
  intro hj
  rcases okE_shape hok with ⟨rfl, hn⟩ | ⟨rfl, hn⟩ | ⟨ho, hn⟩ | ⟨ho, hn⟩ | ⟨ho, hn⟩ | ⟨ho, hn⟩ | ⟨rfl, hn⟩
  · obtain rfl := List.length_eq_zero_iff.1 hn
    left
    have hr : 0 ≤ col ∧ col < (row.map tOf).length := by
      rw [judge] at hj
      simp only [show ((1 : Int) == 1) = true by rfl, if_true] at hj
      split at hj
      · rename_i hq
        simp only at hj
        rw [hj] at hq
        simp at hq
      · have := (unlessF_zero (by omega) hj).2
        simpa using this
    obtain ⟨k, rfl⟩ := Int.eq_ofNat_of_zero_le hr.1
    have hlt : k < row.length := by simpa using hr.2
    have e1 : judge (row.map tOf) (.mk 1 (k : Int) c []) 0 = ((row.map tOf).getD k 0, 0) := by
      rw [judge]
      have : unlessF 0 (decide (0 ≤ (k : Int)) && decide ((k : Int) < ((row.map tOf).length : Int))) 1 = 0 := by
        simp [unlessF, hlt]
      simp only [show ((1 : Int) == 1) = true by rfl, if_true, this]
      simp
    have e2 : reck row (.mk 1 (k : Int) c []) 0 = (row.getD k vZ, 0) := by
      have := reck_col row k
      unfold colV at this
      have hd : (decide ((k : Int) < 0) || decide ((row.length : Int) ≤ (k : Int))) = false := by simp; omega
      rw [hd] at this
      simp only [Bool.false_eq_true, if_false, Int.toNat_natCast] at this
      rw [← this]
      simp [eCol, reck, recks, stepR]
    rw [e1, e2]
    refine ⟨rfl, ?_⟩
    simp [hlt]
    exact tyP_of _
  · obtain rfl := List.length_eq_zero_iff.1 hn
    left
    simp only [judge, reck, recks, stepR]
    exact ⟨by simp, by simpa using tyP_of c⟩
  · obtain ⟨a, rfl⟩ := List.length_eq_one_iff.1 hn
    have ha := ih' a (by simp)
    have hne : op ≠ 1 ∧ op ≠ 2 ∧ op ≠ 7 ∧ op ≠ 8 ∧ op ≠ 12 := by omega
    have ej : judge (row.map tOf) (.mk op col c [a]) 0 = (1, unlessF (judge (row.map tOf) a 0).2 ((judge (row.map tOf) a 0).1 == 1) 11) := by
      simp [judge, judgeL, hne]
    rw [ej] at hj ⊢
    obtain ⟨j1, j2⟩ := unlessF_zero (by omega) hj
    rw [reck_gen row col c _ (by omega)]
    have : (recks row [a]).getD 0 noF = reck row a := by simp [recks]
    rw [this]
    rcases num_ok ha j1 (by simpa using j2) with h | h
    · rw [h]
      rcases sumR_ok (row := row) (op := op) (n := (numF (reck row a) 0).1) (b := (recks row [a]).getD 1 noF) (e := (recks row [a]).getD 2 noF) (by omega) (by omega) with h | h
      · exact .inl ⟨h.1, .inr ⟨h.2, rfl⟩⟩
      · exact .inr h
    · rw [h]; exact .inr (sumR_10 _ _ _ _)
  · obtain ⟨a, b, rfl⟩ := Flat.two_of_length hn
    have ha := ih' a (by simp)
    have hb := ih' b (by simp)
    have hne : op ≠ 1 ∧ op ≠ 2 ∧ op ≠ 7 ∧ op ≠ 8 ∧ op ≠ 12 := by omega
    have ej : judge (row.map tOf) (.mk op col c [a, b]) 0 = (1, unlessF (unlessF (judge (row.map tOf) b (judge (row.map tOf) a 0).2).2 ((judge (row.map tOf) a 0).1 == 1) 11) ((judge (row.map tOf) b (judge (row.map tOf) a 0).2).1 == 1) 11) := by
      simp [judge, judgeL, hne]
    rw [ej] at hj ⊢
    obtain ⟨j1, j2⟩ := unlessF_zero (by omega) hj
    obtain ⟨j3, j4⟩ := unlessF_zero (by omega) j1
    have j5 := judge_zero j3
    rw [j5] at j2 j3
    rw [reck_gen row col c _ (by omega)]
    have e0 : (recks row [a, b]).getD 0 noF = reck row a := by simp [recks]
    have e1 : (recks row [a, b]).getD 1 noF = reck row b := by simp [recks]
    rw [e0, e1]
    have hnb := num_ok hb j3 (by simpa using j2)
    rcases num_ok ha j5 (by simpa using j4) with h | h
    · rw [h]
      rcases sumR_ok (row := row) (op := op) (n := (numF (reck row a) 0).1) (b := reck row b) (e := (recks row [a, b]).getD 2 noF) (by omega) (by omega) with h | h
      · exact .inl ⟨h.1, .inr ⟨h.2, rfl⟩⟩
      · exact .inr h
    · rw [h]; exact .inr (sumR_10 _ _ _ _)
  · obtain ⟨a, b, rfl⟩ := Flat.two_of_length hn
    subst ho
    have ha := ih' a (by simp)
    have hb := ih' b (by simp)
    have ej : judge (row.map tOf) (.mk 7 col c [a, b]) 0 = (1, unlessF (judge (row.map tOf) b (judge (row.map tOf) a 0).2).2 ((judge (row.map tOf) a 0).1 == (judge (row.map tOf) b (judge (row.map tOf) a 0).2).1) 11) := by
      simp [judge, judgeL, at3]
    rw [ej] at hj ⊢
    obtain ⟨j1, j2⟩ := unlessF_zero (by omega) hj
    have j3 := judge_zero j1
    rw [j3] at j1 j2
    have er : reck row (.mk 7 col c [a, b]) 0 = reck row (eTwo 7 a b) 0 := by simp [eTwo, reck, stepR]
    rw [er, reck_cmp row 7 a b (by omega)]
    rcases ha j3 with ⟨h1, h2⟩ | h1
    · rw [h1]
      rcases hb j1 with ⟨g1, g2⟩ | g1
      · left
        refine ⟨?_, .inr ⟨bitV_t _, rfl⟩⟩
        have ht : (reck row a 0).1.t = (reck row b 0).1.t := by
          unfold tyP at h2 g2
          simp only [beq_iff_eq] at j2
          rcases h2 with ⟨h2, h3⟩ | ⟨h2, h3⟩ <;> rcases g2 with ⟨g2, g3⟩ | ⟨g2, g3⟩ <;> rw [h2, g2] <;> omega
        simp [g1, unlessF, ht]
      · right; simp [g1, unlessF]
    · right
      rw [h1, reck_err row b 10 (by omega)]
      simp [unlessF]
  · obtain ⟨a, b, rfl⟩ := Flat.two_of_length hn
    subst ho
    have ha := ih' a (by simp)
    have hb := ih' b (by simp)
    have ej : judge (row.map tOf) (.mk 8 col c [a, b]) 0 = (1, unlessF (judge (row.map tOf) b (judge (row.map tOf) a 0).2).2 ((judge (row.map tOf) a 0).1 == (judge (row.map tOf) b (judge (row.map tOf) a 0).2).1) 11) := by
      simp [judge, judgeL, at3]
    rw [ej] at hj ⊢
    obtain ⟨j1, j2⟩ := unlessF_zero (by omega) hj
    have j3 := judge_zero j1
    rw [j3] at j1 j2
    have er : reck row (.mk 8 col c [a, b]) 0 = reck row (eTwo 8 a b) 0 := by simp [eTwo, reck, stepR]
    rw [er, reck_cmp row 8 a b (by omega)]
    rcases ha j3 with ⟨h1, h2⟩ | h1
    · rw [h1]
      rcases hb j1 with ⟨g1, g2⟩ | g1
      · left
        refine ⟨?_, .inr ⟨bitV_t _, rfl⟩⟩
        have ht : (reck row a 0).1.t = (reck row b 0).1.t := by
          unfold tyP at h2 g2
          simp only [beq_iff_eq] at j2
          rcases h2 with ⟨h2, h3⟩ | ⟨h2, h3⟩ <;> rcases g2 with ⟨g2, g3⟩ | ⟨g2, g3⟩ <;> rw [h2, g2] <;> omega
        simp [g1, unlessF, ht]
      · right; simp [g1, unlessF]
    · right
      rw [h1, reck_err row b 10 (by omega)]
      simp [unlessF]
  · obtain ⟨a, b, e, rfl⟩ := three_of_length hn
    have ha := ih' a (by simp)
    have hb := ih' b (by simp)
    have he := ih' e (by simp)
    have ej : judge (row.map tOf) (.mk 12 col c [a, b, e]) 0 = ((judge (row.map tOf) b (judge (row.map tOf) a 0).2).1, unlessF (judge (row.map tOf) e (judge (row.map tOf) b (judge (row.map tOf) a 0).2).2).2 ((judge (row.map tOf) a 0).1 == 1 && (judge (row.map tOf) b (judge (row.map tOf) a 0).2).1 == (judge (row.map tOf) e (judge (row.map tOf) b (judge (row.map tOf) a 0).2).2).1) 11) := by
      simp [judge, judgeL, at3]
    rw [ej] at hj ⊢
    obtain ⟨j1, j2⟩ := unlessF_zero (by omega) hj
    have j3 := judge_zero j1
    rw [j3] at j1 j2
    have j4 := judge_zero j3
    rw [j4] at j2 j3
    rw [j4]
    simp only [Bool.and_eq_true, beq_iff_eq] at j2
    obtain ⟨k1, k2⟩ := j2
    rw [reck_gen row col c _ (by omega)]
    have e0 : (recks row [a, b, e]).getD 0 noF = reck row a := by simp [recks]
    have e1 : (recks row [a, b, e]).getD 1 noF = reck row b := by simp [recks]
    have e2 : (recks row [a, b, e]).getD 2 noF = reck row e := by simp [recks]
    rw [e0, e1, e2]
    rcases num_ok ha j4 k1 with h | h
    · rw [h]
      have es : sumR 12 (numF (reck row a) 0).1 (reck row b) (reck row e) 0 = if (numF (reck row a) 0).1 != 0 then reck row b 0 else reck row e 0 := by simp [sumR]
      rw [es]
      split
      · exact hb j3
      · rw [k2]; exact he j1
    · rw [h]; exact .inr (sumR_10 _ _ _ _)
theorem judge_why (ts : List Int) : ∀ (e : E) (w : Int), (w = 0 ∨ w = 1 ∨ w = 11) → ((judge ts e w).2 = 0 ∨ (judge ts e w).2 = 1 ∨ (judge ts e w).2 = 11) := by
  refine E.ind fun op col c kids ih w hw => ?_
  have hu : ∀ (w : Int) b y, (w = 0 ∨ w = 1 ∨ w = 11) → (y = 1 ∨ y = 11) → unlessF w b y = 0 ∨ unlessF w b y = 1 ∨ unlessF w b y = 11 := by
    intro w b y hw hy
    unfold unlessF
    split
    · rcases hy with h | h <;> simp [h]
    · exact hw
  have hL : ∀ l : List E, (∀ k ∈ l, ∀ w : Int, (w = 0 ∨ w = 1 ∨ w = 11) → ((judge ts k w).2 = 0 ∨ (judge ts k w).2 = 1 ∨ (judge ts k w).2 = 11)) → ∀ w : Int, (w = 0 ∨ w = 1 ∨ w = 11) → ((judgeL ts l w).2 = 0 ∨ (judgeL ts l w).2 = 1 ∨ (judgeL ts l w).2 = 11) := by
    intro l
    induction l with
    | nil => intro _ w hw; simpa [judgeL] using hw
    | cons k r ih2 => intro h w hw; rw [judgeL]; exact ih2 (fun k hk => h k (by simp [hk])) _ (h k (by simp) w hw)
  have hk := hL kids ih w hw
  have hf : ∀ (l : List Int) (w : Int), (w = 0 ∨ w = 1 ∨ w = 11) → (l.foldl (fun w t => unlessF w (t == 1) 11) w = 0 ∨ l.foldl (fun w t => unlessF w (t == 1) 11) w = 1 ∨ l.foldl (fun w t => unlessF w (t == 1) 11) w = 11) := by
    intro l
    induction l with
    | nil => intro w hw; exact hw
    | cons x r ih => intro w hw; rw [List.foldl_cons]; exact ih _ (hu w _ 11 hw (.inr rfl))
  rw [judge]
  simp only
  split
  · split
    · exact hu w _ 1 hw (.inl rfl)
    · exact hu w _ 1 hw (.inl rfl)
  · split
    · exact hw
    · split
      · exact hu _ _ 11 hk (.inr rfl)
      · split
        · exact hu _ _ 11 hk (.inr rfl)
        · exact hf _ _ hk
/-- An expression of a type comes to a value of it, or to a number that does not fit. -/
theorem typed_law (row : List Val) (e : E) :
    (((inferE (row.map tOf) e).2 != 0 || (evalE row e).2 == 4) = true → ((evalE row e).2 != 0 || ((inferE (row.map tOf) e).2 != 4 && (inferE (row.map tOf) e).2 != 2)) = true) ∧
    (((inferE (row.map tOf) e).2 != 0 || (evalE row e).2 == 4) = false → ((evalE row e).2 != 0) = true → (evalE row e).2 = 10 ∧ (evalE row e).1.eqB vZ = true) ∧
    (((inferE (row.map tOf) e).2 != 0 || (evalE row e).2 == 4) = false → ((evalE row e).2 != 0) = false → ((evalE row e).1.t == ((inferE (row.map tOf) e).1 == 2)) = true) := by
  by_cases hc : checkE e = 0
  · have hg := checkE_good hc
    have hs := sound row e hg
    have hy := judge_why (row.map tOf) e 0 (.inl rfl)
    rw [eval_ok hc]
    unfold inferE
    rw [hc]
    unfold Sound at hs
    by_cases hr : checkRow row = 0
    · by_cases hj : (judge (row.map tOf) e 0).2 = 0
      · rcases hs hj with ⟨h1, h2⟩ | h1
        · unfold tyP at h2
          rcases h2 with ⟨h2, h3⟩ | ⟨h2, h3⟩ <;> simp [hr, hj, h1, h2, h3]
        · simp [hr, hj, h1, eqB_refl]
      · have : (judge (row.map tOf) e 0).2 ≠ 4 ∧ (judge (row.map tOf) e 0).2 ≠ 2 := by omega
        simp [hr, hj, this]
    · have hr4 : checkRow row = 4 := by
        unfold checkRow at hr ⊢
        split
        · rfl
        · rename_i h; rw [if_neg h] at hr; exact absurd rfl hr
      by_cases hj : (judge (row.map tOf) e 0).2 = 0 <;> simp [hr4, hj]
  · unfold evalE inferE
    simp [hc]
end Go.Proofs
end
section
set_option linter.unusedVariables false
set_option linter.unusedSimpArgs false
namespace Go.Proofs
open Go.Flat
set_option maxRecDepth 100000
set_option linter.unusedSimpArgs false
set_option linter.unusedVariables false
attribute [local simp] Bool.and_assoc Bool.or_assoc evalG evalX efD skF guardG guardL isCall stepL evalOp ev evs lk tmpsL app AV.ok fresh vv putCells insV ins del putL place Go.Flat.look fillC fillR getCells loadF storeF binF scalarBin intBin strBin isShift shiftBin unF lenF maxF minF rowsF appendF builtinF idxF natOf sliceP sliceF optEv Flat.cut overwrite toPV toPVs constAV scalarC scalarCs AV.cells TI.isAgg allSome andAll scalarEq buildable Go.Flat.lim retQ resL resAll resOne PartOf noTmp closedIn refs refs.refsL isSomeV hasB ids leA leA.leL renA renA.renL callB refsAll backL dropIds renS LiesAt injB ownB freshB memN locId insAll leA_refl leL_refl okS frzS frzA frzA.frzL evalD feet fine updCells cellsFrom memP footRf footWf noTmpU updIds opOps opIds idsA footR footW guardTs opTs dstTs callR callW renLoc renC inBlockQ thenQ Value.oneCell' IntKind.bits IntKind.signed callWk without

attribute [local simp] Val.av Val.row Val.num E.av E.row_eq vZ in
theorem spec20  : Flat.Sp Try.prog 20 [] [] (vv (.bool true)) [] := by
  refine sk Try.func20 ?_
  intro F G hn hG
  have f1 := lE_1
  have f2 := lE_2
  have f3 := lE_3
  have f4 := lE_4
  have f5 := lE_5
  simp only [lE, eTwo, eCol, eCon, vZ] at f1 f2 f3 f4 f5
  refine sq ?_
  refine rg 1000 ?_
  refine pr [0, 1, 2, 3, 4, 5, 6, 7, 9, 10, 11, 12, 13, 14, 15, 16, 17, 18, 19, 20, 21, 22, 23, 24, 25, 26, 27, 28, 29, 30, 31, 32, 33, 34, 35, 36, 37, 38, 39, 40, 41, 42, 43, 44, 45, 46, 47, 48, 49, 50, 51, 52, 53, 54, 55, 56, 57, 58, 59, 60, 61, 62, 63, 64, 65, 66, 67, 68, 69, 70, 71, 72, 73, 74, 75, 76, 77, 78, 79, 80, 81, 82, 83, 84] ?_
  refine sq ?_
  refine rc 2000 ?_
  refine oc id (spec25 0) ?_
  refine oc id (spec21 1) ?_
  refine oc id (spec24 3 1 0 vZ [] 2 0 ⟨false, 1, ⟨#[]⟩⟩ []) ?_
  refine oc id (spec25 1) ?_
  refine oc id (spec24 7 3 0 vZ [eCol 0, eCon 1] 1 1 vZ []) ?_
  refine oe 2500 ?_
  refine on ?_
  refine pr [0, 1, 2, 3, 4, 5, 6, 7, 9, 10, 11, 17, 18, 19, 20, 21, 22, 23, 24, 25, 26, 27, 28, 29, 30, 31, 32, 33, 34, 35, 36, 37, 38, 39, 40, 41, 42, 43, 44, 45, 46, 47, 48, 49, 50, 51, 52, 53, 54, 55, 56, 57, 58, 59, 60, 61, 62, 63, 64, 65, 66, 67, 68, 69, 70, 71, 72, 73, 74, 75, 76, 77, 78, 79, 80, 81, 82, 83, 84] ?_
  refine sq ?_
  refine rc 3000 ?_
  refine oc id (spec23 [⟨false, 1, ⟨#[]⟩⟩, ⟨false, 2, ⟨#[]⟩⟩] (by simp [Flat.lim]) lE) ?_ (hg := by simp [*, lE, eTwo, eCol, eCon, vZ, E.av, E.row_eq]) (hf := by simp [*, lE, eTwo, eCol, eCon, vZ, E.av, E.row_eq]; exact is_rfl _) (hx := by simp [*, lE, eTwo, eCol, eCon, vZ, E.av, E.row_eq]; exact is_rfl _) (hargs := by simp [*, lE, eTwo, eCol, eCon, vZ, E.av, E.row_eq]) (hB := by simp [*, lE, eTwo, eCol, eCon, vZ, E.av, E.row_eq]) (hL := by simp [*, lE, eTwo, eCol, eCon, vZ, E.av, E.row_eq]) (hd := by simp [*, lE, eTwo, eCol, eCon, vZ, E.av, E.row_eq]; exact is_rfl _)
  refine oe 3100 ?_
  refine on ?_
  refine pr [0, 1, 2, 3, 4, 5, 6, 7, 9, 10, 11, 25, 26, 27, 28, 29, 30, 31, 32, 33, 34, 35, 36, 37, 38, 39, 40, 41, 42, 43, 44, 45, 46, 47, 48, 49, 50, 51, 52, 53, 54, 55, 56, 57, 58, 59, 60, 61, 62, 63, 64, 65, 66, 67, 68, 69, 70, 71, 72, 73, 74, 75, 76, 77, 78, 79, 80, 81, 82, 83, 84] ?_
  refine sq ?_
  refine rc 4000 ?_
  refine oc id (spec23 [⟨false, 1, ⟨#[]⟩⟩, ⟨false, 3, ⟨#[]⟩⟩] (by simp [Flat.lim]) lE) ?_ (hg := by simp [*, lE, eTwo, eCol, eCon, vZ, E.av, E.row_eq]) (hf := by simp [*, lE, eTwo, eCol, eCon, vZ, E.av, E.row_eq]; exact is_rfl _) (hx := by simp [*, lE, eTwo, eCol, eCon, vZ, E.av, E.row_eq]; exact is_rfl _) (hargs := by simp [*, lE, eTwo, eCol, eCon, vZ, E.av, E.row_eq]) (hB := by simp [*, lE, eTwo, eCol, eCon, vZ, E.av, E.row_eq]) (hL := by simp [*, lE, eTwo, eCol, eCon, vZ, E.av, E.row_eq]) (hd := by simp [*, lE, eTwo, eCol, eCon, vZ, E.av, E.row_eq]; exact is_rfl _)
  refine oe 4100 ?_
  refine on ?_
  refine pr [0, 1, 2, 3, 4, 5, 6, 7, 9, 10, 11, 33, 34, 35, 36, 37, 38, 39, 40, 41, 42, 43, 44, 45, 46, 47, 48, 49, 50, 51, 52, 53, 54, 55, 56, 57, 58, 59, 60, 61, 62, 63, 64, 65, 66, 67, 68, 69, 70, 71, 72, 73, 74, 75, 76, 77, 78, 79, 80, 81, 82, 83, 84] ?_
  refine sq ?_
  refine rc 5000 ?_
  refine oc id (spec26 [1, 1] (by simp [Flat.lim]) 7 0 vZ [eTwo 3 (eCol 0) (eCon 1), eCol 1]) ?_ (hg := by simp [*, lE, eTwo, eCol, eCon, vZ, E.av, E.row_eq, trow]) (hf := by simp [*, lE, eTwo, eCol, eCon, vZ, E.av, E.row_eq, trow]; exact is_rfl _) (hx := by simp [*, lE, eTwo, eCol, eCon, vZ, E.av, E.row_eq, trow]; exact is_rfl _) (hargs := by simp [*, lE, eTwo, eCol, eCon, vZ, E.av, E.row_eq, trow]) (hB := by simp [*, lE, eTwo, eCol, eCon, vZ, E.av, E.row_eq, trow]) (hL := by simp [*, lE, eTwo, eCol, eCon, vZ, E.av, E.row_eq, trow]) (hd := by simp [*, lE, eTwo, eCol, eCon, vZ, E.av, E.row_eq, trow]; exact is_rfl _)
  refine oe 5100 ?_
  refine on ?_
  refine pr [0, 1, 2, 3, 4, 5, 6, 7, 9, 10, 11, 39, 40, 41, 42, 43, 44, 45, 46, 47, 48, 49, 50, 51, 52, 53, 54, 55, 56, 57, 58, 59, 60, 61, 62, 63, 64, 65, 66, 67, 68, 69, 70, 71, 72, 73, 74, 75, 76, 77, 78, 79, 80, 81, 82, 83, 84] ?_
  refine sq ?_
  refine rc 6000 ?_
  refine oc id (spec26 [1, 2] (by simp [Flat.lim]) 7 0 vZ [eTwo 3 (eCol 0) (eCon 1), eCol 1]) ?_ (hg := by simp [*, lE, eTwo, eCol, eCon, vZ, E.av, E.row_eq, trow]) (hf := by simp [*, lE, eTwo, eCol, eCon, vZ, E.av, E.row_eq, trow]; exact is_rfl _) (hx := by simp [*, lE, eTwo, eCol, eCon, vZ, E.av, E.row_eq, trow]; exact is_rfl _) (hargs := by simp [*, lE, eTwo, eCol, eCon, vZ, E.av, E.row_eq, trow]) (hB := by simp [*, lE, eTwo, eCol, eCon, vZ, E.av, E.row_eq, trow]) (hL := by simp [*, lE, eTwo, eCol, eCon, vZ, E.av, E.row_eq, trow]) (hd := by simp [*, lE, eTwo, eCol, eCon, vZ, E.av, E.row_eq, trow]; exact is_rfl _)
  refine oe 6100 ?_
  refine on ?_
  refine pr [0, 1, 2, 3, 4, 5, 6, 7, 9, 10, 11, 45, 46, 47, 48, 49, 50, 51, 52, 53, 54, 55, 56, 57, 58, 59, 60, 61, 62, 63, 64, 65, 66, 67, 68, 69, 70, 71, 72, 73, 74, 75, 76, 77, 78, 79, 80, 81, 82, 83, 84] ?_
  refine sq ?_
  refine rc 7000 ?_
  refine oc id (spec23 [⟨false, 9223372036854775807, ⟨#[]⟩⟩, ⟨false, 3, ⟨#[]⟩⟩] (by simp [Flat.lim]) lE) ?_ (hg := by simp [*, lE, eTwo, eCol, eCon, vZ, E.av, E.row_eq]) (hf := by simp [*, lE, eTwo, eCol, eCon, vZ, E.av, E.row_eq]; exact is_rfl _) (hx := by simp [*, lE, eTwo, eCol, eCon, vZ, E.av, E.row_eq]; exact is_rfl _) (hargs := by simp [*, lE, eTwo, eCol, eCon, vZ, E.av, E.row_eq]) (hB := by simp [*, lE, eTwo, eCol, eCon, vZ, E.av, E.row_eq]) (hL := by simp [*, lE, eTwo, eCol, eCon, vZ, E.av, E.row_eq]) (hd := by simp [*, lE, eTwo, eCol, eCon, vZ, E.av, E.row_eq]; exact is_rfl _)
  refine oe 7100 ?_
  refine on ?_
  refine pr [0, 2, 3, 4, 5, 6, 7, 9, 11, 53, 54, 55, 56, 57, 58, 59, 60, 61, 62, 63, 64, 65, 66, 67, 68, 69, 70, 71, 72, 73, 74, 75, 76, 77, 78, 79, 80, 81, 82, 83, 84] ?_
  refine sq ?_
  refine rc 8000 ?_
  iterate 2 (first | refine gp 8150 ?_ | refine os ?_ | refine gt 8150 ?_)
  refine oe 8200 ?_
  iterate 3 (first | refine gp 8450 ?_ | refine os ?_ | refine gt 8450 ?_)
  refine oe 8500 ?_
  iterate 2 (first | refine gp 8650 ?_ | refine os ?_ | refine gt 8650 ?_)
  refine oe 8700 ?_
  iterate 2 (first | refine gp 8850 ?_ | refine os ?_ | refine gt 8850 ?_)
  refine oe 8900 ?_
  iterate 2 (first | refine gp 9050 ?_ | refine os ?_ | refine gt 9050 ?_)
  refine oe 9100 ?_
  iterate 2 (first | refine gp 9250 ?_ | refine os ?_ | refine gt 9250 ?_)
  refine oe 9300 ?_
  iterate 2 (first | refine gp 9450 ?_ | refine os ?_ | refine gt 9450 ?_)
  refine oe 9500 ?_
  refine on ?_
  refine pr [0] ?_
  refine k_ret ?_
  show retQ _ _ _ _ _ _ _
  simp [*]

attribute [local simp] Val.av E.av E.row_eq vZ in
theorem spec3 (row : List Val) (hrow : row.length ≤ Flat.lim) (op col : Int) (c : Val) (kids : List E) : Flat.Sp Try.prog 3 [(E.mk op col c kids).av, .p (.ps (row.map Val.row))] [] (vv (.bool true)) [] := by
  refine sk Try.func3 ?_
  intro F G hn hG
  refine sq ?_
  refine rg 1000 ?_
  refine pr [1, 2, 4, 5, 6, 7, 8, 9, 10, 11, 12, 13, 14, 15, 16, 17, 18, 19, 20, 21, 22, 23, 24, 25, 26, 27, 28, 29, 30, 31, 32, 33, 34, 35, 36, 37, 38, 39, 40, 41, 42, 43, 44, 45, 46, 47, 48, 49, 50, 51, 52, 53, 54, 55, 56, 57, 58, 59, 60, 61, 62, 63, 64, 65, 66, 67, 68, 69, 70, 71, 72, 73, 74] ?_
  refine sq ?_
  refine sq ?_
  refine rc 2000 ?_
  refine oc id (spec20) ?_
  refine oe 2100 ?_
  refine on ?_
  refine pr [1, 2, 4, 5, 6, 7, 8, 9, 10, 11, 13, 14, 15, 16, 17, 18, 19, 20, 21, 22, 23, 24, 25, 26, 27, 28, 29, 30, 31, 32, 33, 34, 35, 36, 37, 38, 39, 40, 41, 42, 43, 44, 45, 46, 47, 48, 49, 50, 51, 52, 53, 54, 55, 56, 57, 58, 59, 60, 61, 62, 63, 64, 65, 66, 67, 68, 69, 70, 71, 72, 73, 74] ?_
  refine ce ?_
  refine k_skip ?_
  refine sq ?_
  refine dr ?_
  refine dc id (spec21 1) ?_
  refine dc id (spec21 7) ?_
  refine de 4200 ?_
  refine dn ?_
  refine pr [1, 2, 4, 5, 6, 7, 8, 9, 10, 11, 19, 20, 21, 22, 23, 24, 25, 26, 27, 28, 29, 30, 31, 32, 33, 34, 35, 36, 37, 38, 39, 40, 41, 42, 43, 44, 45, 46, 47, 48, 49, 50, 51, 52, 53, 54, 55, 56, 57, 58, 59, 60, 61, 62, 63, 64, 65, 66, 67, 68, 69, 70, 71, 72, 73, 74] ?_
  refine sq ?_
  refine sq ?_
  refine rc 5000 ?_
  refine oc id (spec22 12 0 vZ [eCon 1, eCon 7, (E.mk op col c kids)]) ?_ (hg := by simp [*, eTwo, eCon, eCol, vZ, E.av, E.row_eq]) (hf := by simp [*, eTwo, eCon, eCol, vZ, E.av, E.row_eq]; exact is_rfl _) (hx := by simp [*, eTwo, eCon, eCol, vZ, E.av, E.row_eq]; exact is_rfl _) (hargs := by simp [*, eTwo, eCon, eCol, vZ, E.av, E.row_eq]) (hB := by simp [*, eTwo, eCon, eCol, vZ, E.av, E.row_eq]) (hL := by simp [*, eTwo, eCon, eCol, vZ, E.av, E.row_eq]) (hd := by simp [*, eTwo, eCon, eCol, vZ, E.av, E.row_eq]; exact is_rfl _)
  refine oe 5100 ?_
  refine on ?_
  refine pr [1, 2, 4, 5, 6, 7, 8, 9, 10, 11, 21, 22, 23, 24, 25, 26, 27, 28, 29, 30, 31, 32, 33, 34, 35, 36, 37, 38, 39, 40, 41, 42, 43, 44, 45, 46, 47, 48, 49, 50, 51, 52, 53, 54, 55, 56, 57, 58, 59, 60, 61, 62, 63, 64, 65, 66, 67, 68, 69, 70, 71, 72, 73, 74] ?_
  refine cd ?_ ?_
  · intro h21_1
    refine sq ?_
    refine rg 6000 ?_
    refine pr [1, 2, 4, 5, 6, 7, 8, 9, 10, 11, 22, 23, 24, 25, 26, 27, 28, 29, 30, 31, 32, 33, 34, 35, 36, 37, 38, 39, 40, 41, 42, 43, 44, 45, 46, 47, 48, 49, 50, 51, 52, 53, 54, 55, 56, 57, 58, 59, 60, 61, 62, 63, 64, 65, 66, 67, 68, 69, 70, 71, 72, 73, 74] ?_
    refine k_ret ?_
    show retQ _ _ _ _ _ _ _
    simp [*]
  · intro h21_1
    have f := lazy_law (row := row) (e := (E.mk op col c kids)) (by simpa [eCon, vZ] using h21_1)
    simp only [eTwo, eCon, vZ] at f
    refine k_skip ?_
    refine sq ?_
    refine dr ?_
    refine dc id (spec21 0) ?_
    refine de 7100 ?_
    refine dc id (spec24 9 2 0 ⟨false, 0, ⟨#[]⟩⟩ [] op col c kids) ?_
    refine de 7200 ?_
    refine dc id (spec23 row hrow (eTwo 9 (eCon 0) (E.mk op col c kids))) ?_ (hg := by simp [*, eTwo, eCon, eCol, vZ, E.av, E.row_eq]) (hf := by simp [*, eTwo, eCon, eCol, vZ, E.av, E.row_eq]; exact is_rfl _) (hx := by simp [*, eTwo, eCon, eCol, vZ, E.av, E.row_eq]; exact is_rfl _) (hargs := by simp [*, eTwo, eCon, eCol, vZ, E.av, E.row_eq]) (hB := by simp [*, eTwo, eCon, eCol, vZ, E.av, E.row_eq]) (hL := by simp [*, eTwo, eCon, eCol, vZ, E.av, E.row_eq]) (hd := by simp [*, eTwo, eCon, eCol, vZ, E.av, E.row_eq]; exact is_rfl _)
    refine de 7300 ?_
    refine dn ?_
    refine pr [1, 2, 4, 5, 6, 7, 8, 9, 10, 11, 30, 31, 32, 33, 34, 35, 36, 37, 38, 39, 40, 41, 42, 43, 44, 45, 46, 47, 48, 49, 50, 51, 52, 53, 54, 55, 56, 57, 58, 59, 60, 61, 62, 63, 64, 65, 66, 67, 68, 69, 70, 71, 72, 73, 74] ?_
    refine sq ?_
    refine dr ?_
    refine dc id (spec21 2) ?_
    refine de 8100 ?_
    refine dc id (spec24 10 2 0 ⟨false, 2, ⟨#[]⟩⟩ [] op col c kids) ?_
    refine de 8200 ?_
    refine dc id (spec23 row hrow (eTwo 10 (eCon 2) (E.mk op col c kids))) ?_ (hg := by simp [*, eTwo, eCon, eCol, vZ, E.av, E.row_eq]) (hf := by simp [*, eTwo, eCon, eCol, vZ, E.av, E.row_eq]; exact is_rfl _) (hx := by simp [*, eTwo, eCon, eCol, vZ, E.av, E.row_eq]; exact is_rfl _) (hargs := by simp [*, eTwo, eCon, eCol, vZ, E.av, E.row_eq]) (hB := by simp [*, eTwo, eCon, eCol, vZ, E.av, E.row_eq]) (hL := by simp [*, eTwo, eCon, eCol, vZ, E.av, E.row_eq]) (hd := by simp [*, eTwo, eCon, eCol, vZ, E.av, E.row_eq]; exact is_rfl _)
    refine de 8300 ?_
    refine dn ?_
    refine pr [1, 4, 5, 6, 7, 8, 9, 10, 11, 38, 39, 40, 41, 42, 43, 44, 45, 46, 47, 48, 49, 50, 51, 52, 53, 54, 55, 56, 57, 58, 59, 60, 61, 62, 63, 64, 65, 66, 67, 68, 69, 70, 71, 72, 73, 74] ?_
    refine sq ?_
    refine rc 9000 ?_
    refine oc id (spec23 row hrow (E.mk 12 0 vZ [eCon 1, eCon 7, (E.mk op col c kids)])) ?_ (hg := by simp [*, eTwo, eCon, eCol, vZ, E.av, E.row_eq]) (hf := by simp [*, eTwo, eCon, eCol, vZ, E.av, E.row_eq]; exact is_rfl _) (hx := by simp [*, eTwo, eCon, eCol, vZ, E.av, E.row_eq]; exact is_rfl _) (hargs := by simp [*, eTwo, eCon, eCol, vZ, E.av, E.row_eq]) (hB := by simp [*, eTwo, eCon, eCol, vZ, E.av, E.row_eq]) (hL := by simp [*, eTwo, eCon, eCol, vZ, E.av, E.row_eq]) (hd := by simp [*, eTwo, eCon, eCol, vZ, E.av, E.row_eq]; exact is_rfl _)
    refine oe 9100 ?_
    refine on ?_
    refine pr [4, 6, 7, 8, 9, 10, 11, 44, 45, 46, 47, 48, 49, 50, 51, 52, 53, 54, 55, 56, 57, 58, 59, 60, 61, 62, 63, 64, 65, 66, 67, 68, 69, 70, 71, 72, 73, 74] ?_
    refine sq ?_
    refine sq ?_
    refine rg 10000 ?_
    refine pr [4, 6, 7, 8, 9, 10, 11, 45, 46, 47, 48, 49, 50, 51, 52, 53, 54, 55, 56, 57, 58, 59, 60, 61, 62, 63, 64, 65, 66, 67, 68, 69, 70, 71, 72, 73, 74] ?_
    refine cd ?_ ?_
    · intro h45_2
      have g := f.1 (by simpa using h45_2)
      clear f
      refine sq ?_
      refine rc 11000 ?_
      iterate 3 (first | refine gp 11250 ?_ | refine os ?_ | refine gt 11250 ?_)
      refine oe 11300 ?_
      refine on ?_
      refine pr [4, 6, 8, 9, 10, 11, 54, 55, 56, 57, 58, 59, 60, 61, 62, 63, 64, 65, 66, 67, 68, 69, 70, 71, 72, 73, 74] ?_
      refine k_ret ?_
      show retQ _ _ _ _ _ _ _
      simp [*]
    · intro h45_2
      have g := f.2 (by simpa using h45_2)
      clear f
      refine k_skip ?_
      refine sq ?_
      refine rc 12000 ?_
      iterate 2 (first | refine gp 12150 ?_ | refine os ?_ | refine gt 12150 ?_)
      refine oe 12200 ?_
      iterate 3 (first | refine gp 12450 ?_ | refine os ?_ | refine gt 12450 ?_)
      refine oe 12500 ?_
      iterate 2 (first | refine gp 12650 ?_ | refine os ?_ | refine gt 12650 ?_)
      refine oe 12700 ?_
      iterate 3 (first | refine gp 12950 ?_ | refine os ?_ | refine gt 12950 ?_)
      refine oe 13000 ?_
      refine on ?_
      refine pr [4] ?_
      refine k_ret ?_
      show retQ _ _ _ _ _ _ _
      simp [*]

attribute [local simp] Val.av E.av E.row_eq vZ in
theorem spec4 (row : List Val) (hrow : row.length ≤ Flat.lim) (i k : Int) : Flat.Sp Try.prog 4 [.p (.ps (row.map Val.row)), vv (.int .i64 i), vv (.int .i64 k)] [] (vv (.bool true)) [] := by
  refine sk Try.func4 ?_
  intro F G hn hG
  refine sq ?_
  refine rg 1000 ?_
  refine pr [0, 1, 2, 6, 7, 8, 9, 10, 11, 12, 13, 14, 15, 16, 17, 18, 19, 20, 21, 22, 23, 24, 25, 26, 27, 28, 29, 30, 31, 32, 33, 34, 35, 36, 37, 38, 39, 40, 41, 42, 43, 44, 45, 46, 47, 48, 49, 50, 51, 52, 53, 54, 55, 56, 57, 58, 59, 60, 61, 62, 63, 64, 65, 66, 67, 68, 69, 70, 71] ?_
  refine sq ?_
  refine sq ?_
  refine rc 2000 ?_
  refine oc id (spec20) ?_
  refine oe 2100 ?_
  refine on ?_
  refine pr [0, 1, 2, 6, 7, 8, 9, 10, 11, 12, 14, 15, 16, 17, 18, 19, 20, 21, 22, 23, 24, 25, 26, 27, 28, 29, 30, 31, 32, 33, 34, 35, 36, 37, 38, 39, 40, 41, 42, 43, 44, 45, 46, 47, 48, 49, 50, 51, 52, 53, 54, 55, 56, 57, 58, 59, 60, 61, 62, 63, 64, 65, 66, 67, 68, 69, 70, 71] ?_
  refine ce ?_
  refine k_skip ?_
  refine sq ?_
  refine rc 4000 ?_
  refine oc id (spec25 i) ?_
  refine oe 4100 ?_
  refine oc id (spec25 k) ?_
  refine oc id (spec24 7 1 i vZ [] 1 k vZ []) ?_
  refine oe 4300 ?_
  refine oc id (spec23 row hrow (eTwo 7 (eCol i) (eCol k))) ?_ (hg := by simp [*, eTwo, eCon, eCol, vZ, E.av, E.row_eq]) (hf := by simp [*, eTwo, eCon, eCol, vZ, E.av, E.row_eq]; exact is_rfl _) (hx := by simp [*, eTwo, eCon, eCol, vZ, E.av, E.row_eq]; exact is_rfl _) (hargs := by simp [*, eTwo, eCon, eCol, vZ, E.av, E.row_eq]) (hB := by simp [*, eTwo, eCon, eCol, vZ, E.av, E.row_eq]) (hL := by simp [*, eTwo, eCon, eCol, vZ, E.av, E.row_eq]) (hd := by simp [*, eTwo, eCon, eCol, vZ, E.av, E.row_eq]; exact is_rfl _)
  refine oe 4400 ?_
  refine on ?_
  refine pr [0, 1, 2, 6, 7, 8, 9, 10, 11, 12, 25, 26, 27, 28, 29, 30, 31, 32, 33, 34, 35, 36, 37, 38, 39, 40, 41, 42, 43, 44, 45, 46, 47, 48, 49, 50, 51, 52, 53, 54, 55, 56, 57, 58, 59, 60, 61, 62, 63, 64, 65, 66, 67, 68, 69, 70, 71] ?_
  refine sq ?_
  refine rc 5000 ?_
  refine oc id (spec25 i) ?_
  refine oe 5100 ?_
  refine oc id (spec25 k) ?_
  refine oc id (spec24 8 1 i vZ [] 1 k vZ []) ?_
  refine oe 5300 ?_
  refine oc id (spec23 row hrow (eTwo 8 (eCol i) (eCol k))) ?_ (hg := by simp [*, eTwo, eCon, eCol, vZ, E.av, E.row_eq]) (hf := by simp [*, eTwo, eCon, eCol, vZ, E.av, E.row_eq]; exact is_rfl _) (hx := by simp [*, eTwo, eCon, eCol, vZ, E.av, E.row_eq]; exact is_rfl _) (hargs := by simp [*, eTwo, eCon, eCol, vZ, E.av, E.row_eq]) (hB := by simp [*, eTwo, eCon, eCol, vZ, E.av, E.row_eq]) (hL := by simp [*, eTwo, eCon, eCol, vZ, E.av, E.row_eq]) (hd := by simp [*, eTwo, eCon, eCol, vZ, E.av, E.row_eq]; exact is_rfl _)
  refine oe 5400 ?_
  refine on ?_
  refine pr [0, 1, 2, 6, 7, 8, 9, 10, 11, 12, 35, 36, 37, 38, 39, 40, 41, 42, 43, 44, 45, 46, 47, 48, 49, 50, 51, 52, 53, 54, 55, 56, 57, 58, 59, 60, 61, 62, 63, 64, 65, 66, 67, 68, 69, 70, 71] ?_
  refine sq ?_
  refine rc 6000 ?_
  refine oc id (spec25 k) ?_
  refine oe 6100 ?_
  refine oc id (spec25 i) ?_
  refine oc id (spec24 7 1 k vZ [] 1 i vZ []) ?_
  refine oe 6300 ?_
  refine oc id (spec23 row hrow (eTwo 7 (eCol k) (eCol i))) ?_ (hg := by simp [*, eTwo, eCon, eCol, vZ, E.av, E.row_eq]) (hf := by simp [*, eTwo, eCon, eCol, vZ, E.av, E.row_eq]; exact is_rfl _) (hx := by simp [*, eTwo, eCon, eCol, vZ, E.av, E.row_eq]; exact is_rfl _) (hargs := by simp [*, eTwo, eCon, eCol, vZ, E.av, E.row_eq]) (hB := by simp [*, eTwo, eCon, eCol, vZ, E.av, E.row_eq]) (hL := by simp [*, eTwo, eCon, eCol, vZ, E.av, E.row_eq]) (hd := by simp [*, eTwo, eCon, eCol, vZ, E.av, E.row_eq]; exact is_rfl _)
  refine oe 6400 ?_
  refine on ?_
  refine pr [6, 7, 8, 9, 10, 11, 12, 45, 46, 47, 48, 49, 50, 51, 52, 53, 54, 55, 56, 57, 58, 59, 60, 61, 62, 63, 64, 65, 66, 67, 68, 69, 70, 71] ?_
  refine sq ?_
  refine sq ?_
  refine rg 7000 ?_
  refine pr [6, 7, 8, 9, 10, 11, 12, 46, 47, 48, 49, 50, 51, 52, 53, 54, 55, 56, 57, 58, 59, 60, 61, 62, 63, 64, 65, 66, 67, 68, 69, 70, 71] ?_
  refine cd ?_ ?_
  · intro h46_1
    have f := line_law row i k
    simp only [eTwo, eCol, vZ] at f
    have g := f.1 (by simpa using h46_1)
    clear f
    refine sq ?_
    refine rc 8000 ?_
    iterate 3 (first | refine gp 8250 ?_ | refine os ?_ | refine gt 8250 ?_)
    refine oe 8300 ?_
    refine on ?_
    refine pr [6, 7, 9, 10, 11, 12, 55, 56, 57, 58, 59, 60, 61, 62, 63, 64, 65, 66, 67, 68, 69, 70, 71] ?_
    refine k_ret ?_
    show retQ _ _ _ _ _ _ _
    simp [*]
  · intro h46_1
    have f := line_law row i k
    simp only [eTwo, eCol, vZ] at f
    have g := f.2 (by simpa using h46_1)
    clear f
    refine k_skip ?_
    refine sq ?_
    refine rc 9000 ?_
    iterate 2 (first | refine gp 9150 ?_ | refine os ?_ | refine gt 9150 ?_)
    refine oe 9200 ?_
    iterate 9 (first | refine gp 10050 ?_ | refine os ?_ | refine gt 10050 ?_)
    refine oe 10100 ?_
    refine on ?_
    refine pr [6] ?_
    refine k_ret ?_
    show retQ _ _ _ _ _ _ _
    simp [*]

attribute [local simp] Val.av E.av E.row_eq vZ in
theorem spec5 (a b : Int) (ha : i64 a) (hb : i64 b) : Flat.Sp Try.prog 5 [vv (.int .i64 a), vv (.int .i64 b)] [] (vv (.bool true)) [] := by
  refine sk Try.func5 ?_
  intro F G hn hG
  have f := turned_law ha hb
  simp only [eTwo, eCon, eNeg, vZ] at f
  obtain ⟨f1, f2⟩ := f
  simp only [Bool.or_eq_true, Bool.and_eq_true, beq_iff_eq, Int.zero_sub] at f2
  refine sq ?_
  refine rg 1000 ?_
  refine pr [0, 1, 4, 5, 6, 7, 8, 9, 10, 11, 12, 13, 14, 15, 16, 17, 18, 19, 20, 21, 22, 23, 24, 25, 26, 27, 28, 29, 30, 31, 32, 33, 34, 35, 36, 37, 38, 39, 40, 41, 42, 43, 44, 45, 46, 47, 48, 49, 50, 51, 52, 53, 54, 55, 56, 57, 58, 59, 60, 61, 62, 63, 64, 65, 66, 67, 68, 69, 70, 71] ?_
  refine sq ?_
  refine sq ?_
  refine rc 2000 ?_
  refine oc id (spec20) ?_
  refine oe 2100 ?_
  refine on ?_
  refine pr [0, 1, 4, 5, 6, 7, 8, 9, 10, 12, 13, 14, 15, 16, 17, 18, 19, 20, 21, 22, 23, 24, 25, 26, 27, 28, 29, 30, 31, 32, 33, 34, 35, 36, 37, 38, 39, 40, 41, 42, 43, 44, 45, 46, 47, 48, 49, 50, 51, 52, 53, 54, 55, 56, 57, 58, 59, 60, 61, 62, 63, 64, 65, 66, 67, 68, 69, 70, 71] ?_
  refine ce ?_
  refine k_skip ?_
  refine sq ?_
  refine rc 4000 ?_
  refine oc id (spec21 a) ?_
  refine oe 4100 ?_
  refine oc id (spec21 b) ?_
  refine oc id (spec24 4 2 0 ⟨false, a, ⟨#[]⟩⟩ [] 2 0 ⟨false, b, ⟨#[]⟩⟩ []) ?_
  refine oc id (spec23 [] (by simp [Flat.lim]) (eTwo 4 (eCon a) (eCon b))) ?_ (hg := by simp [*, eTwo, eCon, eCol, vZ, E.av, E.row_eq, eNeg]) (hf := by simp [*, eTwo, eCon, eCol, vZ, E.av, E.row_eq, eNeg]; exact is_rfl _) (hx := by simp [*, eTwo, eCon, eCol, vZ, E.av, E.row_eq, eNeg]; exact is_rfl _) (hargs := by simp [*, eTwo, eCon, eCol, vZ, E.av, E.row_eq, eNeg]) (hB := by simp [*, eTwo, eCon, eCol, vZ, E.av, E.row_eq, eNeg]) (hL := by simp [*, eTwo, eCon, eCol, vZ, E.av, E.row_eq, eNeg]) (hd := by simp [*, eTwo, eCon, eCol, vZ, E.av, E.row_eq, eNeg]; exact is_rfl _)
  refine oe 4400 ?_
  refine on ?_
  refine pr [0, 1, 4, 5, 6, 7, 8, 9, 10, 22, 23, 24, 25, 26, 27, 28, 29, 30, 31, 32, 33, 34, 35, 36, 37, 38, 39, 40, 41, 42, 43, 44, 45, 46, 47, 48, 49, 50, 51, 52, 53, 54, 55, 56, 57, 58, 59, 60, 61, 62, 63, 64, 65, 66, 67, 68, 69, 70, 71] ?_
  refine sq ?_
  refine rc 5000 ?_
  refine oc id (spec21 b) ?_
  refine oe 5100 ?_
  refine oc id (spec21 a) ?_
  refine oc id (spec24 4 2 0 ⟨false, b, ⟨#[]⟩⟩ [] 2 0 ⟨false, a, ⟨#[]⟩⟩ []) ?_
  refine oe 5300 ?_
  refine oc id (spec23 [] (by simp [Flat.lim]) (eNeg (eTwo 4 (eCon b) (eCon a)))) ?_ (hg := by simp [*, eTwo, eCon, eCol, vZ, E.av, E.row_eq, eNeg]) (hf := by simp [*, eTwo, eCon, eCol, vZ, E.av, E.row_eq, eNeg]; exact is_rfl _) (hx := by simp [*, eTwo, eCon, eCol, vZ, E.av, E.row_eq, eNeg]; exact is_rfl _) (hargs := by simp [*, eTwo, eCon, eCol, vZ, E.av, E.row_eq, eNeg]) (hB := by simp [*, eTwo, eCon, eCol, vZ, E.av, E.row_eq, eNeg]) (hL := by simp [*, eTwo, eCon, eCol, vZ, E.av, E.row_eq, eNeg]) (hd := by simp [*, eTwo, eCon, eCol, vZ, E.av, E.row_eq, eNeg]; exact is_rfl _)
  refine oe 5400 ?_
  refine on ?_
  refine pr [0, 4, 5, 6, 7, 8, 9, 10, 33, 34, 35, 36, 37, 38, 39, 40, 41, 42, 43, 44, 45, 46, 47, 48, 49, 50, 51, 52, 53, 54, 55, 56, 57, 58, 59, 60, 61, 62, 63, 64, 65, 66, 67, 68, 69, 70, 71] ?_
  refine sq ?_
  refine sq ?_
  refine rc 6000 ?_
  iterate 2 (first | refine gp 6150 ?_ | refine os ?_ | refine gt 6150 ?_)
  refine oe 6200 ?_
  iterate 3 (first | refine gp 6450 ?_ | refine os ?_ | refine gt 6450 ?_)
  refine oe 6500 ?_
  refine on ?_
  refine pr [0, 4, 9, 10, 43, 44, 45, 46, 47, 48, 49, 50, 51, 52, 53, 54, 55, 56, 57, 58, 59, 60, 61, 62, 63, 64, 65, 66, 67, 68, 69, 70, 71] ?_
  refine ce ?_
  refine k_skip ?_
  refine sq ?_
  refine rc 8000 ?_
  refine oc id (spec21 a) ?_
  refine oe 8100 ?_
  refine oc id (spec23 [] (by simp [Flat.lim]) (eNeg (eNeg (eCon a)))) ?_ (hg := by simp [*, eTwo, eCon, eCol, vZ, E.av, E.row_eq, eNeg]) (hf := by simp [*, eTwo, eCon, eCol, vZ, E.av, E.row_eq, eNeg]; exact is_rfl _) (hx := by simp [*, eTwo, eCon, eCol, vZ, E.av, E.row_eq, eNeg]; exact is_rfl _) (hargs := by simp [*, eTwo, eCon, eCol, vZ, E.av, E.row_eq, eNeg]) (hB := by simp [*, eTwo, eCon, eCol, vZ, E.av, E.row_eq, eNeg]) (hL := by simp [*, eTwo, eCon, eCol, vZ, E.av, E.row_eq, eNeg]) (hd := by simp [*, eTwo, eCon, eCol, vZ, E.av, E.row_eq, eNeg]; exact is_rfl _)
  refine oe 8200 ?_
  refine on ?_
  refine pr [0, 4, 9, 10, 54, 55, 56, 57, 58, 59, 60, 61, 62, 63, 64, 65, 66, 67, 68, 69, 70, 71] ?_
  refine sq ?_
  refine rc 9000 ?_
  iterate 4 (first | refine gp 9350 ?_ | refine os ?_ | refine gt 9350 ?_)
  refine oe 9400 ?_
  iterate 8 (first | refine gp 10150 ?_ | refine os ?_ | refine gt 10150 ?_)
  refine oe 10200 ?_
  refine on ?_
  refine pr [4] ?_
  refine k_ret ?_
  show retQ _ _ _ _ _ _ _
  simp [*]

end Go.Proofs
end
