/-
  The law functions of chapter 08, the second part.
-/
import Derived.Test.YtgkkoeodinlffaaPartF
set_option linter.unusedVariables false
set_option linter.unusedSimpArgs false
namespace Go.Proofs
open Go.Flat
set_option maxRecDepth 100000
set_option linter.unusedSimpArgs false
set_option linter.unusedVariables false
attribute [local simp] Bool.and_assoc Bool.or_assoc evalG evalX efD skF guardG guardL isCall stepL evalOp ev evs lk tmpsL app AV.ok fresh vv putCells insV ins del putL place Go.Flat.look fillC fillR getCells loadF storeF binF scalarBin intBin strBin isShift shiftBin unF lenF maxF minF rowsF appendF builtinF idxF natOf sliceP sliceF optEv Flat.cut overwrite toPV toPVs constAV scalarC scalarCs AV.cells TI.isAgg allSome andAll scalarEq buildable Go.Flat.lim retQ resL resAll resOne PartOf noTmp closedIn refs refs.refsL isSomeV hasB ids leA leA.leL renA renA.renL callB refsAll backL dropIds renS LiesAt injB ownB freshB memN locId insAll leA_refl leL_refl okS frzS frzA frzA.frzL evalD feet fine updCells cellsFrom memP footRf footWf noTmpU updIds opOps opIds idsA footR footW guardTs opTs dstTs callR callW renLoc renC inBlockQ thenQ Value.oneCell' IntKind.bits IntKind.signed callWk without

attribute [local simp] Val.av E.av E.row_eq vZ in
theorem spec6 (ao ac : Int) (av : Val) (ak : List E) (bo bc : Int) (bv : Val) (bk : List E) (row : List Val) (hrow : row.length ≤ Flat.lim)  : Flat.Sp Try.prog 6 [(E.mk ao ac av ak).av, (E.mk bo bc bv bk).av, .p (.ps (row.map Val.row))] [] (vv (.bool true)) [] := by
  refine sk Try.func6 ?_
  intro F G hn hG
  have f3 := sums_facts row (o := 3) (E.mk ao ac av ak) (E.mk bo bc bv bk) (.inl rfl)
  have f5 := sums_facts row (o := 5) (E.mk ao ac av ak) (E.mk bo bc bv bk) (.inr rfl)
  simp only [eTwo, vZ] at f3 f5
  obtain ⟨f3, f3b⟩ := f3
  obtain ⟨f5, f5b⟩ := f5
  refine sq ?_
  refine rg 1000 ?_
  refine pr [2, 3, 4, 6, 8, 9, 10, 11, 12, 13, 14, 15, 16, 17, 18, 19, 20, 21, 22, 23, 24, 25, 26, 27, 28, 29, 30, 31, 32, 33, 34, 35, 36, 37, 38, 39, 40, 41, 42, 43, 44, 45, 46, 47, 48, 49, 50, 51, 52, 53] ?_
  refine sq ?_
  refine sq ?_
  refine rc 2000 ?_
  refine oc id (spec20) ?_
  refine oe 2100 ?_
  refine on ?_
  refine pr [2, 3, 4, 6, 8, 9, 10, 11, 12, 14, 15, 16, 17, 18, 19, 20, 21, 22, 23, 24, 25, 26, 27, 28, 29, 30, 31, 32, 33, 34, 35, 36, 37, 38, 39, 40, 41, 42, 43, 44, 45, 46, 47, 48, 49, 50, 51, 52, 53] ?_
  refine ce ?_
  refine k_skip ?_
  refine sq ?_
  refine sq ?_
  refine rg 4000 ?_
  refine pr [2, 3, 4, 6, 8, 9, 10, 11, 12, 15, 16, 17, 18, 19, 20, 21, 22, 23, 24, 25, 26, 27, 28, 29, 30, 31, 32, 33, 34, 35, 36, 37, 38, 39, 40, 41, 42, 43, 44, 45, 46, 47, 48, 49, 50, 51, 52, 53] ?_
  refine k_block ?_
  refine k_rounds 3 ?_
  show AK _ _ _ _ _ _
  refine sq ?_
  refine rg 5000 ?_
  refine pr [2, 3, 4, 6, 8, 9, 10, 11, 12, 15, 16, 17, 18, 19, 20, 21, 22, 23, 24, 25, 26, 27, 28, 29, 30, 31, 32, 33, 34, 35, 36, 37, 38, 39, 40, 41, 42, 43, 44, 45, 46, 47, 48, 49, 50, 51, 52, 53] ?_
  refine sq ?_
  refine ct ?_
  refine k_skip ?_
  refine sq ?_
  refine k_block ?_
  refine sq ?_
  refine rg 6000 ?_
  refine pr [2, 3, 4, 6, 8, 9, 10, 11, 12, 15, 16, 17, 18, 19, 20, 21, 22, 23, 24, 25, 26, 27, 28, 29, 30, 31, 32, 33, 34, 35, 36, 37, 38, 39, 40, 41, 42, 43, 44, 45, 46, 47, 48, 49, 50, 51, 52, 53] ?_
  refine sq ?_
  refine rc 7000 ?_
  refine oc id (spec24 3 ao ac av ak bo bc bv bk) ?_
  refine oe 7100 ?_
  refine oc id (spec23 row hrow (eTwo 3 (E.mk ao ac av ak) (E.mk bo bc bv bk))) ?_ (hg := by simp [*, eTwo, eCon, eCol, vZ, E.av, E.row_eq]) (hf := by simp [*, eTwo, eCon, eCol, vZ, E.av, E.row_eq]; exact is_rfl _) (hx := by simp [*, eTwo, eCon, eCol, vZ, E.av, E.row_eq]; exact is_rfl _) (hargs := by simp [*, eTwo, eCon, eCol, vZ, E.av, E.row_eq]) (hB := by simp [*, eTwo, eCon, eCol, vZ, E.av, E.row_eq]) (hL := by simp [*, eTwo, eCon, eCol, vZ, E.av, E.row_eq]) (hd := by simp [*, eTwo, eCon, eCol, vZ, E.av, E.row_eq]; exact is_rfl _)
  refine oe 7200 ?_
  refine on ?_
  refine pr [2, 3, 4, 6, 8, 9, 10, 11, 12, 15, 16, 17, 18, 19, 20, 21, 22, 23, 24, 25, 26, 27, 28, 29, 30, 31, 32, 33, 34, 35, 36, 37, 38, 39, 40, 41, 42, 43, 44, 45, 46, 47, 48, 49, 50, 51, 52, 53] ?_
  refine sq ?_
  refine rc 8000 ?_
  refine oc id (spec24 3 bo bc bv bk ao ac av ak) ?_
  refine oe 8100 ?_
  refine oc id (spec23 row hrow (eTwo 3 (E.mk bo bc bv bk) (E.mk ao ac av ak))) ?_ (hg := by simp [*, eTwo, eCon, eCol, vZ, E.av, E.row_eq]) (hf := by simp [*, eTwo, eCon, eCol, vZ, E.av, E.row_eq]; exact is_rfl _) (hx := by simp [*, eTwo, eCon, eCol, vZ, E.av, E.row_eq]; exact is_rfl _) (hargs := by simp [*, eTwo, eCon, eCol, vZ, E.av, E.row_eq]) (hB := by simp [*, eTwo, eCon, eCol, vZ, E.av, E.row_eq]) (hL := by simp [*, eTwo, eCon, eCol, vZ, E.av, E.row_eq]) (hd := by simp [*, eTwo, eCon, eCol, vZ, E.av, E.row_eq]; exact is_rfl _)
  refine oe 8200 ?_
  refine on ?_
  refine pr [2, 3, 4, 6, 8, 9, 10, 11, 12, 15, 16, 17, 18, 19, 20, 21, 22, 23, 24, 25, 26, 27, 28, 29, 30, 31, 32, 33, 34, 35, 36, 37, 38, 39, 40, 41, 42, 43, 44, 45, 46, 47, 48, 49, 50, 51, 52, 53] ?_
  refine sq ?_
  refine rc 9000 ?_
  iterate 7 (first | refine gp 9650 ?_ | refine os ?_ | refine gt 9650 ?_)
  refine oe 9700 ?_
  refine on ?_
  refine pr [2, 3, 4, 6, 8, 9, 10, 11, 12, 15, 16, 17, 18, 19, 20, 21, 22, 23, 24, 25, 26, 27, 28, 29, 30, 31, 32, 33, 34, 35, 36, 37, 38, 39, 40, 41, 42, 43, 44, 45, 46, 47, 48, 49, 50, 51, 52, 53] ?_
  refine ce ?_
  refine k_skip ?_
  refine k_nil ?_
  show AK _ _ _ _ _ _
  refine rg 11000 ?_
  refine k_nil ?_
  show AK _ _ _ _ _ _
  refine sq ?_
  refine rg 1005000 ?_
  refine pr [2, 3, 4, 6, 8, 9, 10, 11, 12, 15, 16, 17, 18, 19, 20, 21, 22, 23, 24, 25, 26, 27, 28, 29, 30, 31, 32, 33, 34, 35, 36, 37, 38, 39, 40, 41, 42, 43, 44, 45, 46, 47, 48, 49, 50, 51, 52, 53] ?_
  refine sq ?_
  refine ct ?_
  refine k_skip ?_
  refine sq ?_
  refine k_block ?_
  refine sq ?_
  refine rg 1006000 ?_
  refine pr [2, 3, 4, 6, 8, 9, 10, 11, 12, 15, 16, 17, 18, 19, 20, 21, 22, 23, 24, 25, 26, 27, 28, 29, 30, 31, 32, 33, 34, 35, 36, 37, 38, 39, 40, 41, 42, 43, 44, 45, 46, 47, 48, 49, 50, 51, 52, 53] ?_
  refine sq ?_
  refine rc 1007000 ?_
  refine oc id (spec24 5 ao ac av ak bo bc bv bk) ?_
  refine oe 1007100 ?_
  refine oc id (spec23 row hrow (eTwo 5 (E.mk ao ac av ak) (E.mk bo bc bv bk))) ?_ (hg := by simp [*, eTwo, eCon, eCol, vZ, E.av, E.row_eq]) (hf := by simp [*, eTwo, eCon, eCol, vZ, E.av, E.row_eq]; exact is_rfl _) (hx := by simp [*, eTwo, eCon, eCol, vZ, E.av, E.row_eq]; exact is_rfl _) (hargs := by simp [*, eTwo, eCon, eCol, vZ, E.av, E.row_eq]) (hB := by simp [*, eTwo, eCon, eCol, vZ, E.av, E.row_eq]) (hL := by simp [*, eTwo, eCon, eCol, vZ, E.av, E.row_eq]) (hd := by simp [*, eTwo, eCon, eCol, vZ, E.av, E.row_eq]; exact is_rfl _)
  refine oe 1007200 ?_
  refine on ?_
  refine pr [2, 3, 4, 6, 8, 9, 10, 11, 12, 15, 16, 17, 18, 19, 20, 21, 22, 23, 24, 25, 26, 27, 28, 29, 30, 31, 32, 33, 34, 35, 36, 37, 38, 39, 40, 41, 42, 43, 44, 45, 46, 47, 48, 49, 50, 51, 52, 53] ?_
  refine sq ?_
  refine rc 1008000 ?_
  refine oc id (spec24 5 bo bc bv bk ao ac av ak) ?_
  refine oe 1008100 ?_
  refine oc id (spec23 row hrow (eTwo 5 (E.mk bo bc bv bk) (E.mk ao ac av ak))) ?_ (hg := by simp [*, eTwo, eCon, eCol, vZ, E.av, E.row_eq]) (hf := by simp [*, eTwo, eCon, eCol, vZ, E.av, E.row_eq]; exact is_rfl _) (hx := by simp [*, eTwo, eCon, eCol, vZ, E.av, E.row_eq]; exact is_rfl _) (hargs := by simp [*, eTwo, eCon, eCol, vZ, E.av, E.row_eq]) (hB := by simp [*, eTwo, eCon, eCol, vZ, E.av, E.row_eq]) (hL := by simp [*, eTwo, eCon, eCol, vZ, E.av, E.row_eq]) (hd := by simp [*, eTwo, eCon, eCol, vZ, E.av, E.row_eq]; exact is_rfl _)
  refine oe 1008200 ?_
  refine on ?_
  refine pr [2, 3, 4, 6, 8, 9, 10, 11, 12, 15, 16, 17, 18, 19, 20, 21, 22, 23, 24, 25, 26, 27, 28, 29, 30, 31, 32, 33, 34, 35, 36, 37, 38, 39, 40, 41, 42, 43, 44, 45, 46, 47, 48, 49, 50, 51, 52, 53] ?_
  refine sq ?_
  refine rc 1009000 ?_
  iterate 7 (first | refine gp 1009650 ?_ | refine os ?_ | refine gt 1009650 ?_)
  refine oe 1009700 ?_
  refine on ?_
  refine pr [2, 3, 4, 6, 8, 9, 10, 11, 12, 15, 16, 17, 18, 19, 20, 21, 22, 23, 24, 25, 26, 27, 28, 29, 30, 31, 32, 33, 34, 35, 36, 37, 38, 39, 40, 41, 42, 43, 44, 45, 46, 47, 48, 49, 50, 51, 52, 53] ?_
  refine ce ?_
  refine k_skip ?_
  refine k_nil ?_
  show AK _ _ _ _ _ _
  refine rg 1011000 ?_
  refine k_nil ?_
  show AK _ _ _ _ _ _
  refine sq ?_
  refine rg 2005000 ?_
  refine pr [2, 3, 4, 6, 8, 9, 10, 11, 12, 15, 16, 17, 18, 19, 20, 21, 22, 23, 24, 25, 26, 27, 28, 29, 30, 31, 32, 33, 34, 35, 36, 37, 38, 39, 40, 41, 42, 43, 44, 45, 46, 47, 48, 49, 50, 51, 52, 53] ?_
  refine sq ?_
  refine ce ?_
  refine k_exit ?_
  show AK _ _ _ _ _ _
  refine sq ?_
  refine rg 12000 ?_
  refine pr [6] ?_
  refine k_ret ?_
  show retQ _ _ _ _ _ _ _
  simp [*]

attribute [local simp] Val.av E.av E.row_eq vZ in
theorem spec7 (op col : Int) (c : Val) (kids : List E) (row : List Val) (hrow : row.length ≤ Flat.lim)  : Flat.Sp Try.prog 7 [(E.mk op col c kids).av, .p (.ps (row.map Val.row))] [] (vv (.bool true)) [] := by
  refine sk Try.func7 ?_
  intro F G hn hG
  have f := typed_law row (E.mk op col c kids)
  simp only [vZ] at f
  obtain ⟨f1, f2, f3⟩ := f
  refine sq ?_
  refine rg 1000 ?_
  refine pr [1, 2, 4, 5, 6, 7, 8, 9, 10, 11, 12, 13, 14, 15, 16, 17, 18, 19, 20, 21, 22, 23, 24, 25, 26, 27, 28, 29, 30, 31, 32, 33, 34, 35, 36, 37, 38, 39, 40, 41, 42, 43, 44, 45, 46, 47, 48, 49, 50, 51, 52, 53] ?_
  refine sq ?_
  refine sq ?_
  refine rc 2000 ?_
  refine oc id (spec20) ?_
  refine oe 2100 ?_
  refine on ?_
  refine pr [1, 2, 4, 5, 6, 7, 8, 10, 11, 12, 13, 14, 15, 16, 17, 18, 19, 20, 21, 22, 23, 24, 25, 26, 27, 28, 29, 30, 31, 32, 33, 34, 35, 36, 37, 38, 39, 40, 41, 42, 43, 44, 45, 46, 47, 48, 49, 50, 51, 52, 53] ?_
  refine ce ?_
  refine k_skip ?_
  refine sq ?_
  refine dr ?_
  refine de 4000 ?_
  refine dc id (spec27 row hrow) ?_
  refine dc id (spec26 (row.map tOf) (by simpa using hrow) op col c kids) ?_ (hg := by simp [*, Function.comp_def, trow]) (hf := by simp [*, Function.comp_def, trow]; exact is_rfl _) (hx := by simp [*, Function.comp_def, trow]; exact is_rfl _) (hargs := by simp [*, Function.comp_def, trow]) (hB := by simp [*, Function.comp_def, trow]) (hL := by simp [*, Function.comp_def, trow]) (hd := by simp [*, Function.comp_def, trow]; exact is_rfl _)
  refine de 4200 ?_
  refine dn ?_
  refine pr [1, 2, 4, 5, 6, 7, 8, 18, 19, 20, 21, 22, 23, 24, 25, 26, 27, 28, 29, 30, 31, 32, 33, 34, 35, 36, 37, 38, 39, 40, 41, 42, 43, 44, 45, 46, 47, 48, 49, 50, 51, 52, 53] ?_
  refine sq ?_
  refine rc 5000 ?_
  refine oc id (spec23 row hrow (E.mk op col c kids)) ?_ (hg := by simp [*, eTwo, eCon, eCol, vZ, E.av, E.row_eq]) (hf := by simp [*, eTwo, eCon, eCol, vZ, E.av, E.row_eq]; exact is_rfl _) (hx := by simp [*, eTwo, eCon, eCol, vZ, E.av, E.row_eq]; exact is_rfl _) (hargs := by simp [*, eTwo, eCon, eCol, vZ, E.av, E.row_eq]) (hB := by simp [*, eTwo, eCon, eCol, vZ, E.av, E.row_eq]) (hL := by simp [*, eTwo, eCon, eCol, vZ, E.av, E.row_eq]) (hd := by simp [*, eTwo, eCon, eCol, vZ, E.av, E.row_eq]; exact is_rfl _)
  refine oe 5100 ?_
  refine on ?_
  refine pr [4, 5, 6, 7, 8, 24, 25, 26, 27, 28, 29, 30, 31, 32, 33, 34, 35, 36, 37, 38, 39, 40, 41, 42, 43, 44, 45, 46, 47, 48, 49, 50, 51, 52, 53] ?_
  refine sq ?_
  refine sq ?_
  refine rc 6000 ?_
  iterate 2 (first | refine gp 6150 ?_ | refine os ?_ | refine gt 6150 ?_)
  refine oe 6200 ?_
  refine on ?_
  refine pr [4, 5, 6, 7, 8, 29, 30, 31, 32, 33, 34, 35, 36, 37, 38, 39, 40, 41, 42, 43, 44, 45, 46, 47, 48, 49, 50, 51, 52, 53] ?_
  refine cd ?_ ?_
  · intro h29_1
    have g := f1 (by simpa using h29_1)
    clear f1 f2 f3
    refine sq ?_
    refine rc 7000 ?_
    iterate 6 (first | refine gp 7550 ?_ | refine os ?_ | refine gt 7550 ?_)
    refine oe 7600 ?_
    refine on ?_
    refine pr [4, 5, 7, 8, 40, 41, 42, 43, 44, 45, 46, 47, 48, 49, 50, 51, 52, 53] ?_
    refine k_ret ?_
    show retQ _ _ _ _ _ _ _
    simp [*]
  · intro h29_1
    have h29_12 : ((inferE (row.map tOf) (E.mk op col c kids)).2 != 0 || (evalE row (E.mk op col c kids)).2 == 4) = false := by simpa using h29_1
    have f2 := f2 h29_12
    have f3 := f3 h29_12
    clear f1 h29_12
    refine k_skip ?_
    refine sq ?_
    refine sq ?_
    refine rg 8000 ?_
    refine pr [4, 5, 7, 8, 41, 42, 43, 44, 45, 46, 47, 48, 49, 50, 51, 52, 53] ?_
    refine cd ?_ ?_
    · intro h41_2
      have g := f2 (by simpa using h41_2)
      clear f2 f3
      refine sq ?_
      refine rc 9000 ?_
      iterate 3 (first | refine gp 9250 ?_ | refine os ?_ | refine gt 9250 ?_)
      refine oe 9300 ?_
      refine on ?_
      refine pr [4, 5, 7, 49, 50, 51, 52, 53] ?_
      refine k_ret ?_
      show retQ _ _ _ _ _ _ _
      simp [*]
    · intro h41_2
      have g := f3 (by simpa using h41_2)
      clear f2 f3
      refine k_skip ?_
      refine sq ?_
      refine rg 10000 ?_
      refine pr [4] ?_
      refine k_ret ?_
      show retQ _ _ _ _ _ _ _
      simp [*]

end Go.Proofs
