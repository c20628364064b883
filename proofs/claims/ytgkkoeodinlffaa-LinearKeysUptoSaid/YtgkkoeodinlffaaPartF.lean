/-
  Contracts: expressions: what one comes to.
  Contracts: expressions: what one comes to, the second part.
  Contracts: expressions: what one comes to, the third part.
  Contracts: expressions: what one comes to; the law functions of chapter 08.
  Plain laws of expressions: how many there are, sums, what an expression of a type comes to.
  Contracts: sorting in place, by merging.
  Contracts: sorting in place, by merging.
-/
import Derived.Test.YtgkkoeodinlffaaPartE
section
set_option linter.unusedVariables false
set_option linter.unusedSimpArgs false
namespace Go.Proofs
open Go.Flat
set_option maxRecDepth 100000
set_option linter.unusedSimpArgs false
set_option linter.unusedVariables false
attribute [local simp] Bool.and_assoc Bool.or_assoc evalG evalX efD skF guardG guardL isCall stepL evalOp ev evs lk tmpsL app AV.ok fresh vv putCells insV ins del putL place Go.Flat.look fillC fillR getCells loadF storeF binF scalarBin intBin strBin isShift shiftBin unF lenF maxF minF rowsF appendF builtinF idxF natOf sliceP sliceF optEv Flat.cut overwrite toPV toPVs constAV scalarC scalarCs AV.cells TI.isAgg allSome andAll scalarEq buildable Go.Flat.lim retQ resL resAll resOne PartOf noTmp closedIn refs refs.refsL isSomeV hasB ids leA leA.leL renA renA.renL callB refsAll backL dropIds renS LiesAt injB ownB freshB memN locId insAll leA_refl leL_refl okS frzS frzA frzA.frzL evalD feet fine updCells cellsFrom memP footRf footWf noTmpU updIds opOps opIds idsA footR footW guardTs opTs dstTs callR callW renLoc renC inBlockQ thenQ Value.oneCell' IntKind.bits IntKind.signed
def numF (f : Int → Val × Int) (w : Int) : Int × Int := ((f w).1.n, unlessF (f w).2 (!(f w).1.t) 11)
def fitF (r : Int × Int) (w : Int) : Val × Int := (Val.num r.1, unlessF w (r.2 == 0) r.2)
def bitV (b : Bool) : Val := Val.num (if b then 1 else 0)
def sumR (op n : Int) (b e : Int → Val × Int) (w : Int) : Val × Int :=
  if w != 0 then (⟨false, 0, ⟨#[]⟩⟩, w)
  else if op == 11 then (bitV (n == 0), w)
  else if op == 6 then fitF (lessR 0 n) w
  else if op == 9 then (if n != 0 then (bitV ((numF b w).1 != 0), (numF b w).2) else (bitV false, w))
  else if op == 10 then (if n != 0 then (bitV true, w) else (bitV ((numF b w).1 != 0), (numF b w).2))
  else if op == 12 then (if n != 0 then b w else e w)
  else if op == 3 then fitF (tfit (tsum [n, (numF b w).1])) (numF b w).2
  else if op == 4 then fitF (lessR n (numF b w).1) (numF b w).2
  else fitF (timesR n (numF b w).1) (numF b w).2
def noF : Int → Val × Int := fun w => (⟨false, 0, ⟨#[]⟩⟩, w)
def stepR (row : List Val) (op col : Int) (c : Val) (fs : List (Int → Val × Int)) (w : Int) : Val × Int :=
  if w != 0 then (⟨false, 0, ⟨#[]⟩⟩, w)
  else if op == 2 then (c, w)
  else if op == 1 then (if decide (col < 0) || decide ((row.length : Int) ≤ col) then (⟨false, 0, ⟨#[]⟩⟩, unlessF w false 1) else (row.getD col.toNat ⟨false, 0, ⟨#[]⟩⟩, w))
  else if op == 7 || op == 8 then
    let x := fs.getD 0 noF w
    let y := fs.getD 1 noF x.2
    (bitV ((decide (x.1.cmp y.1 < 0) && op == 7) || (x.1.cmp y.1 == 0 && op == 8)), unlessF y.2 (x.1.t == y.1.t) 11)
  else sumR op (numF (fs.getD 0 noF) w).1 (fs.getD 1 noF) (fs.getD 2 noF) (numF (fs.getD 0 noF) w).2
mutual
def reck (row : List Val) : E → Int → Val × Int
  | .mk op col c kids => stepR row op col c (recks row kids)
def recks (row : List Val) : List E → List (Int → Val × Int)
  | [] => []
  | e :: r => reck row e :: recks row r
end

attribute [local simp] E.av in
theorem spec55_err (row : List Val) (hrow : row.length ≤ Flat.lim) (op col : Int) (c : Val) (kids : List E) (w : Int) (hw : (w != 0) = true) : Flat.Sp Try.prog 55 [.ptr 0 0, (E.mk op col c kids).av] [(.var 0, .n 2), (.cell 0 0, .av (vv (.int .i64 w))), (.cell 0 1, .av (.p (.ps (row.map Val.row))))] ((reck row (E.mk op col c kids) w).1.av) [(.var 0, .n 2), (.cell 0 0, .av (vv (.int .i64 (reck row (E.mk op col c kids) w).2))), (.cell 0 1, .av (.p (.ps (row.map Val.row))))] := by
  refine sk Try.func55 ?_
  intro F G hn hG
  refine sq ?_
  refine rg 1000 ?_
  refine pr [0, 3, 4, 5, 6, 7, 8, 9, 10, 11, 12, 13, 14, 15, 16, 17, 18, 19, 20, 21, 22, 23, 24, 25, 26, 27, 28, 29, 30, 31, 32, 33, 34, 35, 36, 37, 38, 39, 40, 41, 43, 44, 45, 46, 47, 48, 49, 50, 51, 52, 53, 54, 55, 56, 57, 58, 59, 60, 61, 62, 63, 64, 65, 66, 67, 68, 69, 70, 71, 72, 73, 74, 75, 76, 77, 78, 80, 81, 82, 83, 84, 85, 86, 87, 88, 89, 90, 91, 92, 93, 94, 95, 96, 97, 98, 99, 100, 101, 102, 103, 104, 105, 106, 107, 108] ?_
  refine sq ?_
  refine k_block ?_
  refine sq ?_
  refine rg 2000 ?_
  refine pr [0, 3, 4, 5, 6, 7, 8, 15, 16, 17, 18, 19, 20, 21, 22, 23, 24, 25, 26, 27, 28, 29, 30, 31, 32, 33, 34, 35, 36, 37, 38, 39, 40, 41, 43, 44, 45, 46, 47, 48, 49, 50, 51, 52, 53, 54, 55, 56, 57, 58, 59, 60, 61, 62, 63, 64, 65, 66, 67, 68, 69, 70, 71, 72, 73, 74, 75, 76, 77, 78, 80, 81, 82, 83, 84, 85, 86, 87, 88, 89, 90, 91, 92, 93, 94, 95, 96, 97, 98, 99, 100, 101, 102, 103, 104, 105, 106, 107, 108] ?_
  refine ct ?_
  refine sq ?_
  refine rg 3000 ?_
  refine pr [0, 3, 4, 100, 101, 102, 103, 104, 105, 106, 107, 108] ?_
  refine k_ret ?_
  show retQ _ _ _ _ _ _ _
  simp [*, reck, stepR, Val.av]

attribute [local simp] E.av in
theorem spec55_con (row : List Val) (hrow : row.length ≤ Flat.lim) (col : Int) (c : Val) (w : Int) (hw : (w != 0) = false) : Flat.Sp Try.prog 55 [.ptr 0 0, (E.mk 2 col c []).av] [(.var 0, .n 2), (.cell 0 0, .av (vv (.int .i64 w))), (.cell 0 1, .av (.p (.ps (row.map Val.row))))] ((reck row (E.mk 2 col c []) w).1.av) [(.var 0, .n 2), (.cell 0 0, .av (vv (.int .i64 (reck row (E.mk 2 col c []) w).2))), (.cell 0 1, .av (.p (.ps (row.map Val.row))))] := by
  refine sk Try.func55 ?_
  intro F G hn hG
  refine sq ?_
  refine rg 1000 ?_
  refine pr [0, 3, 4, 5, 6, 7, 8, 9, 10, 11, 12, 13, 14, 15, 16, 17, 18, 19, 20, 21, 22, 23, 24, 25, 26, 27, 28, 29, 30, 31, 32, 33, 34, 35, 36, 37, 38, 39, 40, 41, 43, 44, 45, 46, 47, 48, 49, 50, 51, 52, 53, 54, 55, 56, 57, 58, 59, 60, 61, 62, 63, 64, 65, 66, 67, 68, 69, 70, 71, 72, 73, 74, 75, 76, 77, 78, 80, 81, 82, 83, 84, 85, 86, 87, 88, 89, 90, 91, 92, 93, 94, 95, 96, 97, 98, 99, 100, 101, 102, 103, 104, 105, 106, 107, 108] ?_
  refine sq ?_
  refine k_block ?_
  refine sq ?_
  refine rg 2000 ?_
  refine pr [0, 3, 4, 5, 6, 7, 8, 15, 16, 17, 18, 19, 20, 21, 22, 23, 24, 25, 26, 27, 28, 29, 30, 31, 32, 33, 34, 35, 36, 37, 38, 39, 40, 41, 43, 44, 45, 46, 47, 48, 49, 50, 51, 52, 53, 54, 55, 56, 57, 58, 59, 60, 61, 62, 63, 64, 65, 66, 67, 68, 69, 70, 71, 72, 73, 74, 75, 76, 77, 78, 80, 81, 82, 83, 84, 85, 86, 87, 88, 89, 90, 91, 92, 93, 94, 95, 96, 97, 98, 99, 100, 101, 102, 103, 104, 105, 106, 107, 108] ?_
  refine ce ?_
  refine sq ?_
  refine rg 4000 ?_
  refine pr [0, 3, 4, 5, 6, 7, 16, 20, 21, 22, 23, 24, 25, 26, 27, 28, 29, 30, 31, 32, 33, 34, 35, 36, 37, 38, 39, 40, 41, 43, 44, 45, 46, 47, 48, 49, 50, 51, 52, 53, 54, 55, 56, 57, 58, 59, 60, 61, 62, 63, 64, 65, 66, 67, 68, 69, 70, 71, 72, 73, 74, 75, 76, 77, 78, 80, 81, 82, 83, 84, 85, 86, 87, 88, 89, 90, 91, 92, 93, 94, 95, 96, 97, 98, 99, 100, 101, 102, 103, 104, 105, 106, 107, 108] ?_
  refine ct ?_
  refine sq ?_
  refine rg 5000 ?_
  refine pr [0, 3, 4, 100, 101, 102, 103, 104, 105, 106, 107, 108] ?_
  refine k_ret ?_
  show retQ _ _ _ _ _ _ _
  simp [*, reck, stepR, Val.av]

attribute [local simp] E.av in
theorem spec55_col (row : List Val) (hrow : row.length ≤ Flat.lim) (col : Int) (c : Val) (w : Int) (hw : (w != 0) = false) : Flat.Sp Try.prog 55 [.ptr 0 0, (E.mk 1 col c []).av] [(.var 0, .n 2), (.cell 0 0, .av (vv (.int .i64 w))), (.cell 0 1, .av (.p (.ps (row.map Val.row))))] ((reck row (E.mk 1 col c []) w).1.av) [(.var 0, .n 2), (.cell 0 0, .av (vv (.int .i64 (reck row (E.mk 1 col c []) w).2))), (.cell 0 1, .av (.p (.ps (row.map Val.row))))] := by
  refine sk Try.func55 ?_
  intro F G hn hG
  refine sq ?_
  refine rg 1000 ?_
  refine pr [0, 3, 4, 5, 6, 7, 8, 9, 10, 11, 12, 13, 14, 15, 16, 17, 18, 19, 20, 21, 22, 23, 24, 25, 26, 27, 28, 29, 30, 31, 32, 33, 34, 35, 36, 37, 38, 39, 40, 41, 43, 44, 45, 46, 47, 48, 49, 50, 51, 52, 53, 54, 55, 56, 57, 58, 59, 60, 61, 62, 63, 64, 65, 66, 67, 68, 69, 70, 71, 72, 73, 74, 75, 76, 77, 78, 80, 81, 82, 83, 84, 85, 86, 87, 88, 89, 90, 91, 92, 93, 94, 95, 96, 97, 98, 99, 100, 101, 102, 103, 104, 105, 106, 107, 108] ?_
  refine sq ?_
  refine k_block ?_
  refine sq ?_
  refine rg 2000 ?_
  refine pr [0, 3, 4, 5, 6, 7, 8, 15, 16, 17, 18, 19, 20, 21, 22, 23, 24, 25, 26, 27, 28, 29, 30, 31, 32, 33, 34, 35, 36, 37, 38, 39, 40, 41, 43, 44, 45, 46, 47, 48, 49, 50, 51, 52, 53, 54, 55, 56, 57, 58, 59, 60, 61, 62, 63, 64, 65, 66, 67, 68, 69, 70, 71, 72, 73, 74, 75, 76, 77, 78, 80, 81, 82, 83, 84, 85, 86, 87, 88, 89, 90, 91, 92, 93, 94, 95, 96, 97, 98, 99, 100, 101, 102, 103, 104, 105, 106, 107, 108] ?_
  refine ce ?_
  refine sq ?_
  refine rg 4000 ?_
  refine pr [0, 3, 4, 5, 6, 7, 16, 20, 21, 22, 23, 24, 25, 26, 27, 28, 29, 30, 31, 32, 33, 34, 35, 36, 37, 38, 39, 40, 41, 43, 44, 45, 46, 47, 48, 49, 50, 51, 52, 53, 54, 55, 56, 57, 58, 59, 60, 61, 62, 63, 64, 65, 66, 67, 68, 69, 70, 71, 72, 73, 74, 75, 76, 77, 78, 80, 81, 82, 83, 84, 85, 86, 87, 88, 89, 90, 91, 92, 93, 94, 95, 96, 97, 98, 99, 100, 101, 102, 103, 104, 105, 106, 107, 108] ?_
  refine ce ?_
  refine sq ?_
  refine rg 6000 ?_
  refine pr [0, 3, 4, 5, 6, 7, 22, 26, 27, 28, 29, 30, 31, 32, 33, 34, 35, 36, 37, 38, 39, 40, 41, 43, 44, 45, 46, 47, 48, 49, 50, 51, 52, 53, 54, 55, 56, 57, 58, 59, 60, 61, 62, 63, 64, 65, 66, 67, 68, 69, 70, 71, 72, 73, 74, 75, 76, 77, 78, 80, 81, 82, 83, 84, 85, 86, 87, 88, 89, 90, 91, 92, 93, 94, 95, 96, 97, 98, 99, 100, 101, 102, 103, 104, 105, 106, 107, 108] ?_
  refine ct ?_
  refine sq ?_
  refine sq ?_
  refine cv [(.tmp 38, vv (.bool (decide (col < 0) || decide ((row.length : Int) ≤ col))))] ?_ ?_
  · skip
    rcases h0 : (decide (col < 0) : Bool) with _ | _
    · skip
      refine dr ?_
      refine de 7000 ?_
      iterate 8 (first | refine dp 7750 ?_ | refine ds ?_ | refine dt 7750 ?_)
      refine de 7800 ?_
      refine dn ?_
      refine k_nil ?_
      refine ⟨rfl, ?_, ?_, ?_⟩ <;> simp [*]
    · skip
      refine dr ?_
      refine de 1007000 ?_
      iterate 8 (first | refine dp 1007750 ?_ | refine ds ?_ | refine dt 1007750 ?_)
      refine de 1007800 ?_
      refine dn ?_
      refine k_nil ?_
      refine ⟨rfl, ?_, ?_, ?_⟩ <;> simp [*]
  refine pr [0, 3, 4, 38, 39, 40, 41, 43, 44, 45, 46, 47, 48, 49, 50, 51, 100, 101, 102, 103, 104, 105, 106, 107, 108] ?_
  refine cd ?_ ?_
  · intro h38_1
    have h38_1 : (decide (col < 0) || decide ((row.length : Int) ≤ col)) = true := h38_1
    refine sq ?_
    refine rc 8000 ?_
    refine oc id (spec104 w (.ps (row.map Val.row)) false 1) ?_
    refine on ?_
    refine pr [0, 3, 4, 43, 44, 45, 46, 47, 48, 49, 50, 51, 100, 101, 102, 103, 104, 105, 106, 107, 108] ?_
    refine sq ?_
    refine rg 9000 ?_
    refine pr [0, 3, 4, 44, 45, 46, 47, 48, 49, 50, 51, 100, 101, 102, 103, 104, 105, 106, 107, 108] ?_
    refine k_ret ?_
    show retQ _ _ _ _ _ _ _
    simp [*, reck, stepR, Val.av]
  · intro h38_1
    have h38_1 : (decide (col < 0) || decide ((row.length : Int) ≤ col)) = false := h38_1
    simp only [Bool.or_eq_false_iff, decide_eq_false_iff_not, Int.not_lt, Int.not_le] at h38_1
    obtain ⟨k, rfl⟩ := Int.eq_ofNat_of_zero_le h38_1.1
    have hlt : k < row.length := by omega
    have hnl : ¬ row.length ≤ k := by omega
    have hnk : ¬ ((k : Int) < 0) := by omega
    obtain ⟨t, hte⟩ : ∃ t, row[k] = t := ⟨_, rfl⟩
    refine k_skip ?_
    refine sq ?_
    refine dr ?_
    refine de 10000 ?_ (h := by simp [*, Val.row]; exact is_rfl _)
    refine dn ?_
    refine pr [0, 3, 4, 100, 101, 102, 103, 104, 105, 106, 107, 108] ?_
    refine k_ret ?_
    show retQ _ _ _ _ _ _ _
    simp [*, reck, stepR, Val.av, Val.row]

attribute [local simp] E.av Val.av numF in
theorem spec108 (row : List Val) (hrow : row.length ≤ Flat.lim) (ao ac : Int) (av : Val) (ak : List E) (FA : Int → Val × Int) (ha : ∀ w : Int, Flat.Sp Try.prog 55 [.ptr 0 0, (E.mk ao ac av ak).av] [(.var 0, .n 2), (.cell 0 0, .av (vv (.int .i64 w))), (.cell 0 1, .av (.p (.ps (row.map Val.row))))] (FA w).1.av [(.var 0, .n 2), (.cell 0 0, .av (vv (.int .i64 (FA w).2))), (.cell 0 1, .av (.p (.ps (row.map Val.row))))]) (w : Int) : Flat.Sp Try.prog 108 [.ptr 0 0, (E.mk ao ac av ak).av] [(.var 0, .n 2), (.cell 0 0, .av (vv (.int .i64 w))), (.cell 0 1, .av (.p (.ps (row.map Val.row))))] (vv (.int .i64 (numF FA w).1)) [(.var 0, .n 2), (.cell 0 0, .av (vv (.int .i64 (numF FA w).2))), (.cell 0 1, .av (.p (.ps (row.map Val.row))))] := by
  refine sk Try.func108 ?_
  intro F G hn hG
  refine sq ?_
  refine rg 1000 ?_
  refine pr [0, 3, 4, 5, 6, 7, 8, 9, 10, 11, 12, 13, 14, 16, 17] ?_
  refine sq ?_
  refine rc 2000 ?_
  refine oc id (ha w) ?_
  refine oe 2100 ?_
  refine on ?_
  refine pr [0, 4, 5, 9, 10, 11, 12, 13, 14, 16, 17] ?_
  refine sq ?_
  refine dr ?_
  refine de 3000 ?_
  refine dc id (spec104 (FA w).2 (.ps (row.map Val.row)) (!(FA w).1.t) 11) ?_
  refine dn ?_
  refine pr [4, 5, 16, 17] ?_
  refine sq ?_
  refine rg 4000 ?_
  refine pr [4] ?_
  refine k_ret ?_
  show retQ _ _ _ _ _ _ _
  simp [*]

attribute [local simp] E.av E.row_eq in
theorem spec162 (row : List Val) (hrow : row.length ≤ Flat.lim) (op col : Int) (c : Val) (kids : List E) (bo bc : Int) (bv : Val) (bk : List E) (FB : Int → Val × Int) (hb : ∀ w : Int, Flat.Sp Try.prog 55 [.ptr 0 0, (E.mk bo bc bv bk).av] [(.var 0, .n 2), (.cell 0 0, .av (vv (.int .i64 w))), (.cell 0 1, .av (.p (.ps (row.map Val.row))))] (FB w).1.av [(.var 0, .n 2), (.cell 0 0, .av (vv (.int .i64 (FB w).2))), (.cell 0 1, .av (.p (.ps (row.map Val.row))))]) (hk1 : 1 < kids.length) (hkb : kids[1] = E.mk bo bc bv bk) (w : Int) : Flat.Sp Try.prog 162 [.ptr 1 0, .ptr 2 0] [(.var 0, .n 2), (.cell 0 0, .av (vv (.int .i64 w))), (.cell 0 1, .av (.p (.ps (row.map Val.row)))), (.var 1, .n 1), (.cell 1 0, .av (.ptr 0 0)), (.var 2, .n 6), (.cell 2 0, .av (vv (.int .u8 op))), (.cell 2 1, .av (vv (.int .i64 col))), (.cell 2 2, .av (vv (.bool c.t))), (.cell 2 3, .av (vv (.int .i64 c.n))), (.cell 2 4, .av (vv (.string c.s))), (.cell 2 5, .av (.p (.ps (kids.map E.row))))] (vv (.int .i64 (numF FB w).1)) [(.var 0, .n 2), (.cell 0 0, .av (vv (.int .i64 (numF FB w).2))), (.cell 0 1, .av (.p (.ps (row.map Val.row)))), (.var 1, .n 1), (.cell 1 0, .av (.ptr 0 0)), (.var 2, .n 6), (.cell 2 0, .av (vv (.int .u8 op))), (.cell 2 1, .av (vv (.int .i64 col))), (.cell 2 2, .av (vv (.bool c.t))), (.cell 2 3, .av (vv (.int .i64 c.n))), (.cell 2 4, .av (vv (.string c.s))), (.cell 2 5, .av (.p (.ps (kids.map E.row))))] := by
  refine sk Try.func162 ?_
  intro F G hn hG
  have hk2 : (1 : Int) < (kids.length : Int) := by omega
  refine sq ?_
  refine rg 1000 ?_
  refine pr [0, 1, 2, 3, 4, 5, 6, 7, 8] ?_
  refine sq ?_
  refine dr ?_
  refine de 2000 ?_
  refine dc id (spec108 row hrow bo bc bv bk FB hb w) ?_
  refine de 2100 ?_
  refine dn ?_
  refine pr [2] ?_
  refine k_ret ?_
  show retQ _ _ _ _ _ _ _
  simp [*]

attribute [local simp] E.av E.row_eq Val.av Val.num fitF bitV sumR in
theorem spec107_err (row : List Val) (hrow : row.length ≤ Flat.lim) (op : Int) (col : Int) (c : Val) (kids : List E) (FB : Int → Val × Int) (FE : Int → Val × Int) (n w : Int) (hw : (w != 0) = true) : Flat.Sp Try.prog 107 [.ptr 0 0, (E.mk op col c kids).av, vv (.int .i64 n)] [(.var 0, .n 2), (.cell 0 0, .av (vv (.int .i64 w))), (.cell 0 1, .av (.p (.ps (row.map Val.row))))] ((sumR op n FB FE w).1.av) [(.var 0, .n 2), (.cell 0 0, .av (vv (.int .i64 (sumR op n FB FE w).2))), (.cell 0 1, .av (.p (.ps (row.map Val.row))))] := by
  refine sk Try.func107 ?_
  intro F G hn hG
  refine sq ?_
  refine rg 1000 ?_
  refine pr [2, 3, 4, 6, 7, 8, 9, 10, 11, 12, 13, 14, 15, 16, 17, 18, 19, 20, 21, 22, 23, 24, 25, 26, 27, 28, 29, 30, 31, 32, 33, 34, 35, 36, 37, 38, 39, 40, 41, 42, 43, 44, 45, 46, 47, 48, 49, 50, 51, 52, 53, 54, 55, 56, 57, 58, 59, 60, 61, 62, 63, 64, 65, 66, 67, 68, 69, 70, 71, 72, 73, 74, 75, 76, 77, 78, 79, 80, 81, 82, 83, 84, 85, 86, 87, 88, 89, 90, 91, 92, 93, 94, 95] ?_
  refine sq ?_
  refine sq ?_
  refine rg 2000 ?_
  refine pr [2, 3, 4, 6, 7, 13, 14, 15, 16, 17, 18, 19, 20, 21, 22, 23, 24, 25, 26, 27, 28, 29, 30, 31, 32, 33, 34, 35, 36, 37, 38, 39, 40, 41, 42, 43, 44, 45, 46, 47, 48, 49, 50, 51, 52, 53, 54, 55, 56, 57, 58, 59, 60, 61, 62, 63, 64, 65, 66, 67, 68, 69, 70, 71, 72, 73, 74, 75, 76, 77, 78, 79, 80, 81, 82, 83, 84, 85, 86, 87, 88, 89, 90, 91, 92, 93, 94, 95] ?_
  refine ct ?_
  refine sq ?_
  refine rg 3000 ?_
  refine pr [2, 3, 4, 6, 7, 15, 16, 17, 18, 19, 20, 21, 22, 23, 24, 25, 26, 27, 28, 29, 30, 31, 32, 33, 34, 35, 36, 37, 38, 39, 40, 41, 42, 43, 44, 45, 46, 47, 48, 49, 50, 51, 52, 53, 54, 55, 56, 57, 58, 59, 60, 61, 62, 63, 64, 65, 66, 67, 68, 69, 70, 71, 72, 73, 74, 75, 76, 77, 78, 79, 80, 81, 82, 83, 84, 85, 86, 87, 88, 89, 90, 91, 92, 93, 94, 95] ?_
  refine k_ret ?_
  show retQ _ _ _ _ _ _ _
  simp [*]

attribute [local simp] E.av E.row_eq Val.av Val.num fitF bitV sumR in
theorem spec107_not (row : List Val) (hrow : row.length ≤ Flat.lim) (col : Int) (c : Val) (kids : List E) (FB : Int → Val × Int) (FE : Int → Val × Int) (n w : Int) (hw : (w != 0) = false) : Flat.Sp Try.prog 107 [.ptr 0 0, (E.mk 11 col c kids).av, vv (.int .i64 n)] [(.var 0, .n 2), (.cell 0 0, .av (vv (.int .i64 w))), (.cell 0 1, .av (.p (.ps (row.map Val.row))))] ((sumR 11 n FB FE w).1.av) [(.var 0, .n 2), (.cell 0 0, .av (vv (.int .i64 (sumR 11 n FB FE w).2))), (.cell 0 1, .av (.p (.ps (row.map Val.row))))] := by
  refine sk Try.func107 ?_
  intro F G hn hG
  refine sq ?_
  refine rg 1000 ?_
  refine pr [2, 3, 4, 6, 7, 8, 9, 10, 11, 12, 13, 14, 15, 16, 17, 18, 19, 20, 21, 22, 23, 24, 25, 26, 27, 28, 29, 30, 31, 32, 33, 34, 35, 36, 37, 38, 39, 40, 41, 42, 43, 44, 45, 46, 47, 48, 49, 50, 51, 52, 53, 54, 55, 56, 57, 58, 59, 60, 61, 62, 63, 64, 65, 66, 67, 68, 69, 70, 71, 72, 73, 74, 75, 76, 77, 78, 79, 80, 81, 82, 83, 84, 85, 86, 87, 88, 89, 90, 91, 92, 93, 94, 95] ?_
  refine sq ?_
  refine sq ?_
  refine rg 2000 ?_
  refine pr [2, 3, 4, 6, 7, 13, 14, 15, 16, 17, 18, 19, 20, 21, 22, 23, 24, 25, 26, 27, 28, 29, 30, 31, 32, 33, 34, 35, 36, 37, 38, 39, 40, 41, 42, 43, 44, 45, 46, 47, 48, 49, 50, 51, 52, 53, 54, 55, 56, 57, 58, 59, 60, 61, 62, 63, 64, 65, 66, 67, 68, 69, 70, 71, 72, 73, 74, 75, 76, 77, 78, 79, 80, 81, 82, 83, 84, 85, 86, 87, 88, 89, 90, 91, 92, 93, 94, 95] ?_
  refine ce ?_
  refine k_skip ?_
  refine sq ?_
  refine rg 4000 ?_
  refine pr [2, 3, 4, 6, 7, 16, 17, 18, 19, 20, 21, 22, 23, 24, 25, 26, 27, 28, 29, 30, 31, 32, 33, 34, 35, 36, 37, 38, 39, 40, 41, 42, 43, 44, 45, 46, 47, 48, 49, 50, 51, 52, 53, 54, 55, 56, 57, 58, 59, 60, 61, 62, 63, 64, 65, 66, 67, 68, 69, 70, 71, 72, 73, 74, 75, 76, 77, 78, 79, 80, 81, 82, 83, 84, 85, 86, 87, 88, 89, 90, 91, 92, 93, 94, 95] ?_
  refine sq ?_
  refine sq ?_
  refine rg 5000 ?_
  refine pr [2, 3, 4, 6, 7, 17, 18, 19, 20, 21, 22, 23, 24, 25, 26, 27, 28, 29, 30, 31, 32, 33, 34, 35, 36, 37, 38, 39, 40, 41, 42, 43, 44, 45, 46, 47, 48, 49, 50, 51, 52, 53, 54, 55, 56, 57, 58, 59, 60, 61, 62, 63, 64, 65, 66, 67, 68, 69, 70, 71, 72, 73, 74, 75, 76, 77, 78, 79, 80, 81, 82, 83, 84, 85, 86, 87, 88, 89, 90, 91, 92, 93, 94, 95] ?_
  refine k_block ?_
  refine sq ?_
  refine rg 6000 ?_
  refine pr [2, 3, 4, 6, 7, 17, 18, 20, 21, 22, 23, 24, 25, 26, 27, 28, 29, 30, 31, 32, 33, 34, 35, 36, 37, 38, 39, 40, 41, 42, 43, 44, 45, 46, 47, 48, 49, 50, 51, 52, 53, 54, 55, 56, 57, 58, 59, 60, 61, 62, 63, 64, 65, 66, 67, 68, 69, 70, 71, 72, 73, 74, 75, 76, 77, 78, 79, 80, 81, 82, 83, 84, 85, 86, 87, 88, 89, 90, 91, 92, 93, 94, 95] ?_
  refine ct ?_
  refine sq ?_
  refine rc 7000 ?_
  refine oc id (spec106 (n == 0)) ?_
  refine oe 7100 ?_
  refine on ?_
  refine pr [2, 3, 6, 7, 88, 89, 90, 91, 92, 93, 94, 95] ?_
  refine k_ret ?_
  show retQ _ _ _ _ _ _ _
  simp [*]

attribute [local simp] E.av E.row_eq Val.av Val.num fitF bitV sumR in
theorem spec107_neg (row : List Val) (hrow : row.length ≤ Flat.lim) (col : Int) (c : Val) (kids : List E) (FB : Int → Val × Int) (FE : Int → Val × Int) (n w : Int) (hw : (w != 0) = false) : Flat.Sp Try.prog 107 [.ptr 0 0, (E.mk 6 col c kids).av, vv (.int .i64 n)] [(.var 0, .n 2), (.cell 0 0, .av (vv (.int .i64 w))), (.cell 0 1, .av (.p (.ps (row.map Val.row))))] ((sumR 6 n FB FE w).1.av) [(.var 0, .n 2), (.cell 0 0, .av (vv (.int .i64 (sumR 6 n FB FE w).2))), (.cell 0 1, .av (.p (.ps (row.map Val.row))))] := by
  refine sk Try.func107 ?_
  intro F G hn hG
  refine sq ?_
  refine rg 1000 ?_
  refine pr [2, 3, 4, 6, 7, 8, 9, 10, 11, 12, 13, 14, 15, 16, 17, 18, 19, 20, 21, 22, 23, 24, 25, 26, 27, 28, 29, 30, 31, 32, 33, 34, 35, 36, 37, 38, 39, 40, 41, 42, 43, 44, 45, 46, 47, 48, 49, 50, 51, 52, 53, 54, 55, 56, 57, 58, 59, 60, 61, 62, 63, 64, 65, 66, 67, 68, 69, 70, 71, 72, 73, 74, 75, 76, 77, 78, 79, 80, 81, 82, 83, 84, 85, 86, 87, 88, 89, 90, 91, 92, 93, 94, 95] ?_
  refine sq ?_
  refine sq ?_
  refine rg 2000 ?_
  refine pr [2, 3, 4, 6, 7, 13, 14, 15, 16, 17, 18, 19, 20, 21, 22, 23, 24, 25, 26, 27, 28, 29, 30, 31, 32, 33, 34, 35, 36, 37, 38, 39, 40, 41, 42, 43, 44, 45, 46, 47, 48, 49, 50, 51, 52, 53, 54, 55, 56, 57, 58, 59, 60, 61, 62, 63, 64, 65, 66, 67, 68, 69, 70, 71, 72, 73, 74, 75, 76, 77, 78, 79, 80, 81, 82, 83, 84, 85, 86, 87, 88, 89, 90, 91, 92, 93, 94, 95] ?_
  refine ce ?_
  refine k_skip ?_
  refine sq ?_
  refine rg 4000 ?_
  refine pr [2, 3, 4, 6, 7, 16, 17, 18, 19, 20, 21, 22, 23, 24, 25, 26, 27, 28, 29, 30, 31, 32, 33, 34, 35, 36, 37, 38, 39, 40, 41, 42, 43, 44, 45, 46, 47, 48, 49, 50, 51, 52, 53, 54, 55, 56, 57, 58, 59, 60, 61, 62, 63, 64, 65, 66, 67, 68, 69, 70, 71, 72, 73, 74, 75, 76, 77, 78, 79, 80, 81, 82, 83, 84, 85, 86, 87, 88, 89, 90, 91, 92, 93, 94, 95] ?_
  refine sq ?_
  refine sq ?_
  refine rg 5000 ?_
  refine pr [2, 3, 4, 6, 7, 17, 18, 19, 20, 21, 22, 23, 24, 25, 26, 27, 28, 29, 30, 31, 32, 33, 34, 35, 36, 37, 38, 39, 40, 41, 42, 43, 44, 45, 46, 47, 48, 49, 50, 51, 52, 53, 54, 55, 56, 57, 58, 59, 60, 61, 62, 63, 64, 65, 66, 67, 68, 69, 70, 71, 72, 73, 74, 75, 76, 77, 78, 79, 80, 81, 82, 83, 84, 85, 86, 87, 88, 89, 90, 91, 92, 93, 94, 95] ?_
  refine k_block ?_
  refine sq ?_
  refine rg 6000 ?_
  refine pr [2, 3, 4, 6, 7, 17, 18, 20, 21, 22, 23, 24, 25, 26, 27, 28, 29, 30, 31, 32, 33, 34, 35, 36, 37, 38, 39, 40, 41, 42, 43, 44, 45, 46, 47, 48, 49, 50, 51, 52, 53, 54, 55, 56, 57, 58, 59, 60, 61, 62, 63, 64, 65, 66, 67, 68, 69, 70, 71, 72, 73, 74, 75, 76, 77, 78, 79, 80, 81, 82, 83, 84, 85, 86, 87, 88, 89, 90, 91, 92, 93, 94, 95] ?_
  refine ce ?_
  refine sq ?_
  refine rg 8000 ?_
  refine pr [2, 3, 4, 6, 7, 17, 23, 25, 26, 27, 28, 29, 30, 31, 32, 33, 34, 35, 36, 37, 38, 39, 40, 41, 42, 43, 44, 45, 46, 47, 48, 49, 50, 51, 52, 53, 54, 55, 56, 57, 58, 59, 60, 61, 62, 63, 64, 65, 66, 67, 68, 69, 70, 71, 72, 73, 74, 75, 76, 77, 78, 79, 80, 81, 82, 83, 84, 85, 86, 87, 88, 89, 90, 91, 92, 93, 94, 95] ?_
  refine ct ?_
  refine sq ?_
  refine dr ?_
  refine de 9000 ?_
  refine dc id (spec164 0 n) ?_
  refine de 9100 ?_
  refine dc id (spec163 w (.ps (row.map Val.row)) (lessR 0 n).1 (lessR 0 n).2) ?_
  refine de 9200 ?_
  refine dn ?_
  refine pr [2, 3, 6, 7, 88, 89, 90, 91, 92, 93, 94, 95] ?_
  refine k_ret ?_
  show retQ _ _ _ _ _ _ _
  simp [*]

end Go.Proofs
end
section
set_option linter.unusedVariables false
set_option linter.unusedSimpArgs false
namespace Go.Proofs
open Go.Flat
set_option maxRecDepth 100000
set_option linter.unusedSimpArgs false
set_option linter.unusedVariables false
attribute [local simp] Bool.and_assoc Bool.or_assoc evalG evalX efD skF guardG guardL isCall stepL evalOp ev evs lk tmpsL app AV.ok fresh vv putCells insV ins del putL place Go.Flat.look fillC fillR getCells loadF storeF binF scalarBin intBin strBin isShift shiftBin unF lenF maxF minF rowsF appendF builtinF idxF natOf sliceP sliceF optEv Flat.cut overwrite toPV toPVs constAV scalarC scalarCs AV.cells TI.isAgg allSome andAll scalarEq buildable Go.Flat.lim retQ resL resAll resOne PartOf noTmp closedIn refs refs.refsL isSomeV hasB ids leA leA.leL renA renA.renL callB refsAll backL dropIds renS LiesAt injB ownB freshB memN locId insAll leA_refl leL_refl okS frzS frzA frzA.frzL evalD feet fine updCells cellsFrom memP footRf footWf noTmpU updIds opOps opIds idsA footR footW guardTs opTs dstTs callR callW renLoc renC inBlockQ thenQ Value.oneCell' IntKind.bits IntKind.signed callWk without

attribute [local simp] E.av E.row_eq Val.av Val.num fitF bitV sumR in
theorem spec107_and1 (row : List Val) (hrow : row.length ≤ Flat.lim) (col : Int) (c : Val) (kids : List E) (bo bc : Int) (bv : Val) (bk : List E) (FB : Int → Val × Int) (hb : ∀ w : Int, Flat.Sp Try.prog 55 [.ptr 0 0, (E.mk bo bc bv bk).av] [(.var 0, .n 2), (.cell 0 0, .av (vv (.int .i64 w))), (.cell 0 1, .av (.p (.ps (row.map Val.row))))] (FB w).1.av [(.var 0, .n 2), (.cell 0 0, .av (vv (.int .i64 (FB w).2))), (.cell 0 1, .av (.p (.ps (row.map Val.row))))]) (hk1 : 1 < kids.length) (hkb : kids[1] = E.mk bo bc bv bk) (FE : Int → Val × Int) (n w : Int) (hw : (w != 0) = false)(hn0 : (n != 0) = true) : Flat.Sp Try.prog 107 [.ptr 0 0, (E.mk 9 col c kids).av, vv (.int .i64 n)] [(.var 0, .n 2), (.cell 0 0, .av (vv (.int .i64 w))), (.cell 0 1, .av (.p (.ps (row.map Val.row))))] ((sumR 9 n FB FE w).1.av) [(.var 0, .n 2), (.cell 0 0, .av (vv (.int .i64 (sumR 9 n FB FE w).2))), (.cell 0 1, .av (.p (.ps (row.map Val.row))))] := by
  refine sk Try.func107 ?_
  intro F G hn hG
  have hk2 : (1 : Int) < (kids.length : Int) := by omega
  refine sq ?_
  refine rg 1000 ?_
  refine pr [2, 3, 4, 6, 7, 8, 9, 10, 11, 12, 13, 14, 15, 16, 17, 18, 19, 20, 21, 22, 23, 24, 25, 26, 27, 28, 29, 30, 31, 32, 33, 34, 35, 36, 37, 38, 39, 40, 41, 42, 43, 44, 45, 46, 47, 48, 49, 50, 51, 52, 53, 54, 55, 56, 57, 58, 59, 60, 61, 62, 63, 64, 65, 66, 67, 68, 69, 70, 71, 72, 73, 74, 75, 76, 77, 78, 79, 80, 81, 82, 83, 84, 85, 86, 87, 88, 89, 90, 91, 92, 93, 94, 95] ?_
  refine sq ?_
  refine sq ?_
  refine rg 2000 ?_
  refine pr [2, 3, 4, 6, 7, 13, 14, 15, 16, 17, 18, 19, 20, 21, 22, 23, 24, 25, 26, 27, 28, 29, 30, 31, 32, 33, 34, 35, 36, 37, 38, 39, 40, 41, 42, 43, 44, 45, 46, 47, 48, 49, 50, 51, 52, 53, 54, 55, 56, 57, 58, 59, 60, 61, 62, 63, 64, 65, 66, 67, 68, 69, 70, 71, 72, 73, 74, 75, 76, 77, 78, 79, 80, 81, 82, 83, 84, 85, 86, 87, 88, 89, 90, 91, 92, 93, 94, 95] ?_
  refine ce ?_
  refine k_skip ?_
  refine sq ?_
  refine rg 4000 ?_
  refine pr [2, 3, 4, 6, 7, 16, 17, 18, 19, 20, 21, 22, 23, 24, 25, 26, 27, 28, 29, 30, 31, 32, 33, 34, 35, 36, 37, 38, 39, 40, 41, 42, 43, 44, 45, 46, 47, 48, 49, 50, 51, 52, 53, 54, 55, 56, 57, 58, 59, 60, 61, 62, 63, 64, 65, 66, 67, 68, 69, 70, 71, 72, 73, 74, 75, 76, 77, 78, 79, 80, 81, 82, 83, 84, 85, 86, 87, 88, 89, 90, 91, 92, 93, 94, 95] ?_
  refine sq ?_
  refine sq ?_
  refine rg 5000 ?_
  refine pr [2, 3, 4, 6, 7, 17, 18, 19, 20, 21, 22, 23, 24, 25, 26, 27, 28, 29, 30, 31, 32, 33, 34, 35, 36, 37, 38, 39, 40, 41, 42, 43, 44, 45, 46, 47, 48, 49, 50, 51, 52, 53, 54, 55, 56, 57, 58, 59, 60, 61, 62, 63, 64, 65, 66, 67, 68, 69, 70, 71, 72, 73, 74, 75, 76, 77, 78, 79, 80, 81, 82, 83, 84, 85, 86, 87, 88, 89, 90, 91, 92, 93, 94, 95] ?_
  refine k_block ?_
  refine sq ?_
  refine rg 6000 ?_
  refine pr [2, 3, 4, 6, 7, 17, 18, 20, 21, 22, 23, 24, 25, 26, 27, 28, 29, 30, 31, 32, 33, 34, 35, 36, 37, 38, 39, 40, 41, 42, 43, 44, 45, 46, 47, 48, 49, 50, 51, 52, 53, 54, 55, 56, 57, 58, 59, 60, 61, 62, 63, 64, 65, 66, 67, 68, 69, 70, 71, 72, 73, 74, 75, 76, 77, 78, 79, 80, 81, 82, 83, 84, 85, 86, 87, 88, 89, 90, 91, 92, 93, 94, 95] ?_
  refine ce ?_
  refine sq ?_
  refine rg 8000 ?_
  refine pr [2, 3, 4, 6, 7, 17, 23, 25, 26, 27, 28, 29, 30, 31, 32, 33, 34, 35, 36, 37, 38, 39, 40, 41, 42, 43, 44, 45, 46, 47, 48, 49, 50, 51, 52, 53, 54, 55, 56, 57, 58, 59, 60, 61, 62, 63, 64, 65, 66, 67, 68, 69, 70, 71, 72, 73, 74, 75, 76, 77, 78, 79, 80, 81, 82, 83, 84, 85, 86, 87, 88, 89, 90, 91, 92, 93, 94, 95] ?_
  refine ce ?_
  refine sq ?_
  refine rg 10000 ?_
  refine pr [2, 3, 4, 6, 7, 17, 31, 33, 34, 35, 36, 37, 38, 39, 40, 41, 42, 43, 44, 45, 46, 47, 48, 49, 50, 51, 52, 53, 54, 55, 56, 57, 58, 59, 60, 61, 62, 63, 64, 65, 66, 67, 68, 69, 70, 71, 72, 73, 74, 75, 76, 77, 78, 79, 80, 81, 82, 83, 84, 85, 86, 87, 88, 89, 90, 91, 92, 93, 94, 95] ?_
  refine ct ?_
  refine sq ?_
  refine rc 11000 ?_
  first | refine gp 11050 ?_ | refine os ?_ | refine gt 11050 ?_
  refine oc (fun k => if k = 1 then 1000 else if k = 2 then 1001 else k) (spec162 row hrow 9 col c kids bo bc bv bk FB hb hk1 hkb w) ?_
  first | refine gp 11250 ?_ | refine os ?_ | refine gt 11250 ?_
  refine oe 11300 ?_
  refine oc id (spec106 ((numF FB w).1 != 0)) ?_
  refine oe 11400 ?_
  refine on ?_
  refine pr [2, 3, 6, 7, 88, 89, 90, 91, 92, 93, 94, 95] ?_
  refine k_ret ?_
  show retQ _ _ _ _ _ _ _
  simp [*]

attribute [local simp] E.av E.row_eq Val.av Val.num fitF bitV sumR in
theorem spec107_and0 (row : List Val) (hrow : row.length ≤ Flat.lim) (col : Int) (c : Val) (kids : List E) (FB : Int → Val × Int) (FE : Int → Val × Int) (n w : Int) (hw : (w != 0) = false)(hn0 : (n != 0) = false) : Flat.Sp Try.prog 107 [.ptr 0 0, (E.mk 9 col c kids).av, vv (.int .i64 n)] [(.var 0, .n 2), (.cell 0 0, .av (vv (.int .i64 w))), (.cell 0 1, .av (.p (.ps (row.map Val.row))))] ((sumR 9 n FB FE w).1.av) [(.var 0, .n 2), (.cell 0 0, .av (vv (.int .i64 (sumR 9 n FB FE w).2))), (.cell 0 1, .av (.p (.ps (row.map Val.row))))] := by
  refine sk Try.func107 ?_
  intro F G hn hG
  refine sq ?_
  refine rg 1000 ?_
  refine pr [2, 3, 4, 6, 7, 8, 9, 10, 11, 12, 13, 14, 15, 16, 17, 18, 19, 20, 21, 22, 23, 24, 25, 26, 27, 28, 29, 30, 31, 32, 33, 34, 35, 36, 37, 38, 39, 40, 41, 42, 43, 44, 45, 46, 47, 48, 49, 50, 51, 52, 53, 54, 55, 56, 57, 58, 59, 60, 61, 62, 63, 64, 65, 66, 67, 68, 69, 70, 71, 72, 73, 74, 75, 76, 77, 78, 79, 80, 81, 82, 83, 84, 85, 86, 87, 88, 89, 90, 91, 92, 93, 94, 95] ?_
  refine sq ?_
  refine sq ?_
  refine rg 2000 ?_
  refine pr [2, 3, 4, 6, 7, 13, 14, 15, 16, 17, 18, 19, 20, 21, 22, 23, 24, 25, 26, 27, 28, 29, 30, 31, 32, 33, 34, 35, 36, 37, 38, 39, 40, 41, 42, 43, 44, 45, 46, 47, 48, 49, 50, 51, 52, 53, 54, 55, 56, 57, 58, 59, 60, 61, 62, 63, 64, 65, 66, 67, 68, 69, 70, 71, 72, 73, 74, 75, 76, 77, 78, 79, 80, 81, 82, 83, 84, 85, 86, 87, 88, 89, 90, 91, 92, 93, 94, 95] ?_
  refine ce ?_
  refine k_skip ?_
  refine sq ?_
  refine rg 4000 ?_
  refine pr [2, 3, 4, 6, 7, 16, 17, 18, 19, 20, 21, 22, 23, 24, 25, 26, 27, 28, 29, 30, 31, 32, 33, 34, 35, 36, 37, 38, 39, 40, 41, 42, 43, 44, 45, 46, 47, 48, 49, 50, 51, 52, 53, 54, 55, 56, 57, 58, 59, 60, 61, 62, 63, 64, 65, 66, 67, 68, 69, 70, 71, 72, 73, 74, 75, 76, 77, 78, 79, 80, 81, 82, 83, 84, 85, 86, 87, 88, 89, 90, 91, 92, 93, 94, 95] ?_
  refine sq ?_
  refine sq ?_
  refine rg 5000 ?_
  refine pr [2, 3, 4, 6, 7, 17, 18, 19, 20, 21, 22, 23, 24, 25, 26, 27, 28, 29, 30, 31, 32, 33, 34, 35, 36, 37, 38, 39, 40, 41, 42, 43, 44, 45, 46, 47, 48, 49, 50, 51, 52, 53, 54, 55, 56, 57, 58, 59, 60, 61, 62, 63, 64, 65, 66, 67, 68, 69, 70, 71, 72, 73, 74, 75, 76, 77, 78, 79, 80, 81, 82, 83, 84, 85, 86, 87, 88, 89, 90, 91, 92, 93, 94, 95] ?_
  refine k_block ?_
  refine sq ?_
  refine rg 6000 ?_
  refine pr [2, 3, 4, 6, 7, 17, 18, 20, 21, 22, 23, 24, 25, 26, 27, 28, 29, 30, 31, 32, 33, 34, 35, 36, 37, 38, 39, 40, 41, 42, 43, 44, 45, 46, 47, 48, 49, 50, 51, 52, 53, 54, 55, 56, 57, 58, 59, 60, 61, 62, 63, 64, 65, 66, 67, 68, 69, 70, 71, 72, 73, 74, 75, 76, 77, 78, 79, 80, 81, 82, 83, 84, 85, 86, 87, 88, 89, 90, 91, 92, 93, 94, 95] ?_
  refine ce ?_
  refine sq ?_
  refine rg 8000 ?_
  refine pr [2, 3, 4, 6, 7, 17, 23, 25, 26, 27, 28, 29, 30, 31, 32, 33, 34, 35, 36, 37, 38, 39, 40, 41, 42, 43, 44, 45, 46, 47, 48, 49, 50, 51, 52, 53, 54, 55, 56, 57, 58, 59, 60, 61, 62, 63, 64, 65, 66, 67, 68, 69, 70, 71, 72, 73, 74, 75, 76, 77, 78, 79, 80, 81, 82, 83, 84, 85, 86, 87, 88, 89, 90, 91, 92, 93, 94, 95] ?_
  refine ce ?_
  refine sq ?_
  refine rg 10000 ?_
  refine pr [2, 3, 4, 6, 7, 17, 31, 33, 34, 35, 36, 37, 38, 39, 40, 41, 42, 43, 44, 45, 46, 47, 48, 49, 50, 51, 52, 53, 54, 55, 56, 57, 58, 59, 60, 61, 62, 63, 64, 65, 66, 67, 68, 69, 70, 71, 72, 73, 74, 75, 76, 77, 78, 79, 80, 81, 82, 83, 84, 85, 86, 87, 88, 89, 90, 91, 92, 93, 94, 95] ?_
  refine ct ?_
  refine sq ?_
  refine rc 11000 ?_
  first | refine gp 11050 ?_ | refine os ?_ | refine gt 11050 ?_
  refine os ?_
  first | refine gp 11250 ?_ | refine os ?_ | refine gt 11250 ?_
  refine oe 11300 ?_
  refine oc id (spec106 false) ?_
  refine oe 11400 ?_
  refine on ?_
  refine pr [2, 3, 6, 7, 88, 89, 90, 91, 92, 93, 94, 95] ?_
  refine k_ret ?_
  show retQ _ _ _ _ _ _ _
  simp [*]

attribute [local simp] E.av E.row_eq Val.av Val.num fitF bitV sumR in
theorem spec107_or0 (row : List Val) (hrow : row.length ≤ Flat.lim) (col : Int) (c : Val) (kids : List E) (bo bc : Int) (bv : Val) (bk : List E) (FB : Int → Val × Int) (hb : ∀ w : Int, Flat.Sp Try.prog 55 [.ptr 0 0, (E.mk bo bc bv bk).av] [(.var 0, .n 2), (.cell 0 0, .av (vv (.int .i64 w))), (.cell 0 1, .av (.p (.ps (row.map Val.row))))] (FB w).1.av [(.var 0, .n 2), (.cell 0 0, .av (vv (.int .i64 (FB w).2))), (.cell 0 1, .av (.p (.ps (row.map Val.row))))]) (hk1 : 1 < kids.length) (hkb : kids[1] = E.mk bo bc bv bk) (FE : Int → Val × Int) (n w : Int) (hw : (w != 0) = false)(hn0 : (n != 0) = false) : Flat.Sp Try.prog 107 [.ptr 0 0, (E.mk 10 col c kids).av, vv (.int .i64 n)] [(.var 0, .n 2), (.cell 0 0, .av (vv (.int .i64 w))), (.cell 0 1, .av (.p (.ps (row.map Val.row))))] ((sumR 10 n FB FE w).1.av) [(.var 0, .n 2), (.cell 0 0, .av (vv (.int .i64 (sumR 10 n FB FE w).2))), (.cell 0 1, .av (.p (.ps (row.map Val.row))))] := by
  refine sk Try.func107 ?_
  intro F G hn hG
  have hk2 : (1 : Int) < (kids.length : Int) := by omega
  refine sq ?_
  refine rg 1000 ?_
  refine pr [2, 3, 4, 6, 7, 8, 9, 10, 11, 12, 13, 14, 15, 16, 17, 18, 19, 20, 21, 22, 23, 24, 25, 26, 27, 28, 29, 30, 31, 32, 33, 34, 35, 36, 37, 38, 39, 40, 41, 42, 43, 44, 45, 46, 47, 48, 49, 50, 51, 52, 53, 54, 55, 56, 57, 58, 59, 60, 61, 62, 63, 64, 65, 66, 67, 68, 69, 70, 71, 72, 73, 74, 75, 76, 77, 78, 79, 80, 81, 82, 83, 84, 85, 86, 87, 88, 89, 90, 91, 92, 93, 94, 95] ?_
  refine sq ?_
  refine sq ?_
  refine rg 2000 ?_
  refine pr [2, 3, 4, 6, 7, 13, 14, 15, 16, 17, 18, 19, 20, 21, 22, 23, 24, 25, 26, 27, 28, 29, 30, 31, 32, 33, 34, 35, 36, 37, 38, 39, 40, 41, 42, 43, 44, 45, 46, 47, 48, 49, 50, 51, 52, 53, 54, 55, 56, 57, 58, 59, 60, 61, 62, 63, 64, 65, 66, 67, 68, 69, 70, 71, 72, 73, 74, 75, 76, 77, 78, 79, 80, 81, 82, 83, 84, 85, 86, 87, 88, 89, 90, 91, 92, 93, 94, 95] ?_
  refine ce ?_
  refine k_skip ?_
  refine sq ?_
  refine rg 4000 ?_
  refine pr [2, 3, 4, 6, 7, 16, 17, 18, 19, 20, 21, 22, 23, 24, 25, 26, 27, 28, 29, 30, 31, 32, 33, 34, 35, 36, 37, 38, 39, 40, 41, 42, 43, 44, 45, 46, 47, 48, 49, 50, 51, 52, 53, 54, 55, 56, 57, 58, 59, 60, 61, 62, 63, 64, 65, 66, 67, 68, 69, 70, 71, 72, 73, 74, 75, 76, 77, 78, 79, 80, 81, 82, 83, 84, 85, 86, 87, 88, 89, 90, 91, 92, 93, 94, 95] ?_
  refine sq ?_
  refine sq ?_
  refine rg 5000 ?_
  refine pr [2, 3, 4, 6, 7, 17, 18, 19, 20, 21, 22, 23, 24, 25, 26, 27, 28, 29, 30, 31, 32, 33, 34, 35, 36, 37, 38, 39, 40, 41, 42, 43, 44, 45, 46, 47, 48, 49, 50, 51, 52, 53, 54, 55, 56, 57, 58, 59, 60, 61, 62, 63, 64, 65, 66, 67, 68, 69, 70, 71, 72, 73, 74, 75, 76, 77, 78, 79, 80, 81, 82, 83, 84, 85, 86, 87, 88, 89, 90, 91, 92, 93, 94, 95] ?_
  refine k_block ?_
  refine sq ?_
  refine rg 6000 ?_
  refine pr [2, 3, 4, 6, 7, 17, 18, 20, 21, 22, 23, 24, 25, 26, 27, 28, 29, 30, 31, 32, 33, 34, 35, 36, 37, 38, 39, 40, 41, 42, 43, 44, 45, 46, 47, 48, 49, 50, 51, 52, 53, 54, 55, 56, 57, 58, 59, 60, 61, 62, 63, 64, 65, 66, 67, 68, 69, 70, 71, 72, 73, 74, 75, 76, 77, 78, 79, 80, 81, 82, 83, 84, 85, 86, 87, 88, 89, 90, 91, 92, 93, 94, 95] ?_
  refine ce ?_
  refine sq ?_
  refine rg 8000 ?_
  refine pr [2, 3, 4, 6, 7, 17, 23, 25, 26, 27, 28, 29, 30, 31, 32, 33, 34, 35, 36, 37, 38, 39, 40, 41, 42, 43, 44, 45, 46, 47, 48, 49, 50, 51, 52, 53, 54, 55, 56, 57, 58, 59, 60, 61, 62, 63, 64, 65, 66, 67, 68, 69, 70, 71, 72, 73, 74, 75, 76, 77, 78, 79, 80, 81, 82, 83, 84, 85, 86, 87, 88, 89, 90, 91, 92, 93, 94, 95] ?_
  refine ce ?_
  refine sq ?_
  refine rg 10000 ?_
  refine pr [2, 3, 4, 6, 7, 17, 31, 33, 34, 35, 36, 37, 38, 39, 40, 41, 42, 43, 44, 45, 46, 47, 48, 49, 50, 51, 52, 53, 54, 55, 56, 57, 58, 59, 60, 61, 62, 63, 64, 65, 66, 67, 68, 69, 70, 71, 72, 73, 74, 75, 76, 77, 78, 79, 80, 81, 82, 83, 84, 85, 86, 87, 88, 89, 90, 91, 92, 93, 94, 95] ?_
  refine ce ?_
  refine sq ?_
  refine rg 12000 ?_
  refine pr [2, 3, 4, 6, 7, 17, 41, 43, 44, 45, 46, 47, 48, 49, 50, 51, 52, 53, 54, 55, 56, 57, 58, 59, 60, 61, 62, 63, 64, 65, 66, 67, 68, 69, 70, 71, 72, 73, 74, 75, 76, 77, 78, 79, 80, 81, 82, 83, 84, 85, 86, 87, 88, 89, 90, 91, 92, 93, 94, 95] ?_
  refine ct ?_
  refine sq ?_
  refine rc 13000 ?_
  first | refine gp 13050 ?_ | refine os ?_ | refine gt 13050 ?_
  refine oc (fun k => if k = 1 then 1000 else if k = 2 then 1001 else k) (spec162 row hrow 10 col c kids bo bc bv bk FB hb hk1 hkb w) ?_
  first | refine gp 13250 ?_ | refine os ?_ | refine gt 13250 ?_
  refine oe 13300 ?_
  refine oc id (spec106 ((numF FB w).1 != 0)) ?_
  refine oe 13400 ?_
  refine on ?_
  refine pr [2, 3, 6, 7, 88, 89, 90, 91, 92, 93, 94, 95] ?_
  refine k_ret ?_
  show retQ _ _ _ _ _ _ _
  simp [*]

attribute [local simp] E.av E.row_eq Val.av Val.num fitF bitV sumR in
theorem spec107_or1 (row : List Val) (hrow : row.length ≤ Flat.lim) (col : Int) (c : Val) (kids : List E) (FB : Int → Val × Int) (FE : Int → Val × Int) (n w : Int) (hw : (w != 0) = false)(hn0 : (n != 0) = true) : Flat.Sp Try.prog 107 [.ptr 0 0, (E.mk 10 col c kids).av, vv (.int .i64 n)] [(.var 0, .n 2), (.cell 0 0, .av (vv (.int .i64 w))), (.cell 0 1, .av (.p (.ps (row.map Val.row))))] ((sumR 10 n FB FE w).1.av) [(.var 0, .n 2), (.cell 0 0, .av (vv (.int .i64 (sumR 10 n FB FE w).2))), (.cell 0 1, .av (.p (.ps (row.map Val.row))))] := by
  refine sk Try.func107 ?_
  intro F G hn hG
  refine sq ?_
  refine rg 1000 ?_
  refine pr [2, 3, 4, 6, 7, 8, 9, 10, 11, 12, 13, 14, 15, 16, 17, 18, 19, 20, 21, 22, 23, 24, 25, 26, 27, 28, 29, 30, 31, 32, 33, 34, 35, 36, 37, 38, 39, 40, 41, 42, 43, 44, 45, 46, 47, 48, 49, 50, 51, 52, 53, 54, 55, 56, 57, 58, 59, 60, 61, 62, 63, 64, 65, 66, 67, 68, 69, 70, 71, 72, 73, 74, 75, 76, 77, 78, 79, 80, 81, 82, 83, 84, 85, 86, 87, 88, 89, 90, 91, 92, 93, 94, 95] ?_
  refine sq ?_
  refine sq ?_
  refine rg 2000 ?_
  refine pr [2, 3, 4, 6, 7, 13, 14, 15, 16, 17, 18, 19, 20, 21, 22, 23, 24, 25, 26, 27, 28, 29, 30, 31, 32, 33, 34, 35, 36, 37, 38, 39, 40, 41, 42, 43, 44, 45, 46, 47, 48, 49, 50, 51, 52, 53, 54, 55, 56, 57, 58, 59, 60, 61, 62, 63, 64, 65, 66, 67, 68, 69, 70, 71, 72, 73, 74, 75, 76, 77, 78, 79, 80, 81, 82, 83, 84, 85, 86, 87, 88, 89, 90, 91, 92, 93, 94, 95] ?_
  refine ce ?_
  refine k_skip ?_
  refine sq ?_
  refine rg 4000 ?_
  refine pr [2, 3, 4, 6, 7, 16, 17, 18, 19, 20, 21, 22, 23, 24, 25, 26, 27, 28, 29, 30, 31, 32, 33, 34, 35, 36, 37, 38, 39, 40, 41, 42, 43, 44, 45, 46, 47, 48, 49, 50, 51, 52, 53, 54, 55, 56, 57, 58, 59, 60, 61, 62, 63, 64, 65, 66, 67, 68, 69, 70, 71, 72, 73, 74, 75, 76, 77, 78, 79, 80, 81, 82, 83, 84, 85, 86, 87, 88, 89, 90, 91, 92, 93, 94, 95] ?_
  refine sq ?_
  refine sq ?_
  refine rg 5000 ?_
  refine pr [2, 3, 4, 6, 7, 17, 18, 19, 20, 21, 22, 23, 24, 25, 26, 27, 28, 29, 30, 31, 32, 33, 34, 35, 36, 37, 38, 39, 40, 41, 42, 43, 44, 45, 46, 47, 48, 49, 50, 51, 52, 53, 54, 55, 56, 57, 58, 59, 60, 61, 62, 63, 64, 65, 66, 67, 68, 69, 70, 71, 72, 73, 74, 75, 76, 77, 78, 79, 80, 81, 82, 83, 84, 85, 86, 87, 88, 89, 90, 91, 92, 93, 94, 95] ?_
  refine k_block ?_
  refine sq ?_
  refine rg 6000 ?_
  refine pr [2, 3, 4, 6, 7, 17, 18, 20, 21, 22, 23, 24, 25, 26, 27, 28, 29, 30, 31, 32, 33, 34, 35, 36, 37, 38, 39, 40, 41, 42, 43, 44, 45, 46, 47, 48, 49, 50, 51, 52, 53, 54, 55, 56, 57, 58, 59, 60, 61, 62, 63, 64, 65, 66, 67, 68, 69, 70, 71, 72, 73, 74, 75, 76, 77, 78, 79, 80, 81, 82, 83, 84, 85, 86, 87, 88, 89, 90, 91, 92, 93, 94, 95] ?_
  refine ce ?_
  refine sq ?_
  refine rg 8000 ?_
  refine pr [2, 3, 4, 6, 7, 17, 23, 25, 26, 27, 28, 29, 30, 31, 32, 33, 34, 35, 36, 37, 38, 39, 40, 41, 42, 43, 44, 45, 46, 47, 48, 49, 50, 51, 52, 53, 54, 55, 56, 57, 58, 59, 60, 61, 62, 63, 64, 65, 66, 67, 68, 69, 70, 71, 72, 73, 74, 75, 76, 77, 78, 79, 80, 81, 82, 83, 84, 85, 86, 87, 88, 89, 90, 91, 92, 93, 94, 95] ?_
  refine ce ?_
  refine sq ?_
  refine rg 10000 ?_
  refine pr [2, 3, 4, 6, 7, 17, 31, 33, 34, 35, 36, 37, 38, 39, 40, 41, 42, 43, 44, 45, 46, 47, 48, 49, 50, 51, 52, 53, 54, 55, 56, 57, 58, 59, 60, 61, 62, 63, 64, 65, 66, 67, 68, 69, 70, 71, 72, 73, 74, 75, 76, 77, 78, 79, 80, 81, 82, 83, 84, 85, 86, 87, 88, 89, 90, 91, 92, 93, 94, 95] ?_
  refine ce ?_
  refine sq ?_
  refine rg 12000 ?_
  refine pr [2, 3, 4, 6, 7, 17, 41, 43, 44, 45, 46, 47, 48, 49, 50, 51, 52, 53, 54, 55, 56, 57, 58, 59, 60, 61, 62, 63, 64, 65, 66, 67, 68, 69, 70, 71, 72, 73, 74, 75, 76, 77, 78, 79, 80, 81, 82, 83, 84, 85, 86, 87, 88, 89, 90, 91, 92, 93, 94, 95] ?_
  refine ct ?_
  refine sq ?_
  refine rc 13000 ?_
  first | refine gp 13050 ?_ | refine os ?_ | refine gt 13050 ?_
  refine os ?_
  first | refine gp 13250 ?_ | refine os ?_ | refine gt 13250 ?_
  refine oe 13300 ?_
  refine oc id (spec106 true) ?_
  refine oe 13400 ?_
  refine on ?_
  refine pr [2, 3, 6, 7, 88, 89, 90, 91, 92, 93, 94, 95] ?_
  refine k_ret ?_
  show retQ _ _ _ _ _ _ _
  simp [*]

attribute [local simp] E.av E.row_eq Val.av Val.num fitF bitV sumR in
theorem spec107_if1 (row : List Val) (hrow : row.length ≤ Flat.lim) (col : Int) (c : Val) (kids : List E) (bo bc : Int) (bv : Val) (bk : List E) (FB : Int → Val × Int) (hb : ∀ w : Int, Flat.Sp Try.prog 55 [.ptr 0 0, (E.mk bo bc bv bk).av] [(.var 0, .n 2), (.cell 0 0, .av (vv (.int .i64 w))), (.cell 0 1, .av (.p (.ps (row.map Val.row))))] (FB w).1.av [(.var 0, .n 2), (.cell 0 0, .av (vv (.int .i64 (FB w).2))), (.cell 0 1, .av (.p (.ps (row.map Val.row))))]) (hk1 : 1 < kids.length) (hkb : kids[1] = E.mk bo bc bv bk) (FE : Int → Val × Int) (n w : Int) (hw : (w != 0) = false)(hn0 : (n != 0) = true) : Flat.Sp Try.prog 107 [.ptr 0 0, (E.mk 12 col c kids).av, vv (.int .i64 n)] [(.var 0, .n 2), (.cell 0 0, .av (vv (.int .i64 w))), (.cell 0 1, .av (.p (.ps (row.map Val.row))))] ((sumR 12 n FB FE w).1.av) [(.var 0, .n 2), (.cell 0 0, .av (vv (.int .i64 (sumR 12 n FB FE w).2))), (.cell 0 1, .av (.p (.ps (row.map Val.row))))] := by
  refine sk Try.func107 ?_
  intro F G hn hG
  have hk2 : (1 : Int) < (kids.length : Int) := by omega
  refine sq ?_
  refine rg 1000 ?_
  refine pr [2, 3, 4, 6, 7, 8, 9, 10, 11, 12, 13, 14, 15, 16, 17, 18, 19, 20, 21, 22, 23, 24, 25, 26, 27, 28, 29, 30, 31, 32, 33, 34, 35, 36, 37, 38, 39, 40, 41, 42, 43, 44, 45, 46, 47, 48, 49, 50, 51, 52, 53, 54, 55, 56, 57, 58, 59, 60, 61, 62, 63, 64, 65, 66, 67, 68, 69, 70, 71, 72, 73, 74, 75, 76, 77, 78, 79, 80, 81, 82, 83, 84, 85, 86, 87, 88, 89, 90, 91, 92, 93, 94, 95] ?_
  refine sq ?_
  refine sq ?_
  refine rg 2000 ?_
  refine pr [2, 3, 4, 6, 7, 13, 14, 15, 16, 17, 18, 19, 20, 21, 22, 23, 24, 25, 26, 27, 28, 29, 30, 31, 32, 33, 34, 35, 36, 37, 38, 39, 40, 41, 42, 43, 44, 45, 46, 47, 48, 49, 50, 51, 52, 53, 54, 55, 56, 57, 58, 59, 60, 61, 62, 63, 64, 65, 66, 67, 68, 69, 70, 71, 72, 73, 74, 75, 76, 77, 78, 79, 80, 81, 82, 83, 84, 85, 86, 87, 88, 89, 90, 91, 92, 93, 94, 95] ?_
  refine ce ?_
  refine k_skip ?_
  refine sq ?_
  refine rg 4000 ?_
  refine pr [2, 3, 4, 6, 7, 16, 17, 18, 19, 20, 21, 22, 23, 24, 25, 26, 27, 28, 29, 30, 31, 32, 33, 34, 35, 36, 37, 38, 39, 40, 41, 42, 43, 44, 45, 46, 47, 48, 49, 50, 51, 52, 53, 54, 55, 56, 57, 58, 59, 60, 61, 62, 63, 64, 65, 66, 67, 68, 69, 70, 71, 72, 73, 74, 75, 76, 77, 78, 79, 80, 81, 82, 83, 84, 85, 86, 87, 88, 89, 90, 91, 92, 93, 94, 95] ?_
  refine sq ?_
  refine sq ?_
  refine rg 5000 ?_
  refine pr [2, 3, 4, 6, 7, 17, 18, 19, 20, 21, 22, 23, 24, 25, 26, 27, 28, 29, 30, 31, 32, 33, 34, 35, 36, 37, 38, 39, 40, 41, 42, 43, 44, 45, 46, 47, 48, 49, 50, 51, 52, 53, 54, 55, 56, 57, 58, 59, 60, 61, 62, 63, 64, 65, 66, 67, 68, 69, 70, 71, 72, 73, 74, 75, 76, 77, 78, 79, 80, 81, 82, 83, 84, 85, 86, 87, 88, 89, 90, 91, 92, 93, 94, 95] ?_
  refine k_block ?_
  refine sq ?_
  refine rg 6000 ?_
  refine pr [2, 3, 4, 6, 7, 17, 18, 20, 21, 22, 23, 24, 25, 26, 27, 28, 29, 30, 31, 32, 33, 34, 35, 36, 37, 38, 39, 40, 41, 42, 43, 44, 45, 46, 47, 48, 49, 50, 51, 52, 53, 54, 55, 56, 57, 58, 59, 60, 61, 62, 63, 64, 65, 66, 67, 68, 69, 70, 71, 72, 73, 74, 75, 76, 77, 78, 79, 80, 81, 82, 83, 84, 85, 86, 87, 88, 89, 90, 91, 92, 93, 94, 95] ?_
  refine ce ?_
  refine sq ?_
  refine rg 8000 ?_
  refine pr [2, 3, 4, 6, 7, 17, 23, 25, 26, 27, 28, 29, 30, 31, 32, 33, 34, 35, 36, 37, 38, 39, 40, 41, 42, 43, 44, 45, 46, 47, 48, 49, 50, 51, 52, 53, 54, 55, 56, 57, 58, 59, 60, 61, 62, 63, 64, 65, 66, 67, 68, 69, 70, 71, 72, 73, 74, 75, 76, 77, 78, 79, 80, 81, 82, 83, 84, 85, 86, 87, 88, 89, 90, 91, 92, 93, 94, 95] ?_
  refine ce ?_
  refine sq ?_
  refine rg 10000 ?_
  refine pr [2, 3, 4, 6, 7, 17, 31, 33, 34, 35, 36, 37, 38, 39, 40, 41, 42, 43, 44, 45, 46, 47, 48, 49, 50, 51, 52, 53, 54, 55, 56, 57, 58, 59, 60, 61, 62, 63, 64, 65, 66, 67, 68, 69, 70, 71, 72, 73, 74, 75, 76, 77, 78, 79, 80, 81, 82, 83, 84, 85, 86, 87, 88, 89, 90, 91, 92, 93, 94, 95] ?_
  refine ce ?_
  refine sq ?_
  refine rg 12000 ?_
  refine pr [2, 3, 4, 6, 7, 17, 41, 43, 44, 45, 46, 47, 48, 49, 50, 51, 52, 53, 54, 55, 56, 57, 58, 59, 60, 61, 62, 63, 64, 65, 66, 67, 68, 69, 70, 71, 72, 73, 74, 75, 76, 77, 78, 79, 80, 81, 82, 83, 84, 85, 86, 87, 88, 89, 90, 91, 92, 93, 94, 95] ?_
  refine ce ?_
  refine sq ?_
  refine rg 14000 ?_
  refine pr [2, 3, 4, 6, 7, 17, 51, 53, 54, 55, 56, 57, 58, 59, 60, 61, 62, 63, 64, 65, 66, 67, 68, 69, 70, 71, 72, 73, 74, 75, 76, 77, 78, 79, 80, 81, 82, 83, 84, 85, 86, 87, 88, 89, 90, 91, 92, 93, 94, 95] ?_
  refine ct ?_
  refine sq ?_
  refine sq ?_
  refine rg 15000 ?_
  refine pr [2, 3, 4, 6, 7, 54, 55, 56, 57, 58, 59, 60, 61, 62, 63, 64, 65, 66, 88, 89, 90, 91, 92, 93, 94, 95] ?_
  refine ct ?_
  refine sq ?_
  refine dr ?_
  refine de 16000 ?_
  refine dc id (hb w) ?_
  refine de 16100 ?_
  refine dn ?_
  refine pr [2, 3, 4, 6, 7, 61, 62, 63, 64, 65, 66, 88, 89, 90, 91, 92, 93, 94, 95] ?_
  refine k_ret ?_
  show retQ _ _ _ _ _ _ _
  simp [*]

attribute [local simp] E.av E.row_eq Val.av Val.num fitF bitV sumR in
theorem spec107_if0 (row : List Val) (hrow : row.length ≤ Flat.lim) (col : Int) (c : Val) (kids : List E) (eo ec : Int) (ev : Val) (ek : List E) (FE : Int → Val × Int) (he : ∀ w : Int, Flat.Sp Try.prog 55 [.ptr 0 0, (E.mk eo ec ev ek).av] [(.var 0, .n 2), (.cell 0 0, .av (vv (.int .i64 w))), (.cell 0 1, .av (.p (.ps (row.map Val.row))))] (FE w).1.av [(.var 0, .n 2), (.cell 0 0, .av (vv (.int .i64 (FE w).2))), (.cell 0 1, .av (.p (.ps (row.map Val.row))))]) (hk3 : 2 < kids.length) (hke : kids[2] = E.mk eo ec ev ek) (FB : Int → Val × Int) (n w : Int) (hw : (w != 0) = false)(hn0 : (n != 0) = false) : Flat.Sp Try.prog 107 [.ptr 0 0, (E.mk 12 col c kids).av, vv (.int .i64 n)] [(.var 0, .n 2), (.cell 0 0, .av (vv (.int .i64 w))), (.cell 0 1, .av (.p (.ps (row.map Val.row))))] ((sumR 12 n FB FE w).1.av) [(.var 0, .n 2), (.cell 0 0, .av (vv (.int .i64 (sumR 12 n FB FE w).2))), (.cell 0 1, .av (.p (.ps (row.map Val.row))))] := by
  refine sk Try.func107 ?_
  intro F G hn hG
  have hk4 : (2 : Int) < (kids.length : Int) := by omega
  refine sq ?_
  refine rg 1000 ?_
  refine pr [2, 3, 4, 6, 7, 8, 9, 10, 11, 12, 13, 14, 15, 16, 17, 18, 19, 20, 21, 22, 23, 24, 25, 26, 27, 28, 29, 30, 31, 32, 33, 34, 35, 36, 37, 38, 39, 40, 41, 42, 43, 44, 45, 46, 47, 48, 49, 50, 51, 52, 53, 54, 55, 56, 57, 58, 59, 60, 61, 62, 63, 64, 65, 66, 67, 68, 69, 70, 71, 72, 73, 74, 75, 76, 77, 78, 79, 80, 81, 82, 83, 84, 85, 86, 87, 88, 89, 90, 91, 92, 93, 94, 95] ?_
  refine sq ?_
  refine sq ?_
  refine rg 2000 ?_
  refine pr [2, 3, 4, 6, 7, 13, 14, 15, 16, 17, 18, 19, 20, 21, 22, 23, 24, 25, 26, 27, 28, 29, 30, 31, 32, 33, 34, 35, 36, 37, 38, 39, 40, 41, 42, 43, 44, 45, 46, 47, 48, 49, 50, 51, 52, 53, 54, 55, 56, 57, 58, 59, 60, 61, 62, 63, 64, 65, 66, 67, 68, 69, 70, 71, 72, 73, 74, 75, 76, 77, 78, 79, 80, 81, 82, 83, 84, 85, 86, 87, 88, 89, 90, 91, 92, 93, 94, 95] ?_
  refine ce ?_
  refine k_skip ?_
  refine sq ?_
  refine rg 4000 ?_
  refine pr [2, 3, 4, 6, 7, 16, 17, 18, 19, 20, 21, 22, 23, 24, 25, 26, 27, 28, 29, 30, 31, 32, 33, 34, 35, 36, 37, 38, 39, 40, 41, 42, 43, 44, 45, 46, 47, 48, 49, 50, 51, 52, 53, 54, 55, 56, 57, 58, 59, 60, 61, 62, 63, 64, 65, 66, 67, 68, 69, 70, 71, 72, 73, 74, 75, 76, 77, 78, 79, 80, 81, 82, 83, 84, 85, 86, 87, 88, 89, 90, 91, 92, 93, 94, 95] ?_
  refine sq ?_
  refine sq ?_
  refine rg 5000 ?_
  refine pr [2, 3, 4, 6, 7, 17, 18, 19, 20, 21, 22, 23, 24, 25, 26, 27, 28, 29, 30, 31, 32, 33, 34, 35, 36, 37, 38, 39, 40, 41, 42, 43, 44, 45, 46, 47, 48, 49, 50, 51, 52, 53, 54, 55, 56, 57, 58, 59, 60, 61, 62, 63, 64, 65, 66, 67, 68, 69, 70, 71, 72, 73, 74, 75, 76, 77, 78, 79, 80, 81, 82, 83, 84, 85, 86, 87, 88, 89, 90, 91, 92, 93, 94, 95] ?_
  refine k_block ?_
  refine sq ?_
  refine rg 6000 ?_
  refine pr [2, 3, 4, 6, 7, 17, 18, 20, 21, 22, 23, 24, 25, 26, 27, 28, 29, 30, 31, 32, 33, 34, 35, 36, 37, 38, 39, 40, 41, 42, 43, 44, 45, 46, 47, 48, 49, 50, 51, 52, 53, 54, 55, 56, 57, 58, 59, 60, 61, 62, 63, 64, 65, 66, 67, 68, 69, 70, 71, 72, 73, 74, 75, 76, 77, 78, 79, 80, 81, 82, 83, 84, 85, 86, 87, 88, 89, 90, 91, 92, 93, 94, 95] ?_
  refine ce ?_
  refine sq ?_
  refine rg 8000 ?_
  refine pr [2, 3, 4, 6, 7, 17, 23, 25, 26, 27, 28, 29, 30, 31, 32, 33, 34, 35, 36, 37, 38, 39, 40, 41, 42, 43, 44, 45, 46, 47, 48, 49, 50, 51, 52, 53, 54, 55, 56, 57, 58, 59, 60, 61, 62, 63, 64, 65, 66, 67, 68, 69, 70, 71, 72, 73, 74, 75, 76, 77, 78, 79, 80, 81, 82, 83, 84, 85, 86, 87, 88, 89, 90, 91, 92, 93, 94, 95] ?_
  refine ce ?_
  refine sq ?_
  refine rg 10000 ?_
  refine pr [2, 3, 4, 6, 7, 17, 31, 33, 34, 35, 36, 37, 38, 39, 40, 41, 42, 43, 44, 45, 46, 47, 48, 49, 50, 51, 52, 53, 54, 55, 56, 57, 58, 59, 60, 61, 62, 63, 64, 65, 66, 67, 68, 69, 70, 71, 72, 73, 74, 75, 76, 77, 78, 79, 80, 81, 82, 83, 84, 85, 86, 87, 88, 89, 90, 91, 92, 93, 94, 95] ?_
  refine ce ?_
  refine sq ?_
  refine rg 12000 ?_
  refine pr [2, 3, 4, 6, 7, 17, 41, 43, 44, 45, 46, 47, 48, 49, 50, 51, 52, 53, 54, 55, 56, 57, 58, 59, 60, 61, 62, 63, 64, 65, 66, 67, 68, 69, 70, 71, 72, 73, 74, 75, 76, 77, 78, 79, 80, 81, 82, 83, 84, 85, 86, 87, 88, 89, 90, 91, 92, 93, 94, 95] ?_
  refine ce ?_
  refine sq ?_
  refine rg 14000 ?_
  refine pr [2, 3, 4, 6, 7, 17, 51, 53, 54, 55, 56, 57, 58, 59, 60, 61, 62, 63, 64, 65, 66, 67, 68, 69, 70, 71, 72, 73, 74, 75, 76, 77, 78, 79, 80, 81, 82, 83, 84, 85, 86, 87, 88, 89, 90, 91, 92, 93, 94, 95] ?_
  refine ct ?_
  refine sq ?_
  refine sq ?_
  refine rg 15000 ?_
  refine pr [2, 3, 4, 6, 7, 54, 55, 56, 57, 58, 59, 60, 61, 62, 63, 64, 65, 66, 88, 89, 90, 91, 92, 93, 94, 95] ?_
  refine ce ?_
  refine k_skip ?_
  refine sq ?_
  refine dr ?_
  refine de 17000 ?_
  refine dc id (he w) ?_
  refine de 17100 ?_
  refine dn ?_
  refine pr [2, 3, 6, 7, 88, 89, 90, 91, 92, 93, 94, 95] ?_
  refine k_ret ?_
  show retQ _ _ _ _ _ _ _
  simp [*]

attribute [local simp] E.av E.row_eq Val.av Val.num fitF bitV sumR in
theorem spec107_add (row : List Val) (hrow : row.length ≤ Flat.lim) (col : Int) (c : Val) (kids : List E) (bo bc : Int) (bv : Val) (bk : List E) (FB : Int → Val × Int) (hb : ∀ w : Int, Flat.Sp Try.prog 55 [.ptr 0 0, (E.mk bo bc bv bk).av] [(.var 0, .n 2), (.cell 0 0, .av (vv (.int .i64 w))), (.cell 0 1, .av (.p (.ps (row.map Val.row))))] (FB w).1.av [(.var 0, .n 2), (.cell 0 0, .av (vv (.int .i64 (FB w).2))), (.cell 0 1, .av (.p (.ps (row.map Val.row))))]) (hk1 : 1 < kids.length) (hkb : kids[1] = E.mk bo bc bv bk) (FE : Int → Val × Int) (n w : Int) (hw : (w != 0) = false) : Flat.Sp Try.prog 107 [.ptr 0 0, (E.mk 3 col c kids).av, vv (.int .i64 n)] [(.var 0, .n 2), (.cell 0 0, .av (vv (.int .i64 w))), (.cell 0 1, .av (.p (.ps (row.map Val.row))))] ((sumR 3 n FB FE w).1.av) [(.var 0, .n 2), (.cell 0 0, .av (vv (.int .i64 (sumR 3 n FB FE w).2))), (.cell 0 1, .av (.p (.ps (row.map Val.row))))] := by
  refine sk Try.func107 ?_
  intro F G hn hG
  have hk2 : (1 : Int) < (kids.length : Int) := by omega
  refine sq ?_
  refine rg 1000 ?_
  refine pr [2, 3, 4, 6, 7, 8, 9, 10, 11, 12, 13, 14, 15, 16, 17, 18, 19, 20, 21, 22, 23, 24, 25, 26, 27, 28, 29, 30, 31, 32, 33, 34, 35, 36, 37, 38, 39, 40, 41, 42, 43, 44, 45, 46, 47, 48, 49, 50, 51, 52, 53, 54, 55, 56, 57, 58, 59, 60, 61, 62, 63, 64, 65, 66, 67, 68, 69, 70, 71, 72, 73, 74, 75, 76, 77, 78, 79, 80, 81, 82, 83, 84, 85, 86, 87, 88, 89, 90, 91, 92, 93, 94, 95] ?_
  refine sq ?_
  refine sq ?_
  refine rg 2000 ?_
  refine pr [2, 3, 4, 6, 7, 13, 14, 15, 16, 17, 18, 19, 20, 21, 22, 23, 24, 25, 26, 27, 28, 29, 30, 31, 32, 33, 34, 35, 36, 37, 38, 39, 40, 41, 42, 43, 44, 45, 46, 47, 48, 49, 50, 51, 52, 53, 54, 55, 56, 57, 58, 59, 60, 61, 62, 63, 64, 65, 66, 67, 68, 69, 70, 71, 72, 73, 74, 75, 76, 77, 78, 79, 80, 81, 82, 83, 84, 85, 86, 87, 88, 89, 90, 91, 92, 93, 94, 95] ?_
  refine ce ?_
  refine k_skip ?_
  refine sq ?_
  refine rg 4000 ?_
  refine pr [2, 3, 4, 6, 7, 16, 17, 18, 19, 20, 21, 22, 23, 24, 25, 26, 27, 28, 29, 30, 31, 32, 33, 34, 35, 36, 37, 38, 39, 40, 41, 42, 43, 44, 45, 46, 47, 48, 49, 50, 51, 52, 53, 54, 55, 56, 57, 58, 59, 60, 61, 62, 63, 64, 65, 66, 67, 68, 69, 70, 71, 72, 73, 74, 75, 76, 77, 78, 79, 80, 81, 82, 83, 84, 85, 86, 87, 88, 89, 90, 91, 92, 93, 94, 95] ?_
  refine sq ?_
  refine sq ?_
  refine rg 5000 ?_
  refine pr [2, 3, 4, 6, 7, 17, 18, 19, 20, 21, 22, 23, 24, 25, 26, 27, 28, 29, 30, 31, 32, 33, 34, 35, 36, 37, 38, 39, 40, 41, 42, 43, 44, 45, 46, 47, 48, 49, 50, 51, 52, 53, 54, 55, 56, 57, 58, 59, 60, 61, 62, 63, 64, 65, 66, 67, 68, 69, 70, 71, 72, 73, 74, 75, 76, 77, 78, 79, 80, 81, 82, 83, 84, 85, 86, 87, 88, 89, 90, 91, 92, 93, 94, 95] ?_
  refine k_block ?_
  refine sq ?_
  refine rg 6000 ?_
  refine pr [2, 3, 4, 6, 7, 17, 18, 20, 21, 22, 23, 24, 25, 26, 27, 28, 29, 30, 31, 32, 33, 34, 35, 36, 37, 38, 39, 40, 41, 42, 43, 44, 45, 46, 47, 48, 49, 50, 51, 52, 53, 54, 55, 56, 57, 58, 59, 60, 61, 62, 63, 64, 65, 66, 67, 68, 69, 70, 71, 72, 73, 74, 75, 76, 77, 78, 79, 80, 81, 82, 83, 84, 85, 86, 87, 88, 89, 90, 91, 92, 93, 94, 95] ?_
  refine ce ?_
  refine sq ?_
  refine rg 8000 ?_
  refine pr [2, 3, 4, 6, 7, 17, 23, 25, 26, 27, 28, 29, 30, 31, 32, 33, 34, 35, 36, 37, 38, 39, 40, 41, 42, 43, 44, 45, 46, 47, 48, 49, 50, 51, 52, 53, 54, 55, 56, 57, 58, 59, 60, 61, 62, 63, 64, 65, 66, 67, 68, 69, 70, 71, 72, 73, 74, 75, 76, 77, 78, 79, 80, 81, 82, 83, 84, 85, 86, 87, 88, 89, 90, 91, 92, 93, 94, 95] ?_
  refine ce ?_
  refine sq ?_
  refine rg 10000 ?_
  refine pr [2, 3, 4, 6, 7, 17, 31, 33, 34, 35, 36, 37, 38, 39, 40, 41, 42, 43, 44, 45, 46, 47, 48, 49, 50, 51, 52, 53, 54, 55, 56, 57, 58, 59, 60, 61, 62, 63, 64, 65, 66, 67, 68, 69, 70, 71, 72, 73, 74, 75, 76, 77, 78, 79, 80, 81, 82, 83, 84, 85, 86, 87, 88, 89, 90, 91, 92, 93, 94, 95] ?_
  refine ce ?_
  refine sq ?_
  refine rg 12000 ?_
  refine pr [2, 3, 4, 6, 7, 17, 41, 43, 44, 45, 46, 47, 48, 49, 50, 51, 52, 53, 54, 55, 56, 57, 58, 59, 60, 61, 62, 63, 64, 65, 66, 67, 68, 69, 70, 71, 72, 73, 74, 75, 76, 77, 78, 79, 80, 81, 82, 83, 84, 85, 86, 87, 88, 89, 90, 91, 92, 93, 94, 95] ?_
  refine ce ?_
  refine sq ?_
  refine rg 14000 ?_
  refine pr [2, 3, 4, 6, 7, 17, 51, 53, 54, 55, 56, 57, 58, 59, 60, 61, 62, 63, 64, 65, 66, 67, 68, 69, 70, 71, 72, 73, 74, 75, 76, 77, 78, 79, 80, 81, 82, 83, 84, 85, 86, 87, 88, 89, 90, 91, 92, 93, 94, 95] ?_
  refine ce ?_
  refine sq ?_
  refine rg 18000 ?_
  refine pr [2, 3, 6, 7, 17, 67, 69, 70, 71, 72, 73, 74, 75, 76, 77, 78, 79, 80, 81, 82, 83, 84, 85, 86, 87, 88, 89, 90, 91, 92, 93, 94, 95] ?_
  refine ct ?_
  refine sq ?_
  refine dr ?_
  refine de 19000 ?_
  refine dk [1000, 1001] (fun k => if k = 1 then 1000 else if k = 2 then 1001 else k) (spec162 row hrow 3 col c kids bo bc bv bk FB hb hk1 hkb w) ?_
  refine de 19100 ?_
  refine dc id (spec165 [n, (numF FB w).1] (by simp [Flat.lim])) ?_ (hg := by simp [*, irow]) (hf := by simp [*, irow]; exact is_rfl _) (hx := by simp [*, irow]; exact is_rfl _) (hargs := by simp [*, irow]) (hB := by simp [*, irow]) (hL := by simp [*, irow]) (hd := by simp [*, irow]; exact is_rfl _)
  refine de 19200 ?_
  refine dc id (spec163 (numF FB w).2 (.ps (row.map Val.row)) (tfit (tsum [n, (numF FB w).1])).1 (tfit (tsum [n, (numF FB w).1])).2) ?_
  refine de 19300 ?_
  refine dn ?_
  refine pr [2, 3, 6, 7, 88, 89, 90, 91, 92, 93, 94, 95] ?_
  refine k_ret ?_
  show retQ _ _ _ _ _ _ _
  simp [*]

attribute [local simp] E.av E.row_eq Val.av Val.num fitF bitV sumR in
theorem spec107_sub (row : List Val) (hrow : row.length ≤ Flat.lim) (col : Int) (c : Val) (kids : List E) (bo bc : Int) (bv : Val) (bk : List E) (FB : Int → Val × Int) (hb : ∀ w : Int, Flat.Sp Try.prog 55 [.ptr 0 0, (E.mk bo bc bv bk).av] [(.var 0, .n 2), (.cell 0 0, .av (vv (.int .i64 w))), (.cell 0 1, .av (.p (.ps (row.map Val.row))))] (FB w).1.av [(.var 0, .n 2), (.cell 0 0, .av (vv (.int .i64 (FB w).2))), (.cell 0 1, .av (.p (.ps (row.map Val.row))))]) (hk1 : 1 < kids.length) (hkb : kids[1] = E.mk bo bc bv bk) (FE : Int → Val × Int) (n w : Int) (hw : (w != 0) = false) : Flat.Sp Try.prog 107 [.ptr 0 0, (E.mk 4 col c kids).av, vv (.int .i64 n)] [(.var 0, .n 2), (.cell 0 0, .av (vv (.int .i64 w))), (.cell 0 1, .av (.p (.ps (row.map Val.row))))] ((sumR 4 n FB FE w).1.av) [(.var 0, .n 2), (.cell 0 0, .av (vv (.int .i64 (sumR 4 n FB FE w).2))), (.cell 0 1, .av (.p (.ps (row.map Val.row))))] := by
  refine sk Try.func107 ?_
  intro F G hn hG
  have hk2 : (1 : Int) < (kids.length : Int) := by omega
  refine sq ?_
  refine rg 1000 ?_
  refine pr [2, 3, 4, 6, 7, 8, 9, 10, 11, 12, 13, 14, 15, 16, 17, 18, 19, 20, 21, 22, 23, 24, 25, 26, 27, 28, 29, 30, 31, 32, 33, 34, 35, 36, 37, 38, 39, 40, 41, 42, 43, 44, 45, 46, 47, 48, 49, 50, 51, 52, 53, 54, 55, 56, 57, 58, 59, 60, 61, 62, 63, 64, 65, 66, 67, 68, 69, 70, 71, 72, 73, 74, 75, 76, 77, 78, 79, 80, 81, 82, 83, 84, 85, 86, 87, 88, 89, 90, 91, 92, 93, 94, 95] ?_
  refine sq ?_
  refine sq ?_
  refine rg 2000 ?_
  refine pr [2, 3, 4, 6, 7, 13, 14, 15, 16, 17, 18, 19, 20, 21, 22, 23, 24, 25, 26, 27, 28, 29, 30, 31, 32, 33, 34, 35, 36, 37, 38, 39, 40, 41, 42, 43, 44, 45, 46, 47, 48, 49, 50, 51, 52, 53, 54, 55, 56, 57, 58, 59, 60, 61, 62, 63, 64, 65, 66, 67, 68, 69, 70, 71, 72, 73, 74, 75, 76, 77, 78, 79, 80, 81, 82, 83, 84, 85, 86, 87, 88, 89, 90, 91, 92, 93, 94, 95] ?_
  refine ce ?_
  refine k_skip ?_
  refine sq ?_
  refine rg 4000 ?_
  refine pr [2, 3, 4, 6, 7, 16, 17, 18, 19, 20, 21, 22, 23, 24, 25, 26, 27, 28, 29, 30, 31, 32, 33, 34, 35, 36, 37, 38, 39, 40, 41, 42, 43, 44, 45, 46, 47, 48, 49, 50, 51, 52, 53, 54, 55, 56, 57, 58, 59, 60, 61, 62, 63, 64, 65, 66, 67, 68, 69, 70, 71, 72, 73, 74, 75, 76, 77, 78, 79, 80, 81, 82, 83, 84, 85, 86, 87, 88, 89, 90, 91, 92, 93, 94, 95] ?_
  refine sq ?_
  refine sq ?_
  refine rg 5000 ?_
  refine pr [2, 3, 4, 6, 7, 17, 18, 19, 20, 21, 22, 23, 24, 25, 26, 27, 28, 29, 30, 31, 32, 33, 34, 35, 36, 37, 38, 39, 40, 41, 42, 43, 44, 45, 46, 47, 48, 49, 50, 51, 52, 53, 54, 55, 56, 57, 58, 59, 60, 61, 62, 63, 64, 65, 66, 67, 68, 69, 70, 71, 72, 73, 74, 75, 76, 77, 78, 79, 80, 81, 82, 83, 84, 85, 86, 87, 88, 89, 90, 91, 92, 93, 94, 95] ?_
  refine k_block ?_
  refine sq ?_
  refine rg 6000 ?_
  refine pr [2, 3, 4, 6, 7, 17, 18, 20, 21, 22, 23, 24, 25, 26, 27, 28, 29, 30, 31, 32, 33, 34, 35, 36, 37, 38, 39, 40, 41, 42, 43, 44, 45, 46, 47, 48, 49, 50, 51, 52, 53, 54, 55, 56, 57, 58, 59, 60, 61, 62, 63, 64, 65, 66, 67, 68, 69, 70, 71, 72, 73, 74, 75, 76, 77, 78, 79, 80, 81, 82, 83, 84, 85, 86, 87, 88, 89, 90, 91, 92, 93, 94, 95] ?_
  refine ce ?_
  refine sq ?_
  refine rg 8000 ?_
  refine pr [2, 3, 4, 6, 7, 17, 23, 25, 26, 27, 28, 29, 30, 31, 32, 33, 34, 35, 36, 37, 38, 39, 40, 41, 42, 43, 44, 45, 46, 47, 48, 49, 50, 51, 52, 53, 54, 55, 56, 57, 58, 59, 60, 61, 62, 63, 64, 65, 66, 67, 68, 69, 70, 71, 72, 73, 74, 75, 76, 77, 78, 79, 80, 81, 82, 83, 84, 85, 86, 87, 88, 89, 90, 91, 92, 93, 94, 95] ?_
  refine ce ?_
  refine sq ?_
  refine rg 10000 ?_
  refine pr [2, 3, 4, 6, 7, 17, 31, 33, 34, 35, 36, 37, 38, 39, 40, 41, 42, 43, 44, 45, 46, 47, 48, 49, 50, 51, 52, 53, 54, 55, 56, 57, 58, 59, 60, 61, 62, 63, 64, 65, 66, 67, 68, 69, 70, 71, 72, 73, 74, 75, 76, 77, 78, 79, 80, 81, 82, 83, 84, 85, 86, 87, 88, 89, 90, 91, 92, 93, 94, 95] ?_
  refine ce ?_
  refine sq ?_
  refine rg 12000 ?_
  refine pr [2, 3, 4, 6, 7, 17, 41, 43, 44, 45, 46, 47, 48, 49, 50, 51, 52, 53, 54, 55, 56, 57, 58, 59, 60, 61, 62, 63, 64, 65, 66, 67, 68, 69, 70, 71, 72, 73, 74, 75, 76, 77, 78, 79, 80, 81, 82, 83, 84, 85, 86, 87, 88, 89, 90, 91, 92, 93, 94, 95] ?_
  refine ce ?_
  refine sq ?_
  refine rg 14000 ?_
  refine pr [2, 3, 4, 6, 7, 17, 51, 53, 54, 55, 56, 57, 58, 59, 60, 61, 62, 63, 64, 65, 66, 67, 68, 69, 70, 71, 72, 73, 74, 75, 76, 77, 78, 79, 80, 81, 82, 83, 84, 85, 86, 87, 88, 89, 90, 91, 92, 93, 94, 95] ?_
  refine ce ?_
  refine sq ?_
  refine rg 18000 ?_
  refine pr [2, 3, 6, 7, 17, 67, 69, 70, 71, 72, 73, 74, 75, 76, 77, 78, 79, 80, 81, 82, 83, 84, 85, 86, 87, 88, 89, 90, 91, 92, 93, 94, 95] ?_
  refine ce ?_
  refine sq ?_
  refine rg 20000 ?_
  refine pr [2, 3, 6, 7, 78, 80, 81, 82, 83, 84, 85, 86, 87, 88, 89, 90, 91, 92, 93, 94, 95] ?_
  refine ct ?_
  refine sq ?_
  refine dr ?_
  refine de 21000 ?_
  refine dk [1000, 1001] (fun k => if k = 1 then 1000 else if k = 2 then 1001 else k) (spec162 row hrow 4 col c kids bo bc bv bk FB hb hk1 hkb w) ?_
  refine dc id (spec164 n (numF FB w).1) ?_
  refine de 21200 ?_
  refine dc id (spec163 (numF FB w).2 (.ps (row.map Val.row)) (lessR n (numF FB w).1).1 (lessR n (numF FB w).1).2) ?_
  refine de 21300 ?_
  refine dn ?_
  refine pr [2, 3, 6, 7, 88, 89, 90, 91, 92, 93, 94, 95] ?_
  refine k_ret ?_
  show retQ _ _ _ _ _ _ _
  simp [*]

attribute [local simp] E.av E.row_eq Val.av Val.num fitF bitV sumR in
theorem spec107_mul (row : List Val) (hrow : row.length ≤ Flat.lim) (col : Int) (c : Val) (kids : List E) (bo bc : Int) (bv : Val) (bk : List E) (FB : Int → Val × Int) (hb : ∀ w : Int, Flat.Sp Try.prog 55 [.ptr 0 0, (E.mk bo bc bv bk).av] [(.var 0, .n 2), (.cell 0 0, .av (vv (.int .i64 w))), (.cell 0 1, .av (.p (.ps (row.map Val.row))))] (FB w).1.av [(.var 0, .n 2), (.cell 0 0, .av (vv (.int .i64 (FB w).2))), (.cell 0 1, .av (.p (.ps (row.map Val.row))))]) (hk1 : 1 < kids.length) (hkb : kids[1] = E.mk bo bc bv bk) (FE : Int → Val × Int) (n w : Int) (hw : (w != 0) = false) : Flat.Sp Try.prog 107 [.ptr 0 0, (E.mk 5 col c kids).av, vv (.int .i64 n)] [(.var 0, .n 2), (.cell 0 0, .av (vv (.int .i64 w))), (.cell 0 1, .av (.p (.ps (row.map Val.row))))] ((sumR 5 n FB FE w).1.av) [(.var 0, .n 2), (.cell 0 0, .av (vv (.int .i64 (sumR 5 n FB FE w).2))), (.cell 0 1, .av (.p (.ps (row.map Val.row))))] := by
  refine sk Try.func107 ?_
  intro F G hn hG
  have hk2 : (1 : Int) < (kids.length : Int) := by omega
  refine sq ?_
  refine rg 1000 ?_
  refine pr [2, 3, 4, 6, 7, 8, 9, 10, 11, 12, 13, 14, 15, 16, 17, 18, 19, 20, 21, 22, 23, 24, 25, 26, 27, 28, 29, 30, 31, 32, 33, 34, 35, 36, 37, 38, 39, 40, 41, 42, 43, 44, 45, 46, 47, 48, 49, 50, 51, 52, 53, 54, 55, 56, 57, 58, 59, 60, 61, 62, 63, 64, 65, 66, 67, 68, 69, 70, 71, 72, 73, 74, 75, 76, 77, 78, 79, 80, 81, 82, 83, 84, 85, 86, 87, 88, 89, 90, 91, 92, 93, 94, 95] ?_
  refine sq ?_
  refine sq ?_
  refine rg 2000 ?_
  refine pr [2, 3, 4, 6, 7, 13, 14, 15, 16, 17, 18, 19, 20, 21, 22, 23, 24, 25, 26, 27, 28, 29, 30, 31, 32, 33, 34, 35, 36, 37, 38, 39, 40, 41, 42, 43, 44, 45, 46, 47, 48, 49, 50, 51, 52, 53, 54, 55, 56, 57, 58, 59, 60, 61, 62, 63, 64, 65, 66, 67, 68, 69, 70, 71, 72, 73, 74, 75, 76, 77, 78, 79, 80, 81, 82, 83, 84, 85, 86, 87, 88, 89, 90, 91, 92, 93, 94, 95] ?_
  refine ce ?_
  refine k_skip ?_
  refine sq ?_
  refine rg 4000 ?_
  refine pr [2, 3, 4, 6, 7, 16, 17, 18, 19, 20, 21, 22, 23, 24, 25, 26, 27, 28, 29, 30, 31, 32, 33, 34, 35, 36, 37, 38, 39, 40, 41, 42, 43, 44, 45, 46, 47, 48, 49, 50, 51, 52, 53, 54, 55, 56, 57, 58, 59, 60, 61, 62, 63, 64, 65, 66, 67, 68, 69, 70, 71, 72, 73, 74, 75, 76, 77, 78, 79, 80, 81, 82, 83, 84, 85, 86, 87, 88, 89, 90, 91, 92, 93, 94, 95] ?_
  refine sq ?_
  refine sq ?_
  refine rg 5000 ?_
  refine pr [2, 3, 4, 6, 7, 17, 18, 19, 20, 21, 22, 23, 24, 25, 26, 27, 28, 29, 30, 31, 32, 33, 34, 35, 36, 37, 38, 39, 40, 41, 42, 43, 44, 45, 46, 47, 48, 49, 50, 51, 52, 53, 54, 55, 56, 57, 58, 59, 60, 61, 62, 63, 64, 65, 66, 67, 68, 69, 70, 71, 72, 73, 74, 75, 76, 77, 78, 79, 80, 81, 82, 83, 84, 85, 86, 87, 88, 89, 90, 91, 92, 93, 94, 95] ?_
  refine k_block ?_
  refine sq ?_
  refine rg 6000 ?_
  refine pr [2, 3, 4, 6, 7, 17, 18, 20, 21, 22, 23, 24, 25, 26, 27, 28, 29, 30, 31, 32, 33, 34, 35, 36, 37, 38, 39, 40, 41, 42, 43, 44, 45, 46, 47, 48, 49, 50, 51, 52, 53, 54, 55, 56, 57, 58, 59, 60, 61, 62, 63, 64, 65, 66, 67, 68, 69, 70, 71, 72, 73, 74, 75, 76, 77, 78, 79, 80, 81, 82, 83, 84, 85, 86, 87, 88, 89, 90, 91, 92, 93, 94, 95] ?_
  refine ce ?_
  refine sq ?_
  refine rg 8000 ?_
  refine pr [2, 3, 4, 6, 7, 17, 23, 25, 26, 27, 28, 29, 30, 31, 32, 33, 34, 35, 36, 37, 38, 39, 40, 41, 42, 43, 44, 45, 46, 47, 48, 49, 50, 51, 52, 53, 54, 55, 56, 57, 58, 59, 60, 61, 62, 63, 64, 65, 66, 67, 68, 69, 70, 71, 72, 73, 74, 75, 76, 77, 78, 79, 80, 81, 82, 83, 84, 85, 86, 87, 88, 89, 90, 91, 92, 93, 94, 95] ?_
  refine ce ?_
  refine sq ?_
  refine rg 10000 ?_
  refine pr [2, 3, 4, 6, 7, 17, 31, 33, 34, 35, 36, 37, 38, 39, 40, 41, 42, 43, 44, 45, 46, 47, 48, 49, 50, 51, 52, 53, 54, 55, 56, 57, 58, 59, 60, 61, 62, 63, 64, 65, 66, 67, 68, 69, 70, 71, 72, 73, 74, 75, 76, 77, 78, 79, 80, 81, 82, 83, 84, 85, 86, 87, 88, 89, 90, 91, 92, 93, 94, 95] ?_
  refine ce ?_
  refine sq ?_
  refine rg 12000 ?_
  refine pr [2, 3, 4, 6, 7, 17, 41, 43, 44, 45, 46, 47, 48, 49, 50, 51, 52, 53, 54, 55, 56, 57, 58, 59, 60, 61, 62, 63, 64, 65, 66, 67, 68, 69, 70, 71, 72, 73, 74, 75, 76, 77, 78, 79, 80, 81, 82, 83, 84, 85, 86, 87, 88, 89, 90, 91, 92, 93, 94, 95] ?_
  refine ce ?_
  refine sq ?_
  refine rg 14000 ?_
  refine pr [2, 3, 4, 6, 7, 17, 51, 53, 54, 55, 56, 57, 58, 59, 60, 61, 62, 63, 64, 65, 66, 67, 68, 69, 70, 71, 72, 73, 74, 75, 76, 77, 78, 79, 80, 81, 82, 83, 84, 85, 86, 87, 88, 89, 90, 91, 92, 93, 94, 95] ?_
  refine ce ?_
  refine sq ?_
  refine rg 18000 ?_
  refine pr [2, 3, 6, 7, 17, 67, 69, 70, 71, 72, 73, 74, 75, 76, 77, 78, 79, 80, 81, 82, 83, 84, 85, 86, 87, 88, 89, 90, 91, 92, 93, 94, 95] ?_
  refine ce ?_
  refine sq ?_
  refine rg 20000 ?_
  refine pr [2, 3, 6, 7, 78, 80, 81, 82, 83, 84, 85, 86, 87, 88, 89, 90, 91, 92, 93, 94, 95] ?_
  refine ce ?_
  refine k_skip ?_
  refine k_nil ?_
  show AK _ _ _ _ _ _
  refine sq ?_
  refine dr ?_
  refine de 22000 ?_
  refine dk [1000, 1001] (fun k => if k = 1 then 1000 else if k = 2 then 1001 else k) (spec162 row hrow 5 col c kids bo bc bv bk FB hb hk1 hkb w) ?_
  refine dc id (spec95 n (numF FB w).1) ?_
  refine de 22200 ?_
  refine dc id (spec163 (numF FB w).2 (.ps (row.map Val.row)) (timesR n (numF FB w).1).1 (timesR n (numF FB w).1).2) ?_
  refine de 22300 ?_
  refine dn ?_
  refine pr [6] ?_
  refine k_ret ?_
  show retQ _ _ _ _ _ _ _
  simp [*]

/-- What is left of an expression's sum, of whatever shape. -/
theorem spec107_one (row : List Val) (hrow : row.length ≤ Flat.lim) (op col : Int) (c : Val) (kids : List E) (hop : op = 6 ∨ op = 11) (FB FE : Int → Val × Int) (n w : Int) : Flat.Sp Try.prog 107 [.ptr 0 0, (E.mk op col c kids).av, vv (.int .i64 n)] [(.var 0, .n 2), (.cell 0 0, .av (vv (.int .i64 w))), (.cell 0 1, .av (.p (.ps (row.map Val.row))))] ((sumR op n FB FE w).1.av) [(.var 0, .n 2), (.cell 0 0, .av (vv (.int .i64 (sumR op n FB FE w).2))), (.cell 0 1, .av (.p (.ps (row.map Val.row))))] := by
  cases hw : (w != 0) with
  | true => exact spec107_err row hrow op col c kids FB FE n w hw
  | false =>
    rcases hop with rfl | rfl
    · exact spec107_neg row hrow col c kids FB FE n w hw
    · exact spec107_not row hrow col c kids FB FE n w hw

theorem spec107_two (row : List Val) (hrow : row.length ≤ Flat.lim) (op col : Int) (c : Val) (kids : List E) (hop : op = 3 ∨ op = 4 ∨ op = 5 ∨ op = 9 ∨ op = 10) (bo bc : Int) (bv : Val) (bk : List E) (FB : Int → Val × Int) (hb : ∀ w : Int, Flat.Sp Try.prog 55 [.ptr 0 0, (E.mk bo bc bv bk).av] [(.var 0, .n 2), (.cell 0 0, .av (vv (.int .i64 w))), (.cell 0 1, .av (.p (.ps (row.map Val.row))))] (FB w).1.av [(.var 0, .n 2), (.cell 0 0, .av (vv (.int .i64 (FB w).2))), (.cell 0 1, .av (.p (.ps (row.map Val.row))))]) (hk1 : 1 < kids.length) (hkb : kids[1] = E.mk bo bc bv bk) (FE : Int → Val × Int) (n w : Int) : Flat.Sp Try.prog 107 [.ptr 0 0, (E.mk op col c kids).av, vv (.int .i64 n)] [(.var 0, .n 2), (.cell 0 0, .av (vv (.int .i64 w))), (.cell 0 1, .av (.p (.ps (row.map Val.row))))] ((sumR op n FB FE w).1.av) [(.var 0, .n 2), (.cell 0 0, .av (vv (.int .i64 (sumR op n FB FE w).2))), (.cell 0 1, .av (.p (.ps (row.map Val.row))))] := by
  cases hw : (w != 0) with
  | true => exact spec107_err row hrow op col c kids FB FE n w hw
  | false =>
    rcases hop with rfl | rfl | rfl | rfl | rfl
    · exact spec107_add row hrow col c kids bo bc bv bk FB hb hk1 hkb FE n w hw
    · exact spec107_sub row hrow col c kids bo bc bv bk FB hb hk1 hkb FE n w hw
    · exact spec107_mul row hrow col c kids bo bc bv bk FB hb hk1 hkb FE n w hw
    · cases hn0 : (n != 0) with
      | true => exact spec107_and1 row hrow col c kids bo bc bv bk FB hb hk1 hkb FE n w hw hn0
      | false => exact spec107_and0 row hrow col c kids FB FE n w hw hn0
    · cases hn0 : (n != 0) with
      | true => exact spec107_or1 row hrow col c kids FB FE n w hw hn0
      | false => exact spec107_or0 row hrow col c kids bo bc bv bk FB hb hk1 hkb FE n w hw hn0

theorem spec107_if (row : List Val) (hrow : row.length ≤ Flat.lim) (col : Int) (c : Val) (kids : List E) (bo bc : Int) (bv : Val) (bk : List E) (FB : Int → Val × Int) (hb : ∀ w : Int, Flat.Sp Try.prog 55 [.ptr 0 0, (E.mk bo bc bv bk).av] [(.var 0, .n 2), (.cell 0 0, .av (vv (.int .i64 w))), (.cell 0 1, .av (.p (.ps (row.map Val.row))))] (FB w).1.av [(.var 0, .n 2), (.cell 0 0, .av (vv (.int .i64 (FB w).2))), (.cell 0 1, .av (.p (.ps (row.map Val.row))))]) (hk1 : 1 < kids.length) (hkb : kids[1] = E.mk bo bc bv bk) (eo ec : Int) (ev : Val) (ek : List E) (FE : Int → Val × Int) (he : ∀ w : Int, Flat.Sp Try.prog 55 [.ptr 0 0, (E.mk eo ec ev ek).av] [(.var 0, .n 2), (.cell 0 0, .av (vv (.int .i64 w))), (.cell 0 1, .av (.p (.ps (row.map Val.row))))] (FE w).1.av [(.var 0, .n 2), (.cell 0 0, .av (vv (.int .i64 (FE w).2))), (.cell 0 1, .av (.p (.ps (row.map Val.row))))]) (hk3 : 2 < kids.length) (hke : kids[2] = E.mk eo ec ev ek) (n w : Int) : Flat.Sp Try.prog 107 [.ptr 0 0, (E.mk 12 col c kids).av, vv (.int .i64 n)] [(.var 0, .n 2), (.cell 0 0, .av (vv (.int .i64 w))), (.cell 0 1, .av (.p (.ps (row.map Val.row))))] ((sumR 12 n FB FE w).1.av) [(.var 0, .n 2), (.cell 0 0, .av (vv (.int .i64 (sumR 12 n FB FE w).2))), (.cell 0 1, .av (.p (.ps (row.map Val.row))))] := by
  cases hw : (w != 0) with
  | true => exact spec107_err row hrow 12 col c kids FB FE n w hw
  | false =>
    cases hn0 : (n != 0) with
    | true => exact spec107_if1 row hrow col c kids bo bc bv bk FB hb hk1 hkb FE n w hw hn0
    | false => exact spec107_if0 row hrow col c kids eo ec ev ek FE he hk3 hke FB n w hw hn0

end Go.Proofs
end
section
set_option linter.unusedVariables false
set_option linter.unusedSimpArgs false
namespace Go.Proofs
open Go.Flat
set_option maxRecDepth 100000
set_option linter.unusedSimpArgs false
set_option linter.unusedVariables false
attribute [local simp] Bool.and_assoc Bool.or_assoc evalG evalX efD skF guardG guardL isCall stepL evalOp ev evs lk tmpsL app AV.ok fresh vv putCells insV ins del putL place Go.Flat.look fillC fillR getCells loadF storeF binF scalarBin intBin strBin isShift shiftBin unF lenF maxF minF rowsF appendF builtinF idxF natOf sliceP sliceF optEv Flat.cut overwrite toPV toPVs constAV scalarC scalarCs AV.cells TI.isAgg allSome andAll scalarEq buildable Go.Flat.lim retQ resL resAll resOne PartOf noTmp closedIn refs refs.refsL isSomeV hasB ids leA leA.leL renA renA.renL callB refsAll backL dropIds renS LiesAt injB ownB freshB memN locId insAll leA_refl leL_refl okS frzS frzA frzA.frzL evalD feet fine updCells cellsFrom memP footRf footWf noTmpU updIds opOps opIds idsA footR footW guardTs opTs dstTs callR callW renLoc renC inBlockQ thenQ Value.oneCell' IntKind.bits IntKind.signed callWk without

attribute [local simp] E.av E.row_eq Val.av in
theorem spec55_one (row : List Val) (hrow : row.length ≤ Flat.lim) (op : Int) (col : Int) (c : Val) (ao ac : Int) (av : Val) (ak : List E) (hop : op = 6 ∨ op = 11) (ha : ∀ w : Int, Flat.Sp Try.prog 55 [.ptr 0 0, (E.mk ao ac av ak).av] [(.var 0, .n 2), (.cell 0 0, .av (vv (.int .i64 w))), (.cell 0 1, .av (.p (.ps (row.map Val.row))))] (reck row (E.mk ao ac av ak) w).1.av [(.var 0, .n 2), (.cell 0 0, .av (vv (.int .i64 (reck row (E.mk ao ac av ak) w).2))), (.cell 0 1, .av (.p (.ps (row.map Val.row))))]) (w : Int) (hw : (w != 0) = false) : Flat.Sp Try.prog 55 [.ptr 0 0, (E.mk op col c [E.mk ao ac av ak]).av] [(.var 0, .n 2), (.cell 0 0, .av (vv (.int .i64 w))), (.cell 0 1, .av (.p (.ps (row.map Val.row))))] ((reck row (E.mk op col c [E.mk ao ac av ak]) w).1.av) [(.var 0, .n 2), (.cell 0 0, .av (vv (.int .i64 (reck row (E.mk op col c [E.mk ao ac av ak]) w).2))), (.cell 0 1, .av (.p (.ps (row.map Val.row))))] := by
  refine sk Try.func55 ?_
  intro F G hn hG
  have ho1 : (op == 1) = false := by rcases hop with rfl | rfl <;> rfl
  have ho2 : (op == 2) = false := by rcases hop with rfl | rfl <;> rfl
  have ho7 : (op == 7) = false := by rcases hop with rfl | rfl <;> rfl
  have ho8 : (op == 8) = false := by rcases hop with rfl | rfl <;> rfl
  refine sq ?_
  refine rg 1000 ?_
  refine pr [0, 3, 4, 5, 6, 7, 8, 9, 10, 11, 12, 13, 14, 15, 16, 17, 18, 19, 20, 21, 22, 23, 24, 25, 26, 27, 28, 29, 30, 31, 32, 33, 34, 35, 36, 37, 38, 39, 40, 41, 43, 44, 45, 46, 47, 48, 49, 50, 51, 52, 53, 54, 55, 56, 57, 58, 59, 60, 61, 62, 63, 64, 65, 66, 67, 68, 69, 70, 71, 72, 73, 74, 75, 76, 77, 78, 80, 81, 82, 83, 84, 85, 86, 87, 88, 89, 90, 91, 92, 93, 94, 95, 96, 97, 98, 99, 100, 101, 102, 103, 104, 105, 106, 107, 108] ?_
  refine sq ?_
  refine k_block ?_
  refine sq ?_
  refine rg 2000 ?_
  refine pr [0, 3, 4, 5, 6, 7, 8, 15, 16, 17, 18, 19, 20, 21, 22, 23, 24, 25, 26, 27, 28, 29, 30, 31, 32, 33, 34, 35, 36, 37, 38, 39, 40, 41, 43, 44, 45, 46, 47, 48, 49, 50, 51, 52, 53, 54, 55, 56, 57, 58, 59, 60, 61, 62, 63, 64, 65, 66, 67, 68, 69, 70, 71, 72, 73, 74, 75, 76, 77, 78, 80, 81, 82, 83, 84, 85, 86, 87, 88, 89, 90, 91, 92, 93, 94, 95, 96, 97, 98, 99, 100, 101, 102, 103, 104, 105, 106, 107, 108] ?_
  refine ce ?_
  refine sq ?_
  refine rg 4000 ?_
  refine pr [0, 3, 4, 5, 6, 7, 16, 20, 21, 22, 23, 24, 25, 26, 27, 28, 29, 30, 31, 32, 33, 34, 35, 36, 37, 38, 39, 40, 41, 43, 44, 45, 46, 47, 48, 49, 50, 51, 52, 53, 54, 55, 56, 57, 58, 59, 60, 61, 62, 63, 64, 65, 66, 67, 68, 69, 70, 71, 72, 73, 74, 75, 76, 77, 78, 80, 81, 82, 83, 84, 85, 86, 87, 88, 89, 90, 91, 92, 93, 94, 95, 96, 97, 98, 99, 100, 101, 102, 103, 104, 105, 106, 107, 108] ?_
  refine ce ?_
  refine sq ?_
  refine rg 6000 ?_
  refine pr [0, 3, 4, 5, 6, 7, 22, 26, 27, 28, 29, 30, 31, 32, 33, 34, 35, 36, 37, 38, 39, 40, 41, 43, 44, 45, 46, 47, 48, 49, 50, 51, 52, 53, 54, 55, 56, 57, 58, 59, 60, 61, 62, 63, 64, 65, 66, 67, 68, 69, 70, 71, 72, 73, 74, 75, 76, 77, 78, 80, 81, 82, 83, 84, 85, 86, 87, 88, 89, 90, 91, 92, 93, 94, 95, 96, 97, 98, 99, 100, 101, 102, 103, 104, 105, 106, 107, 108] ?_
  refine ce ?_
  refine sq ?_
  refine sq ?_
  refine rg 11000 ?_
  refine pr [0, 3, 4, 5, 6, 7, 52, 56, 57, 58, 59, 60, 61, 62, 63, 64, 65, 66, 67, 68, 69, 70, 71, 72, 73, 74, 75, 76, 77, 78, 80, 81, 82, 83, 84, 85, 86, 87, 88, 89, 90, 91, 92, 93, 94, 95, 96, 97, 98, 99, 100, 101, 102, 103, 104, 105, 106, 107, 108] ?_
  refine ce ?_
  refine rg 12000 ?_
  refine pr [0, 3, 4, 5, 6, 7, 52, 59, 60, 61, 62, 63, 64, 65, 66, 67, 68, 69, 70, 71, 72, 73, 74, 75, 76, 77, 78, 80, 81, 82, 83, 84, 85, 86, 87, 88, 89, 90, 91, 92, 93, 94, 95, 96, 97, 98, 99, 100, 101, 102, 103, 104, 105, 106, 107, 108] ?_
  refine ce ?_
  refine k_skip ?_
  refine k_nil ?_
  show AK _ _ _ _ _ _
  refine sq ?_
  refine dr ?_
  refine de 17000 ?_
  refine dc id (spec108 row hrow ao ac av ak (reck row (E.mk ao ac av ak)) ha w) ?_
  refine dc id (spec107_one row hrow op col c [E.mk ao ac av ak] hop noF noF (numF (reck row (E.mk ao ac av ak)) w).1 (numF (reck row (E.mk ao ac av ak)) w).2) ?_
  refine de 17200 ?_
  refine dn ?_
  refine pr [4] ?_
  refine k_ret ?_
  show retQ _ _ _ _ _ _ _
  simp [*, reck, recks, stepR, Val.av]

attribute [local simp] E.av E.row_eq Val.av in
theorem spec55_two (row : List Val) (hrow : row.length ≤ Flat.lim) (op : Int) (col : Int) (c : Val) (ao ac : Int) (av : Val) (ak : List E) (bo bc : Int) (bv : Val) (bk : List E) (hop : op = 3 ∨ op = 4 ∨ op = 5 ∨ op = 9 ∨ op = 10) (ha : ∀ w : Int, Flat.Sp Try.prog 55 [.ptr 0 0, (E.mk ao ac av ak).av] [(.var 0, .n 2), (.cell 0 0, .av (vv (.int .i64 w))), (.cell 0 1, .av (.p (.ps (row.map Val.row))))] (reck row (E.mk ao ac av ak) w).1.av [(.var 0, .n 2), (.cell 0 0, .av (vv (.int .i64 (reck row (E.mk ao ac av ak) w).2))), (.cell 0 1, .av (.p (.ps (row.map Val.row))))]) (hb : ∀ w : Int, Flat.Sp Try.prog 55 [.ptr 0 0, (E.mk bo bc bv bk).av] [(.var 0, .n 2), (.cell 0 0, .av (vv (.int .i64 w))), (.cell 0 1, .av (.p (.ps (row.map Val.row))))] (reck row (E.mk bo bc bv bk) w).1.av [(.var 0, .n 2), (.cell 0 0, .av (vv (.int .i64 (reck row (E.mk bo bc bv bk) w).2))), (.cell 0 1, .av (.p (.ps (row.map Val.row))))]) (w : Int) (hw : (w != 0) = false) : Flat.Sp Try.prog 55 [.ptr 0 0, (E.mk op col c [E.mk ao ac av ak, E.mk bo bc bv bk]).av] [(.var 0, .n 2), (.cell 0 0, .av (vv (.int .i64 w))), (.cell 0 1, .av (.p (.ps (row.map Val.row))))] ((reck row (E.mk op col c [E.mk ao ac av ak, E.mk bo bc bv bk]) w).1.av) [(.var 0, .n 2), (.cell 0 0, .av (vv (.int .i64 (reck row (E.mk op col c [E.mk ao ac av ak, E.mk bo bc bv bk]) w).2))), (.cell 0 1, .av (.p (.ps (row.map Val.row))))] := by
  refine sk Try.func55 ?_
  intro F G hn hG
  have ho1 : (op == 1) = false := by rcases hop with rfl | rfl | rfl | rfl | rfl <;> rfl
  have ho2 : (op == 2) = false := by rcases hop with rfl | rfl | rfl | rfl | rfl <;> rfl
  have ho7 : (op == 7) = false := by rcases hop with rfl | rfl | rfl | rfl | rfl <;> rfl
  have ho8 : (op == 8) = false := by rcases hop with rfl | rfl | rfl | rfl | rfl <;> rfl
  refine sq ?_
  refine rg 1000 ?_
  refine pr [0, 3, 4, 5, 6, 7, 8, 9, 10, 11, 12, 13, 14, 15, 16, 17, 18, 19, 20, 21, 22, 23, 24, 25, 26, 27, 28, 29, 30, 31, 32, 33, 34, 35, 36, 37, 38, 39, 40, 41, 43, 44, 45, 46, 47, 48, 49, 50, 51, 52, 53, 54, 55, 56, 57, 58, 59, 60, 61, 62, 63, 64, 65, 66, 67, 68, 69, 70, 71, 72, 73, 74, 75, 76, 77, 78, 80, 81, 82, 83, 84, 85, 86, 87, 88, 89, 90, 91, 92, 93, 94, 95, 96, 97, 98, 99, 100, 101, 102, 103, 104, 105, 106, 107, 108] ?_
  refine sq ?_
  refine k_block ?_
  refine sq ?_
  refine rg 2000 ?_
  refine pr [0, 3, 4, 5, 6, 7, 8, 15, 16, 17, 18, 19, 20, 21, 22, 23, 24, 25, 26, 27, 28, 29, 30, 31, 32, 33, 34, 35, 36, 37, 38, 39, 40, 41, 43, 44, 45, 46, 47, 48, 49, 50, 51, 52, 53, 54, 55, 56, 57, 58, 59, 60, 61, 62, 63, 64, 65, 66, 67, 68, 69, 70, 71, 72, 73, 74, 75, 76, 77, 78, 80, 81, 82, 83, 84, 85, 86, 87, 88, 89, 90, 91, 92, 93, 94, 95, 96, 97, 98, 99, 100, 101, 102, 103, 104, 105, 106, 107, 108] ?_
  refine ce ?_
  refine sq ?_
  refine rg 4000 ?_
  refine pr [0, 3, 4, 5, 6, 7, 16, 20, 21, 22, 23, 24, 25, 26, 27, 28, 29, 30, 31, 32, 33, 34, 35, 36, 37, 38, 39, 40, 41, 43, 44, 45, 46, 47, 48, 49, 50, 51, 52, 53, 54, 55, 56, 57, 58, 59, 60, 61, 62, 63, 64, 65, 66, 67, 68, 69, 70, 71, 72, 73, 74, 75, 76, 77, 78, 80, 81, 82, 83, 84, 85, 86, 87, 88, 89, 90, 91, 92, 93, 94, 95, 96, 97, 98, 99, 100, 101, 102, 103, 104, 105, 106, 107, 108] ?_
  refine ce ?_
  refine sq ?_
  refine rg 6000 ?_
  refine pr [0, 3, 4, 5, 6, 7, 22, 26, 27, 28, 29, 30, 31, 32, 33, 34, 35, 36, 37, 38, 39, 40, 41, 43, 44, 45, 46, 47, 48, 49, 50, 51, 52, 53, 54, 55, 56, 57, 58, 59, 60, 61, 62, 63, 64, 65, 66, 67, 68, 69, 70, 71, 72, 73, 74, 75, 76, 77, 78, 80, 81, 82, 83, 84, 85, 86, 87, 88, 89, 90, 91, 92, 93, 94, 95, 96, 97, 98, 99, 100, 101, 102, 103, 104, 105, 106, 107, 108] ?_
  refine ce ?_
  refine sq ?_
  refine sq ?_
  refine rg 11000 ?_
  refine pr [0, 3, 4, 5, 6, 7, 52, 56, 57, 58, 59, 60, 61, 62, 63, 64, 65, 66, 67, 68, 69, 70, 71, 72, 73, 74, 75, 76, 77, 78, 80, 81, 82, 83, 84, 85, 86, 87, 88, 89, 90, 91, 92, 93, 94, 95, 96, 97, 98, 99, 100, 101, 102, 103, 104, 105, 106, 107, 108] ?_
  refine ce ?_
  refine rg 12000 ?_
  refine pr [0, 3, 4, 5, 6, 7, 52, 59, 60, 61, 62, 63, 64, 65, 66, 67, 68, 69, 70, 71, 72, 73, 74, 75, 76, 77, 78, 80, 81, 82, 83, 84, 85, 86, 87, 88, 89, 90, 91, 92, 93, 94, 95, 96, 97, 98, 99, 100, 101, 102, 103, 104, 105, 106, 107, 108] ?_
  refine ce ?_
  refine k_skip ?_
  refine k_nil ?_
  show AK _ _ _ _ _ _
  refine sq ?_
  refine dr ?_
  refine de 17000 ?_
  refine dc id (spec108 row hrow ao ac av ak (reck row (E.mk ao ac av ak)) ha w) ?_
  refine dc id (spec107_two row hrow op col c [E.mk ao ac av ak, E.mk bo bc bv bk] hop bo bc bv bk (reck row (E.mk bo bc bv bk)) hb (by simp) rfl noF (numF (reck row (E.mk ao ac av ak)) w).1 (numF (reck row (E.mk ao ac av ak)) w).2) ?_
  refine de 17200 ?_
  refine dn ?_
  refine pr [4] ?_
  refine k_ret ?_
  show retQ _ _ _ _ _ _ _
  simp [*, reck, recks, stepR, Val.av]

attribute [local simp] E.av E.row_eq Val.av in
theorem spec55_if (row : List Val) (hrow : row.length ≤ Flat.lim) (col : Int) (c : Val) (ao ac : Int) (av : Val) (ak : List E) (bo bc : Int) (bv : Val) (bk : List E) (eo ec : Int) (ev : Val) (ek : List E) (ha : ∀ w : Int, Flat.Sp Try.prog 55 [.ptr 0 0, (E.mk ao ac av ak).av] [(.var 0, .n 2), (.cell 0 0, .av (vv (.int .i64 w))), (.cell 0 1, .av (.p (.ps (row.map Val.row))))] (reck row (E.mk ao ac av ak) w).1.av [(.var 0, .n 2), (.cell 0 0, .av (vv (.int .i64 (reck row (E.mk ao ac av ak) w).2))), (.cell 0 1, .av (.p (.ps (row.map Val.row))))]) (hb : ∀ w : Int, Flat.Sp Try.prog 55 [.ptr 0 0, (E.mk bo bc bv bk).av] [(.var 0, .n 2), (.cell 0 0, .av (vv (.int .i64 w))), (.cell 0 1, .av (.p (.ps (row.map Val.row))))] (reck row (E.mk bo bc bv bk) w).1.av [(.var 0, .n 2), (.cell 0 0, .av (vv (.int .i64 (reck row (E.mk bo bc bv bk) w).2))), (.cell 0 1, .av (.p (.ps (row.map Val.row))))]) (he : ∀ w : Int, Flat.Sp Try.prog 55 [.ptr 0 0, (E.mk eo ec ev ek).av] [(.var 0, .n 2), (.cell 0 0, .av (vv (.int .i64 w))), (.cell 0 1, .av (.p (.ps (row.map Val.row))))] (reck row (E.mk eo ec ev ek) w).1.av [(.var 0, .n 2), (.cell 0 0, .av (vv (.int .i64 (reck row (E.mk eo ec ev ek) w).2))), (.cell 0 1, .av (.p (.ps (row.map Val.row))))]) (w : Int) (hw : (w != 0) = false) : Flat.Sp Try.prog 55 [.ptr 0 0, (E.mk 12 col c [E.mk ao ac av ak, E.mk bo bc bv bk, E.mk eo ec ev ek]).av] [(.var 0, .n 2), (.cell 0 0, .av (vv (.int .i64 w))), (.cell 0 1, .av (.p (.ps (row.map Val.row))))] ((reck row (E.mk 12 col c [E.mk ao ac av ak, E.mk bo bc bv bk, E.mk eo ec ev ek]) w).1.av) [(.var 0, .n 2), (.cell 0 0, .av (vv (.int .i64 (reck row (E.mk 12 col c [E.mk ao ac av ak, E.mk bo bc bv bk, E.mk eo ec ev ek]) w).2))), (.cell 0 1, .av (.p (.ps (row.map Val.row))))] := by
  refine sk Try.func55 ?_
  intro F G hn hG
  refine sq ?_
  refine rg 1000 ?_
  refine pr [0, 3, 4, 5, 6, 7, 8, 9, 10, 11, 12, 13, 14, 15, 16, 17, 18, 19, 20, 21, 22, 23, 24, 25, 26, 27, 28, 29, 30, 31, 32, 33, 34, 35, 36, 37, 38, 39, 40, 41, 43, 44, 45, 46, 47, 48, 49, 50, 51, 52, 53, 54, 55, 56, 57, 58, 59, 60, 61, 62, 63, 64, 65, 66, 67, 68, 69, 70, 71, 72, 73, 74, 75, 76, 77, 78, 80, 81, 82, 83, 84, 85, 86, 87, 88, 89, 90, 91, 92, 93, 94, 95, 96, 97, 98, 99, 100, 101, 102, 103, 104, 105, 106, 107, 108] ?_
  refine sq ?_
  refine k_block ?_
  refine sq ?_
  refine rg 2000 ?_
  refine pr [0, 3, 4, 5, 6, 7, 8, 15, 16, 17, 18, 19, 20, 21, 22, 23, 24, 25, 26, 27, 28, 29, 30, 31, 32, 33, 34, 35, 36, 37, 38, 39, 40, 41, 43, 44, 45, 46, 47, 48, 49, 50, 51, 52, 53, 54, 55, 56, 57, 58, 59, 60, 61, 62, 63, 64, 65, 66, 67, 68, 69, 70, 71, 72, 73, 74, 75, 76, 77, 78, 80, 81, 82, 83, 84, 85, 86, 87, 88, 89, 90, 91, 92, 93, 94, 95, 96, 97, 98, 99, 100, 101, 102, 103, 104, 105, 106, 107, 108] ?_
  refine ce ?_
  refine sq ?_
  refine rg 4000 ?_
  refine pr [0, 3, 4, 5, 6, 7, 16, 20, 21, 22, 23, 24, 25, 26, 27, 28, 29, 30, 31, 32, 33, 34, 35, 36, 37, 38, 39, 40, 41, 43, 44, 45, 46, 47, 48, 49, 50, 51, 52, 53, 54, 55, 56, 57, 58, 59, 60, 61, 62, 63, 64, 65, 66, 67, 68, 69, 70, 71, 72, 73, 74, 75, 76, 77, 78, 80, 81, 82, 83, 84, 85, 86, 87, 88, 89, 90, 91, 92, 93, 94, 95, 96, 97, 98, 99, 100, 101, 102, 103, 104, 105, 106, 107, 108] ?_
  refine ce ?_
  refine sq ?_
  refine rg 6000 ?_
  refine pr [0, 3, 4, 5, 6, 7, 22, 26, 27, 28, 29, 30, 31, 32, 33, 34, 35, 36, 37, 38, 39, 40, 41, 43, 44, 45, 46, 47, 48, 49, 50, 51, 52, 53, 54, 55, 56, 57, 58, 59, 60, 61, 62, 63, 64, 65, 66, 67, 68, 69, 70, 71, 72, 73, 74, 75, 76, 77, 78, 80, 81, 82, 83, 84, 85, 86, 87, 88, 89, 90, 91, 92, 93, 94, 95, 96, 97, 98, 99, 100, 101, 102, 103, 104, 105, 106, 107, 108] ?_
  refine ce ?_
  refine sq ?_
  refine sq ?_
  refine rg 11000 ?_
  refine pr [0, 3, 4, 5, 6, 7, 52, 56, 57, 58, 59, 60, 61, 62, 63, 64, 65, 66, 67, 68, 69, 70, 71, 72, 73, 74, 75, 76, 77, 78, 80, 81, 82, 83, 84, 85, 86, 87, 88, 89, 90, 91, 92, 93, 94, 95, 96, 97, 98, 99, 100, 101, 102, 103, 104, 105, 106, 107, 108] ?_
  refine ce ?_
  refine rg 12000 ?_
  refine pr [0, 3, 4, 5, 6, 7, 52, 59, 60, 61, 62, 63, 64, 65, 66, 67, 68, 69, 70, 71, 72, 73, 74, 75, 76, 77, 78, 80, 81, 82, 83, 84, 85, 86, 87, 88, 89, 90, 91, 92, 93, 94, 95, 96, 97, 98, 99, 100, 101, 102, 103, 104, 105, 106, 107, 108] ?_
  refine ce ?_
  refine k_skip ?_
  refine k_nil ?_
  show AK _ _ _ _ _ _
  refine sq ?_
  refine dr ?_
  refine de 17000 ?_
  refine dc id (spec108 row hrow ao ac av ak (reck row (E.mk ao ac av ak)) ha w) ?_
  refine dc id (spec107_if row hrow col c [E.mk ao ac av ak, E.mk bo bc bv bk, E.mk eo ec ev ek] bo bc bv bk (reck row (E.mk bo bc bv bk)) hb (by simp) rfl eo ec ev ek (reck row (E.mk eo ec ev ek)) he (by simp) rfl (numF (reck row (E.mk ao ac av ak)) w).1 (numF (reck row (E.mk ao ac av ak)) w).2) ?_
  refine de 17200 ?_
  refine dn ?_
  refine pr [4] ?_
  refine k_ret ?_
  show retQ _ _ _ _ _ _ _
  simp [*, reck, recks, stepR, Val.av]

attribute [local simp] E.av E.row_eq Val.av bitV Val.num in
theorem spec55_cmp7 (row : List Val) (hrow : row.length ≤ Flat.lim) (col : Int) (c : Val) (ao ac : Int) (av : Val) (ak : List E) (bo bc : Int) (bv : Val) (bk : List E) (ha : ∀ w : Int, Flat.Sp Try.prog 55 [.ptr 0 0, (E.mk ao ac av ak).av] [(.var 0, .n 2), (.cell 0 0, .av (vv (.int .i64 w))), (.cell 0 1, .av (.p (.ps (row.map Val.row))))] (reck row (E.mk ao ac av ak) w).1.av [(.var 0, .n 2), (.cell 0 0, .av (vv (.int .i64 (reck row (E.mk ao ac av ak) w).2))), (.cell 0 1, .av (.p (.ps (row.map Val.row))))]) (hb : ∀ w : Int, Flat.Sp Try.prog 55 [.ptr 0 0, (E.mk bo bc bv bk).av] [(.var 0, .n 2), (.cell 0 0, .av (vv (.int .i64 w))), (.cell 0 1, .av (.p (.ps (row.map Val.row))))] (reck row (E.mk bo bc bv bk) w).1.av [(.var 0, .n 2), (.cell 0 0, .av (vv (.int .i64 (reck row (E.mk bo bc bv bk) w).2))), (.cell 0 1, .av (.p (.ps (row.map Val.row))))]) (w : Int) (hw : (w != 0) = false) : Flat.Sp Try.prog 55 [.ptr 0 0, (E.mk 7 col c [E.mk ao ac av ak, E.mk bo bc bv bk]).av] [(.var 0, .n 2), (.cell 0 0, .av (vv (.int .i64 w))), (.cell 0 1, .av (.p (.ps (row.map Val.row))))] ((reck row (E.mk 7 col c [E.mk ao ac av ak, E.mk bo bc bv bk]) w).1.av) [(.var 0, .n 2), (.cell 0 0, .av (vv (.int .i64 (reck row (E.mk 7 col c [E.mk ao ac av ak, E.mk bo bc bv bk]) w).2))), (.cell 0 1, .av (.p (.ps (row.map Val.row))))] := by
  refine sk Try.func55 ?_
  intro F G hn hG
  refine sq ?_
  refine rg 1000 ?_
  refine pr [0, 3, 4, 5, 6, 7, 8, 9, 10, 11, 12, 13, 14, 15, 16, 17, 18, 19, 20, 21, 22, 23, 24, 25, 26, 27, 28, 29, 30, 31, 32, 33, 34, 35, 36, 37, 38, 39, 40, 41, 43, 44, 45, 46, 47, 48, 49, 50, 51, 52, 53, 54, 55, 56, 57, 58, 59, 60, 61, 62, 63, 64, 65, 66, 67, 68, 69, 70, 71, 72, 73, 74, 75, 76, 77, 78, 80, 81, 82, 83, 84, 85, 86, 87, 88, 89, 90, 91, 92, 93, 94, 95, 96, 97, 98, 99, 100, 101, 102, 103, 104, 105, 106, 107, 108] ?_
  refine sq ?_
  refine k_block ?_
  refine sq ?_
  refine rg 2000 ?_
  refine pr [0, 3, 4, 5, 6, 7, 8, 15, 16, 17, 18, 19, 20, 21, 22, 23, 24, 25, 26, 27, 28, 29, 30, 31, 32, 33, 34, 35, 36, 37, 38, 39, 40, 41, 43, 44, 45, 46, 47, 48, 49, 50, 51, 52, 53, 54, 55, 56, 57, 58, 59, 60, 61, 62, 63, 64, 65, 66, 67, 68, 69, 70, 71, 72, 73, 74, 75, 76, 77, 78, 80, 81, 82, 83, 84, 85, 86, 87, 88, 89, 90, 91, 92, 93, 94, 95, 96, 97, 98, 99, 100, 101, 102, 103, 104, 105, 106, 107, 108] ?_
  refine ce ?_
  refine sq ?_
  refine rg 4000 ?_
  refine pr [0, 3, 4, 5, 6, 7, 16, 20, 21, 22, 23, 24, 25, 26, 27, 28, 29, 30, 31, 32, 33, 34, 35, 36, 37, 38, 39, 40, 41, 43, 44, 45, 46, 47, 48, 49, 50, 51, 52, 53, 54, 55, 56, 57, 58, 59, 60, 61, 62, 63, 64, 65, 66, 67, 68, 69, 70, 71, 72, 73, 74, 75, 76, 77, 78, 80, 81, 82, 83, 84, 85, 86, 87, 88, 89, 90, 91, 92, 93, 94, 95, 96, 97, 98, 99, 100, 101, 102, 103, 104, 105, 106, 107, 108] ?_
  refine ce ?_
  refine sq ?_
  refine rg 6000 ?_
  refine pr [0, 3, 4, 5, 6, 7, 22, 26, 27, 28, 29, 30, 31, 32, 33, 34, 35, 36, 37, 38, 39, 40, 41, 43, 44, 45, 46, 47, 48, 49, 50, 51, 52, 53, 54, 55, 56, 57, 58, 59, 60, 61, 62, 63, 64, 65, 66, 67, 68, 69, 70, 71, 72, 73, 74, 75, 76, 77, 78, 80, 81, 82, 83, 84, 85, 86, 87, 88, 89, 90, 91, 92, 93, 94, 95, 96, 97, 98, 99, 100, 101, 102, 103, 104, 105, 106, 107, 108] ?_
  refine ce ?_
  refine sq ?_
  refine sq ?_
  refine rg 11000 ?_
  refine pr [0, 3, 4, 5, 6, 7, 52, 56, 57, 58, 59, 60, 61, 62, 63, 64, 65, 66, 67, 68, 69, 70, 71, 72, 73, 74, 75, 76, 77, 78, 80, 81, 82, 83, 84, 85, 86, 87, 88, 89, 90, 91, 92, 93, 94, 95, 96, 97, 98, 99, 100, 101, 102, 103, 104, 105, 106, 107, 108] ?_
  refine ct ?_
  refine k_skip ?_
  refine ct ?_
  refine sq ?_
  refine dr ?_
  refine de 13000 ?_
  refine dc id (ha w) ?_
  refine de 13100 ?_
  refine dc id (hb ((reck row (E.mk ao ac av ak)) w).2) ?_
  refine de 13200 ?_
  refine dn ?_
  refine pr [0, 3, 4, 5, 6, 7, 71, 72, 73, 74, 75, 76, 77, 78, 80, 81, 82, 83, 84, 85, 86, 87, 88, 89, 90, 91, 92, 93, 94, 95, 96, 97, 98, 99, 100, 101, 102, 103, 104, 105, 106, 107, 108] ?_
  refine sq ?_
  refine dr ?_
  refine de 14000 ?_
  refine dc id (spec104 ((reck row (E.mk bo bc bv bk)) ((reck row (E.mk ao ac av ak)) w).2).2 (.ps (row.map Val.row)) (((reck row (E.mk ao ac av ak)) w).1.t == ((reck row (E.mk bo bc bv bk)) ((reck row (E.mk ao ac av ak)) w).2).1.t) 11) ?_
  refine dn ?_
  refine pr [0, 3, 4, 5, 6, 7, 80, 81, 82, 83, 84, 85, 86, 87, 88, 89, 90, 91, 92, 93, 94, 95, 96, 97, 98, 99, 100, 101, 102, 103, 104, 105, 106, 107, 108] ?_
  refine sq ?_
  refine rc 15000 ?_
  refine oc id (spec105 ((reck row (E.mk ao ac av ak)) w).1 ((reck row (E.mk bo bc bv bk)) ((reck row (E.mk ao ac av ak)) w).2).1) ?_
  refine oe 15100 ?_
  refine on ?_
  refine pr [0, 3, 4, 7, 83, 84, 85, 86, 87, 88, 89, 90, 91, 92, 93, 94, 95, 96, 97, 98, 99, 100, 101, 102, 103, 104, 105, 106, 107, 108] ?_
  refine sq ?_
  refine rc 16000 ?_
  iterate 3 (first | refine gp 16250 ?_ | refine os ?_ | refine gt 16250 ?_)
  refine oe 16300 ?_
  iterate 7 (first | refine gp 16950 ?_ | refine os ?_ | refine gt 16950 ?_)
  refine oe 17000 ?_
  refine oc id (spec106 ((decide ((((reck row (E.mk ao ac av ak)) w).1.cmp ((reck row (E.mk bo bc bv bk)) ((reck row (E.mk ao ac av ak)) w).2).1) < 0) && (7 : Int) == 7) || ((((reck row (E.mk ao ac av ak)) w).1.cmp ((reck row (E.mk bo bc bv bk)) ((reck row (E.mk ao ac av ak)) w).2).1) == 0 && (7 : Int) == 8))) ?_
  refine oe 17100 ?_
  refine on ?_
  refine pr [0, 3, 4, 100, 101, 102, 103, 104, 105, 106, 107, 108] ?_
  refine k_ret ?_
  show retQ _ _ _ _ _ _ _
  simp [*, reck, recks, stepR, Val.av]

attribute [local simp] E.av E.row_eq Val.av bitV Val.num in
theorem spec55_cmp8 (row : List Val) (hrow : row.length ≤ Flat.lim) (col : Int) (c : Val) (ao ac : Int) (av : Val) (ak : List E) (bo bc : Int) (bv : Val) (bk : List E) (ha : ∀ w : Int, Flat.Sp Try.prog 55 [.ptr 0 0, (E.mk ao ac av ak).av] [(.var 0, .n 2), (.cell 0 0, .av (vv (.int .i64 w))), (.cell 0 1, .av (.p (.ps (row.map Val.row))))] (reck row (E.mk ao ac av ak) w).1.av [(.var 0, .n 2), (.cell 0 0, .av (vv (.int .i64 (reck row (E.mk ao ac av ak) w).2))), (.cell 0 1, .av (.p (.ps (row.map Val.row))))]) (hb : ∀ w : Int, Flat.Sp Try.prog 55 [.ptr 0 0, (E.mk bo bc bv bk).av] [(.var 0, .n 2), (.cell 0 0, .av (vv (.int .i64 w))), (.cell 0 1, .av (.p (.ps (row.map Val.row))))] (reck row (E.mk bo bc bv bk) w).1.av [(.var 0, .n 2), (.cell 0 0, .av (vv (.int .i64 (reck row (E.mk bo bc bv bk) w).2))), (.cell 0 1, .av (.p (.ps (row.map Val.row))))]) (w : Int) (hw : (w != 0) = false) : Flat.Sp Try.prog 55 [.ptr 0 0, (E.mk 8 col c [E.mk ao ac av ak, E.mk bo bc bv bk]).av] [(.var 0, .n 2), (.cell 0 0, .av (vv (.int .i64 w))), (.cell 0 1, .av (.p (.ps (row.map Val.row))))] ((reck row (E.mk 8 col c [E.mk ao ac av ak, E.mk bo bc bv bk]) w).1.av) [(.var 0, .n 2), (.cell 0 0, .av (vv (.int .i64 (reck row (E.mk 8 col c [E.mk ao ac av ak, E.mk bo bc bv bk]) w).2))), (.cell 0 1, .av (.p (.ps (row.map Val.row))))] := by
  refine sk Try.func55 ?_
  intro F G hn hG
  refine sq ?_
  refine rg 1000 ?_
  refine pr [0, 3, 4, 5, 6, 7, 8, 9, 10, 11, 12, 13, 14, 15, 16, 17, 18, 19, 20, 21, 22, 23, 24, 25, 26, 27, 28, 29, 30, 31, 32, 33, 34, 35, 36, 37, 38, 39, 40, 41, 43, 44, 45, 46, 47, 48, 49, 50, 51, 52, 53, 54, 55, 56, 57, 58, 59, 60, 61, 62, 63, 64, 65, 66, 67, 68, 69, 70, 71, 72, 73, 74, 75, 76, 77, 78, 80, 81, 82, 83, 84, 85, 86, 87, 88, 89, 90, 91, 92, 93, 94, 95, 96, 97, 98, 99, 100, 101, 102, 103, 104, 105, 106, 107, 108] ?_
  refine sq ?_
  refine k_block ?_
  refine sq ?_
  refine rg 2000 ?_
  refine pr [0, 3, 4, 5, 6, 7, 8, 15, 16, 17, 18, 19, 20, 21, 22, 23, 24, 25, 26, 27, 28, 29, 30, 31, 32, 33, 34, 35, 36, 37, 38, 39, 40, 41, 43, 44, 45, 46, 47, 48, 49, 50, 51, 52, 53, 54, 55, 56, 57, 58, 59, 60, 61, 62, 63, 64, 65, 66, 67, 68, 69, 70, 71, 72, 73, 74, 75, 76, 77, 78, 80, 81, 82, 83, 84, 85, 86, 87, 88, 89, 90, 91, 92, 93, 94, 95, 96, 97, 98, 99, 100, 101, 102, 103, 104, 105, 106, 107, 108] ?_
  refine ce ?_
  refine sq ?_
  refine rg 4000 ?_
  refine pr [0, 3, 4, 5, 6, 7, 16, 20, 21, 22, 23, 24, 25, 26, 27, 28, 29, 30, 31, 32, 33, 34, 35, 36, 37, 38, 39, 40, 41, 43, 44, 45, 46, 47, 48, 49, 50, 51, 52, 53, 54, 55, 56, 57, 58, 59, 60, 61, 62, 63, 64, 65, 66, 67, 68, 69, 70, 71, 72, 73, 74, 75, 76, 77, 78, 80, 81, 82, 83, 84, 85, 86, 87, 88, 89, 90, 91, 92, 93, 94, 95, 96, 97, 98, 99, 100, 101, 102, 103, 104, 105, 106, 107, 108] ?_
  refine ce ?_
  refine sq ?_
  refine rg 6000 ?_
  refine pr [0, 3, 4, 5, 6, 7, 22, 26, 27, 28, 29, 30, 31, 32, 33, 34, 35, 36, 37, 38, 39, 40, 41, 43, 44, 45, 46, 47, 48, 49, 50, 51, 52, 53, 54, 55, 56, 57, 58, 59, 60, 61, 62, 63, 64, 65, 66, 67, 68, 69, 70, 71, 72, 73, 74, 75, 76, 77, 78, 80, 81, 82, 83, 84, 85, 86, 87, 88, 89, 90, 91, 92, 93, 94, 95, 96, 97, 98, 99, 100, 101, 102, 103, 104, 105, 106, 107, 108] ?_
  refine ce ?_
  refine sq ?_
  refine sq ?_
  refine rg 11000 ?_
  refine pr [0, 3, 4, 5, 6, 7, 52, 56, 57, 58, 59, 60, 61, 62, 63, 64, 65, 66, 67, 68, 69, 70, 71, 72, 73, 74, 75, 76, 77, 78, 80, 81, 82, 83, 84, 85, 86, 87, 88, 89, 90, 91, 92, 93, 94, 95, 96, 97, 98, 99, 100, 101, 102, 103, 104, 105, 106, 107, 108] ?_
  refine ce ?_
  refine rg 12000 ?_
  refine pr [0, 3, 4, 5, 6, 7, 52, 59, 60, 61, 62, 63, 64, 65, 66, 67, 68, 69, 70, 71, 72, 73, 74, 75, 76, 77, 78, 80, 81, 82, 83, 84, 85, 86, 87, 88, 89, 90, 91, 92, 93, 94, 95, 96, 97, 98, 99, 100, 101, 102, 103, 104, 105, 106, 107, 108] ?_
  refine ct ?_
  refine sq ?_
  refine dr ?_
  refine de 13000 ?_
  refine dc id (ha w) ?_
  refine de 13100 ?_
  refine dc id (hb ((reck row (E.mk ao ac av ak)) w).2) ?_
  refine de 13200 ?_
  refine dn ?_
  refine pr [0, 3, 4, 5, 6, 7, 71, 72, 73, 74, 75, 76, 77, 78, 80, 81, 82, 83, 84, 85, 86, 87, 88, 89, 90, 91, 92, 93, 94, 95, 96, 97, 98, 99, 100, 101, 102, 103, 104, 105, 106, 107, 108] ?_
  refine sq ?_
  refine dr ?_
  refine de 14000 ?_
  refine dc id (spec104 ((reck row (E.mk bo bc bv bk)) ((reck row (E.mk ao ac av ak)) w).2).2 (.ps (row.map Val.row)) (((reck row (E.mk ao ac av ak)) w).1.t == ((reck row (E.mk bo bc bv bk)) ((reck row (E.mk ao ac av ak)) w).2).1.t) 11) ?_
  refine dn ?_
  refine pr [0, 3, 4, 5, 6, 7, 80, 81, 82, 83, 84, 85, 86, 87, 88, 89, 90, 91, 92, 93, 94, 95, 96, 97, 98, 99, 100, 101, 102, 103, 104, 105, 106, 107, 108] ?_
  refine sq ?_
  refine rc 15000 ?_
  refine oc id (spec105 ((reck row (E.mk ao ac av ak)) w).1 ((reck row (E.mk bo bc bv bk)) ((reck row (E.mk ao ac av ak)) w).2).1) ?_
  refine oe 15100 ?_
  refine on ?_
  refine pr [0, 3, 4, 7, 83, 84, 85, 86, 87, 88, 89, 90, 91, 92, 93, 94, 95, 96, 97, 98, 99, 100, 101, 102, 103, 104, 105, 106, 107, 108] ?_
  refine sq ?_
  refine rc 16000 ?_
  iterate 3 (first | refine gp 16250 ?_ | refine os ?_ | refine gt 16250 ?_)
  refine oe 16300 ?_
  iterate 7 (first | refine gp 16950 ?_ | refine os ?_ | refine gt 16950 ?_)
  refine oe 17000 ?_
  refine oc id (spec106 ((decide ((((reck row (E.mk ao ac av ak)) w).1.cmp ((reck row (E.mk bo bc bv bk)) ((reck row (E.mk ao ac av ak)) w).2).1) < 0) && (8 : Int) == 7) || ((((reck row (E.mk ao ac av ak)) w).1.cmp ((reck row (E.mk bo bc bv bk)) ((reck row (E.mk ao ac av ak)) w).2).1) == 0 && (8 : Int) == 8))) ?_
  refine oe 17100 ?_
  refine on ?_
  refine pr [0, 3, 4, 100, 101, 102, 103, 104, 105, 106, 107, 108] ?_
  refine k_ret ?_
  show retQ _ _ _ _ _ _ _
  simp [*, reck, recks, stepR, Val.av]

end Go.Proofs
end
section
set_option linter.unusedVariables false
set_option linter.unusedSimpArgs false
namespace Go.Proofs
open Go.Flat
set_option maxRecDepth 100000
set_option linter.unusedSimpArgs false
set_option linter.unusedVariables false
attribute [local simp] Bool.and_assoc Bool.or_assoc evalG evalX efD skF guardG guardL isCall stepL evalOp ev evs lk tmpsL app AV.ok fresh vv putCells insV ins del putL place Go.Flat.look fillC fillR getCells loadF storeF binF scalarBin intBin strBin isShift shiftBin unF lenF maxF minF rowsF appendF builtinF idxF natOf sliceP sliceF optEv Flat.cut overwrite toPV toPVs constAV scalarC scalarCs AV.cells TI.isAgg allSome andAll scalarEq buildable Go.Flat.lim retQ resL resAll resOne PartOf noTmp closedIn refs refs.refsL isSomeV hasB ids leA leA.leL renA renA.renL callB refsAll backL dropIds renS LiesAt injB ownB freshB memN locId insAll leA_refl leL_refl okS frzS frzA frzA.frzL evalD feet fine updCells cellsFrom memP footRf footWf noTmpU updIds opOps opIds idsA footR footW guardTs opTs dstTs callR callW renLoc renC inBlockQ thenQ Value.oneCell' IntKind.bits IntKind.signed callWk without

theorem spec55 (row : List Val) (hrow : row.length ≤ Flat.lim) : ∀ e : E, e.good → ∀ w : Int, Flat.Sp Try.prog 55 [.ptr 0 0, e.av] [(.var 0, .n 2), (.cell 0 0, .av (vv (.int .i64 w))), (.cell 0 1, .av (.p (.ps (row.map Val.row))))] (reck row e w).1.av [(.var 0, .n 2), (.cell 0 0, .av (vv (.int .i64 (reck row e w).2))), (.cell 0 1, .av (.p (.ps (row.map Val.row))))] := by
  refine E.ind fun op col c kids ih hg w => ?_
  rw [E.good] at hg
  obtain ⟨hok, hgk⟩ := hg
  have ih' : ∀ k ∈ kids, ∀ w, _ := fun k hk => ih k hk (E.goodL_mem hgk k hk)
  cases hw : (w != 0) with
  | true => exact spec55_err row hrow op col c kids w hw
  | false =>
    rcases okE_shape hok with ⟨rfl, hn⟩ | ⟨rfl, hn⟩ | ⟨ho, hn⟩ | ⟨ho, hn⟩ | ⟨rfl, hn⟩ | ⟨rfl, hn⟩ | ⟨rfl, hn⟩
    · obtain rfl := List.length_eq_zero_iff.1 hn
      exact spec55_col row hrow col c w hw
    · obtain rfl := List.length_eq_zero_iff.1 hn
      exact spec55_con row hrow col c w hw
    · obtain ⟨⟨ao, ac, av, ak⟩, rfl⟩ := List.length_eq_one_iff.1 hn
      exact spec55_one row hrow op col c ao ac av ak ho (ih' _ (by simp)) w hw
    · obtain ⟨⟨ao, ac, av, ak⟩, ⟨bo, bc, bv, bk⟩, rfl⟩ := Flat.two_of_length hn
      exact spec55_two row hrow op col c ao ac av ak bo bc bv bk ho (ih' _ (by simp)) (ih' _ (by simp)) w hw
    · obtain ⟨⟨ao, ac, av, ak⟩, ⟨bo, bc, bv, bk⟩, rfl⟩ := Flat.two_of_length hn
      exact spec55_cmp7 row hrow col c ao ac av ak bo bc bv bk (ih' _ (by simp)) (ih' _ (by simp)) w hw
    · obtain ⟨⟨ao, ac, av, ak⟩, ⟨bo, bc, bv, bk⟩, rfl⟩ := Flat.two_of_length hn
      exact spec55_cmp8 row hrow col c ao ac av ak bo bc bv bk (ih' _ (by simp)) (ih' _ (by simp)) w hw
    · obtain ⟨⟨ao, ac, av, ak⟩, ⟨bo, bc, bv, bk⟩, ⟨eo, ec, ev, ek⟩, rfl⟩ := three_of_length hn
      exact spec55_if row hrow col c ao ac av ak bo bc bv bk eo ec ev ek (ih' _ (by simp)) (ih' _ (by simp)) (ih' _ (by simp)) w hw
/-- What an expression comes to, and why to nothing. -/
def evalE (row : List Val) (e : E) : Val × Int :=
  if checkE e != 0 then (⟨false, 0, ⟨#[]⟩⟩, checkE e) else if checkRow row != 0 then (⟨false, 0, ⟨#[]⟩⟩, checkRow row) else if (reck row e 0).2 != 0 then (⟨false, 0, ⟨#[]⟩⟩, (reck row e 0).2) else ((reck row e 0).1, 0)

attribute [local simp] E.av Val.av evalE in
theorem spec23_mk (row : List Val) (hrow : row.length ≤ Flat.lim) (op col : Int) (c : Val) (kids : List E) : Flat.Sp Try.prog 23 [(E.mk op col c kids).av, .p (.ps (row.map Val.row))] [] (.tup [(evalE row (E.mk op col c kids)).1.av, vv (.int .i64 (evalE row (E.mk op col c kids)).2)]) [] := by
  refine sk Try.func23 ?_
  intro F G hn hG
  refine sq ?_
  refine rg 1000 ?_
  refine pr [1, 2, 4, 5, 6, 7, 8, 9, 10, 11, 12, 13, 14, 15, 16, 17, 18, 19, 20, 21, 22, 23, 24, 25, 26, 27, 28, 29, 30, 31, 32, 33, 34, 35, 36, 37, 38, 39, 40] ?_
  refine sq ?_
  refine sq ?_
  refine rc 2000 ?_
  refine oc id (spec22 op col c kids) ?_
  refine oe 2100 ?_
  refine on ?_
  refine pr [1, 2, 4, 5, 6, 7, 8, 9, 12, 13, 14, 15, 16, 17, 18, 19, 20, 21, 22, 23, 24, 25, 26, 27, 28, 29, 30, 31, 32, 33, 34, 35, 36, 37, 38, 39, 40] ?_
  refine sq ?_
  refine rg 3000 ?_
  refine pr [1, 2, 4, 5, 6, 7, 8, 9, 13, 14, 15, 16, 17, 18, 19, 20, 21, 22, 23, 24, 25, 26, 27, 28, 29, 30, 31, 32, 33, 34, 35, 36, 37, 38, 39, 40] ?_
  refine cd ?_ ?_
  · intro h13_1
    have h13_1 : (checkE (E.mk op col c kids) != 0) = true := by simpa using h13_1
    refine sq ?_
    refine rg 4000 ?_
    refine pr [1, 2, 4, 5, 7, 8, 9, 16, 17, 18, 19, 20, 21, 22, 23, 24, 25, 26, 27, 28, 29, 30, 31, 32, 33, 34, 35, 36, 37, 38, 39, 40] ?_
    refine k_ret ?_
    show retQ _ _ _ _ _ _ _
    simp [*]
  · intro h13_1
    have h13_1 : (checkE (E.mk op col c kids) != 0) = false := by simpa using h13_1
    have hgood := checkE_good (e := (E.mk op col c kids)) (by simpa using h13_1)
    refine k_skip ?_
    refine sq ?_
    refine sq ?_
    refine rc 5000 ?_
    refine oc id (spec54 row hrow) ?_
    refine oe 5100 ?_
    refine on ?_
    refine pr [1, 2, 4, 5, 7, 8, 9, 18, 19, 20, 21, 22, 23, 24, 25, 26, 27, 28, 29, 30, 31, 32, 33, 34, 35, 36, 37, 38, 39, 40] ?_
    refine sq ?_
    refine rg 6000 ?_
    refine pr [1, 2, 4, 5, 7, 8, 9, 19, 20, 21, 22, 23, 24, 25, 26, 27, 28, 29, 30, 31, 32, 33, 34, 35, 36, 37, 38, 39, 40] ?_
    refine cd ?_ ?_
    · intro h19_2
      have h19_2 : (checkRow row != 0) = true := by simpa using h19_2
      refine sq ?_
      refine rg 7000 ?_
      refine pr [1, 2, 4, 5, 8, 9, 22, 23, 24, 25, 26, 27, 28, 29, 30, 31, 32, 33, 34, 35, 36, 37, 38, 39, 40] ?_
      refine k_ret ?_
      show retQ _ _ _ _ _ _ _
      simp [*]
    · intro h19_2
      have h19_2 : (checkRow row != 0) = false := by simpa using h19_2
      refine k_skip ?_
      refine sq ?_
      refine rg 8000 ?_
      refine pr [2, 4, 5, 8, 9, 25, 26, 27, 28, 29, 30, 31, 32, 33, 34, 35, 36, 37, 38, 39, 40] ?_
      refine sq ?_
      refine rc 9000 ?_
      refine oc (fun k => 8002) (spec55 row hrow (E.mk op col c kids) hgood 0) ?_
      refine oe 9100 ?_
      refine on ?_
      refine pr [4, 5, 8, 9, 28, 29, 30, 31, 32, 33, 34, 35, 36, 37, 38, 39, 40] ?_
      refine sq ?_
      refine sq ?_
      refine rg 10000 ?_
      refine pr [4, 5, 8, 9, 33, 34, 35, 36, 37, 38, 39, 40] ?_
      refine cd ?_ ?_
      · intro h33_3
        have h33_3 : ((reck row (E.mk op col c kids) 0).2 != 0) = true := by simpa using h33_3
        refine sq ?_
        refine dr ?_
        refine de 11000 ?_
        refine dn ?_
        refine pr [4, 5, 9, 40] ?_
        refine k_ret ?_
        show retQ _ _ _ _ _ _ _
        simp [*]
      · intro h33_3
        have h33_3 : ((reck row (E.mk op col c kids) 0).2 != 0) = false := by simpa using h33_3
        refine k_skip ?_
        refine sq ?_
        refine rg 12000 ?_
        refine pr [4, 5] ?_
        refine k_ret ?_
        show retQ _ _ _ _ _ _ _
        simp [*]

theorem spec23 (row : List Val) (hrow : row.length ≤ Flat.lim) (e : E) : Flat.Sp Try.prog 23 [e.av, .p (.ps (row.map Val.row))] [] (.tup [(evalE row e).1.av, vv (.int .i64 (evalE row e).2)]) [] := by
  obtain ⟨op, col, c, kids⟩ := e
  exact spec23_mk row hrow op col c kids

attribute [local simp] Val.row Val.av in
theorem spec27 (row : List Val) (hrow : row.length ≤ Flat.lim) : Flat.Sp Try.prog 27 [.p (.ps (row.map Val.row))] [] (.p (.ps (row.map fun v => [PV.v (.int .u8 (tOf v))]))) [] := by
  refine sk Try.func27 ?_
  intro F G hn hG
  refine sq ?_
  refine rg 1000 ?_
  refine pr [0, 2, 3, 5, 6, 7, 8, 9, 10, 11, 12, 13, 14, 15, 16, 17, 18] ?_
  refine sq ?_
  refine rg 2000 ?_
  refine pr [0, 2, 3, 5, 6, 7, 8, 9, 10, 11, 12, 13, 14, 15, 16, 17, 18] ?_
  refine sq ?_
  refine sq ?_
  refine rg 3000 ?_
  refine pr [2, 3, 5, 6, 7, 8, 9, 10, 11, 12, 13, 14, 15, 16, 17, 18] ?_
  refine k_block ?_
  refine ow (.tmp 3) 900 42 1 ?_
  refine k_loop (fun n l => ∃ i, i + n = row.length ∧ (True) ∧ l = [(.tmp 3, .av (.sl 900 i 0 i)), (.tmp 6, .av (.p (.ps (row.map Val.row)))), (.tmp 7, .av (vv (.int .i64 row.length))), (.tmp 8, .av (vv (.int .i64 i))), (.arr 900, .arr 42 1 ((row.map (fun v => [PV.v (.int .u8 (tOf v))])).take i) 0)]) (row.length) hG ⟨_, ⟨by simp, by simp, by simp⟩, 0, by simp, trivial, rfl⟩ ?_
  rintro n _ ⟨i, hin, hfa, rfl⟩
  refine sq ?_
  refine rg 4000 ?_
  refine pr [2, 3, 5, 6, 7, 8, 9, 10, 11, 12, 13, 14, 15, 16, 17, 18] ?_
  refine sq ?_
  refine cd ?_ ?_
  · intro h9_1
    have hlt : i < row.length := by simpa using h9_1
    obtain ⟨x, hxe⟩ : ∃ x, row[i] = x := ⟨_, rfl⟩
    have hx : row[i]? = some x := by simp [hlt, hxe]
    have hw := wrap_succ (show i < Flat.lim by omega)
    have hmin : min i row.length = i := by omega
    have hlim : (i + 1) * 1 ≤ 140737488355328 := by simp only [Flat.lim] at *; omega
    have hlim1 : i + 1 ≤ 140737488355328 := by simp only [Flat.lim] at *; omega
    have htm0 := tmap_succ (f := (fun v => [PV.v (.int .u8 (tOf v))])) hx
    refine k_skip ?_
    refine sq ?_
    refine k_block ?_
    refine sq ?_
    refine rg 5000 ?_
    refine pr [2, 3, 5, 6, 7, 8, 9, 10, 11, 12, 13, 14, 15, 16, 17, 18] ?_
    refine rc 6000 ?_
    refine oc id (spec57 x) ?_
    refine oe 6100 ?_
    refine on ?_
    refine k_nil ?_
    show AK _ _ _ _ _ _
    refine rg 7000 ?_
    refine k_nil ?_
    refine ⟨n - 1, by omega, _, ⟨?_, ?_, ?_⟩, i + 1, by omega, trivial, rfl⟩ <;> simp [*]
  · intro h9_1
    have hge : row.length ≤ i := by simpa using h9_1
    obtain rfl : i = row.length := by omega
    have htm0 := tmap_all (f := (fun v => [PV.v (.int .u8 (tOf v))])) (Nat.le_refl row.length)
    refine fz 900 ?_
    refine k_exit ?_
    show AK _ _ _ _ _ _
    refine sq ?_
    refine rg 8000 ?_
    refine pr [2] ?_
    refine k_ret ?_
    show retQ _ _ _ _ _ _ _
    simp [*]

attribute [local simp] E.av Val.av E.row_eq in
theorem spec24 (o : Int) (ao ac : Int) (av : Val) (ak : List E) (bo bc : Int) (bv : Val) (bk : List E) : Flat.Sp Try.prog 24 [vv (.int .u8 o), (E.mk ao ac av ak).av, (E.mk bo bc bv bk).av] [] ((E.mk o 0 ⟨false, 0, ⟨#[]⟩⟩ [E.mk ao ac av ak, E.mk bo bc bv bk]).av) [] := by
  refine sk Try.func24 ?_
  intro F G hn hG
  refine sq ?_
  refine rg 1000 ?_
  refine pr [0, 4, 5, 6, 7, 8, 9, 10, 11] ?_
  refine sq ?_
  refine rg 2000 ?_
  refine pr [6] ?_
  refine k_ret ?_
  show retQ _ _ _ _ _ _ _
  simp [*]

attribute [local simp] E.av Val.av E.row_eq in
theorem spec25 (n : Int) : Flat.Sp Try.prog 25 [vv (.int .i64 n)] [] ((E.mk 1 n ⟨false, 0, ⟨#[]⟩⟩ []).av) [] := by
  refine sk Try.func25 ?_
  intro F G hn hG
  refine sq ?_
  refine rg 1000 ?_
  refine pr [0, 2, 3, 4] ?_
  refine sq ?_
  refine rg 2000 ?_
  refine pr [2] ?_
  refine k_ret ?_
  show retQ _ _ _ _ _ _ _
  simp [*]

attribute [local simp] E.av Val.av E.row_eq in
theorem spec21 (n : Int) : Flat.Sp Try.prog 21 [vv (.int .i64 n)] [] ((E.mk 2 0 ⟨false, n, ⟨#[]⟩⟩ []).av) [] := by
  refine sk Try.func21 ?_
  intro F G hn hG
  refine sq ?_
  refine rg 1000 ?_
  refine pr [0, 2, 3, 4, 5] ?_
  refine sq ?_
  refine rg 2000 ?_
  refine pr [2] ?_
  refine k_ret ?_
  show retQ _ _ _ _ _ _ _
  simp [*]

end Go.Proofs
end
section
set_option linter.unusedVariables false
set_option linter.unusedSimpArgs false
namespace Go.Proofs
open Go.Flat
set_option linter.unusedSimpArgs false
set_option linter.unusedVariables false
theorem w64 (n : Int) : IntKind.i64.wrap n = (n + 9223372036854775808) % 18446744073709551616 - 9223372036854775808 := by
  unfold IntKind.wrap
  simp [IntKind.bits, IntKind.signed]
  omega
theorem w64_in {n : Int} (h1 : -9223372036854775808 ≤ n) (h2 : n < 9223372036854775808) : IntKind.i64.wrap n = n := by rw [w64]; omega
theorem w64_add (a b : Int) : IntKind.i64.wrap (IntKind.i64.wrap a + b) = IntKind.i64.wrap (a + b) := by simp only [w64]; omega
mutual
def cnt : E → Int → Int
  | .mk op col c kids, d => if !okE op col c kids.length || decide (d > 16) then 1 else 1 + cntL kids (IntKind.i64.wrap (d + 1))
def cntL : List E → Int → Int
  | [], _ => 0
  | e :: r, d => cnt e d + cntL r d
end
mutual
def dep : E → Int → Int
  | .mk op col c kids, d => if !okE op col c kids.length || decide (d > 16) then d else max d (depL kids (IntKind.i64.wrap (d + 1)))
def depL : List E → Int → Int
  | [], _ => 0
  | e :: r, d => max (dep e d) (depL r d)
end
mutual
def wrg : E → Int → Bool
  | .mk op col c kids, d => if !okE op col c kids.length || decide (d > 16) then !okE op col c kids.length else wrgL kids (IntKind.i64.wrap (d + 1))
def wrgL : List E → Int → Bool
  | [], _ => false
  | e :: r, d => wrg e d || wrgL r d
end
theorem lookL_eq {l : List E} (h : ∀ k ∈ l, ∀ d (s : Srv), 0 ≤ s.2.1 → look k d s = (IntKind.i64.wrap (s.1 + cnt k d), max s.2.1 (dep k d), s.2.2 || wrg k d)) : ∀ d (s : Srv), 0 ≤ s.2.1 → IntKind.i64.wrap s.1 = s.1 → lookL l d s = (IntKind.i64.wrap (s.1 + cntL l d), max s.2.1 (depL l d), s.2.2 || wrgL l d) := by
  induction l with
  | nil =>
    intro d s h0 hw
    simp only [lookL, cntL, depL, wrgL, Int.add_zero, hw, Bool.or_false]
    rw [Int.max_eq_left h0]
  | cons k r ih =>
    intro d s h0 hw
    rw [lookL, h k (by simp) d s h0, ih (fun k hk => h k (by simp [hk])) d _ (by simp only; omega) (by simp only [w64]; omega)]
    simp only [cntL, depL, wrgL, w64_add, Bool.or_assoc, Int.add_assoc, Int.max_assoc]
theorem look_eq : ∀ (e : E) d (s : Srv), 0 ≤ s.2.1 → look e d s = (IntKind.i64.wrap (s.1 + cnt e d), max s.2.1 (dep e d), s.2.2 || wrg e d) := by
  refine E.ind fun op col c kids ih d s h0 => ?_
  rw [look, cnt, dep, wrg]
  have hm : (if d > s.2.1 then d else s.2.1) = max s.2.1 d := by
    split <;> omega
  by_cases hc : (!okE op col c kids.length || decide (d > 16)) = true
  · rw [if_pos hc, if_pos hc, if_pos hc, if_pos hc, hm]
  · rw [if_neg hc, if_neg hc, if_neg hc, if_neg hc]
    have hok : okE op col c kids.length = true := by
      simp only [Bool.or_eq_true, Bool.not_eq_true', decide_eq_true_eq, not_or, Bool.not_eq_false] at hc
      exact hc.1
    rw [lookL_eq ih _ _ (by simp only [hm]; omega) (by simp only [w64]; omega)]
    simp only [hm, hok, Bool.not_true, Bool.or_false, w64_add, Int.add_assoc, Int.max_assoc]
theorem checkE_eq (e : E) (hd : 0 ≤ dep e 1) : checkE e = if wrg e 1 then 4 else if decide (64 < IntKind.i64.wrap (cnt e 1)) then 2 else if decide (16 < dep e 1) then 2 else 0 := by
  unfold checkE
  simp only [look_eq e 1 (0, 0, false) (by simp), Int.zero_add, Bool.false_or, Int.max_eq_right hd]
theorem dep_ge : ∀ (e : E) d, d ≤ dep e d := by
  refine E.ind fun op col c kids ih d => ?_
  rw [dep]
  split
  · omega
  · omega
theorem depL_ge : ∀ (l : List E) d, 0 ≤ depL l d
  | [], d => by simp [depL]
  | e :: r, d => by have := depL_ge r d; rw [depL]; omega
/-- A bound on how many are looked at. -/
def pw : Nat → Int
  | 0 => 1
  | k + 1 => 1 + 3 * pw k
theorem pw_pos : ∀ k, 1 ≤ pw k
  | 0 => by simp [pw]
  | k + 1 => by have := pw_pos k; simp only [pw]; omega
theorem cntL_le {b : Int} (hb : 0 ≤ b) {l : List E} {d : Int} (h : ∀ k ∈ l, 0 ≤ cnt k d ∧ cnt k d ≤ b) : 0 ≤ cntL l d ∧ cntL l d ≤ l.length * b := by
  induction l with
  | nil => simp [cntL]
  | cons k r ih =>
    have h1 := h k (by simp)
    have h2 := ih fun k hk => h k (by simp [hk])
    rw [cntL, List.length_cons]
    refine ⟨by omega, ?_⟩
    have : ((r.length + 1 : Nat) : Int) * b = r.length * b + b := by rw [Int.natCast_add, Int.add_mul]; simp
    omega
theorem cnt_le : ∀ (e : E) (k : Nat) (d : Int), k ≤ 17 → d = 17 - (k : Int) → 0 ≤ cnt e d ∧ cnt e d ≤ pw k := by
  refine E.ind fun op col c kids ih k d hk17 hd => ?_
  have hp := pw_pos k
  rw [cnt]
  split
  · omega
  · rename_i hc
    simp only [Bool.or_eq_true, Bool.not_eq_true', decide_eq_true_eq, not_or, Bool.not_eq_false] at hc
    have hl := okE_len hc.1
    cases k with
    | zero => omega
    | succ k =>
      have hk := pw_pos k
      have hw : IntKind.i64.wrap (d + 1) = d + 1 := by
        rw [w64]
        omega
      rw [hw]
      have := cntL_le (b := pw k) (by omega) (l := kids) (d := d + 1) fun x hx => ih x hx k (d + 1) (by omega) (by omega)
      simp only [pw]
      have h3 : (kids.length : Int) * pw k ≤ 3 * pw k := Int.mul_le_mul_of_nonneg_right (by omega) (by omega)
      omega
theorem cnt_in (e : E) (d : Int) (h1 : 0 ≤ d) (h2 : d ≤ 17) : 0 ≤ cnt e d ∧ cnt e d ≤ 193710244 := by
  have := cnt_le e (17 - d).toNat d (by omega) (by omega)
  have hp : ∀ k, k ≤ 17 → pw k ≤ 193710244 := by decide
  have := hp (17 - d).toNat (by omega)
  omega
theorem checkE_cases (e : E) : checkE e = if wrg e 1 then 4 else if decide (64 < cnt e 1) || decide (16 < dep e 1) then 2 else 0 := by
  have h1 := dep_ge e 1
  have h2 := cnt_in e 1 (by omega) (by omega)
  rw [checkE_eq e (by omega), w64_in (by omega) (by omega)]
  cases wrg e 1 <;> by_cases h : 64 < cnt e 1 <;> by_cases h' : 16 < dep e 1 <;> simp [h, h']
theorem checkE_zero {e : E} : checkE e = 0 ↔ wrg e 1 = false ∧ cnt e 1 ≤ 64 ∧ dep e 1 ≤ 16 := by
  rw [checkE_cases]
  cases wrg e 1 <;> by_cases h : 64 < cnt e 1 <;> by_cases h' : 16 < dep e 1 <;> simp [h, h'] <;> omega
theorem checkE_range (e : E) : checkE e = 0 ∨ checkE e = 2 ∨ checkE e = 4 := by
  rw [checkE_cases]
  cases wrg e 1 <;> by_cases h : 64 < cnt e 1 <;> by_cases h' : 16 < dep e 1 <;> simp [h, h']
def vZ : Val := ⟨false, 0, ⟨#[]⟩⟩
def eCon (n : Int) : E := .mk 2 0 ⟨false, n, ⟨#[]⟩⟩ []
def eCol (n : Int) : E := .mk 1 n vZ []
def eTwo (o : Int) (a b : E) : E := .mk o 0 vZ [a, b]
@[simp] theorem okE_con (n : Int) : okE 2 0 ⟨false, n, ⟨#[]⟩⟩ 0 = true := by simp [okE, okA, kidsOf, Val.eqB, checkRow, badRow, firstBad, Val.right]
@[simp] theorem okE_col (n : Int) : okE 1 n vZ 0 = true := by simp [okE, okA, kidsOf, Val.eqB, checkRow, badRow, firstBad, Val.right, vZ]
theorem okE_two {o : Int} (h : o = 3 ∨ o = 4 ∨ o = 5 ∨ o = 7 ∨ o = 8 ∨ o = 9 ∨ o = 10) : okE o 0 vZ 2 = true := by
  rcases h with rfl | rfl | rfl | rfl | rfl | rfl | rfl <;> simp [okE, okA, kidsOf, Val.eqB, checkRow, badRow, firstBad, Val.right, vZ]
theorem okE_one {o : Int} (h : o = 6 ∨ o = 11) : okE o 0 vZ 1 = true := by
  rcases h with rfl | rfl <;> simp [okE, okA, kidsOf, Val.eqB, checkRow, badRow, firstBad, Val.right, vZ]
@[simp] theorem okE_if : okE 12 0 vZ 3 = true := by simp [okE, okA, kidsOf, Val.eqB, checkRow, badRow, firstBad, Val.right, vZ]
theorem con_cnt (n d : Int) : cnt (eCon n) d = 1 := by simp [eCon, cnt, cntL]
theorem con_dep (n d : Int) (hd : 0 ≤ d) : dep (eCon n) d = d := by simp [eCon, dep, depL]; omega
theorem con_wrg (n d : Int) : wrg (eCon n) d = false := by simp [eCon, wrg, wrgL]
theorem col_cnt (n d : Int) : cnt (eCol n) d = 1 := by simp [eCol, cnt, cntL]
theorem col_dep (n d : Int) (hd : 0 ≤ d) : dep (eCol n) d = d := by simp [eCol, dep, depL]; omega
theorem col_wrg (n d : Int) : wrg (eCol n) d = false := by simp [eCol, wrg, wrgL]
theorem two_chk {o : Int} (a b : E) (h : o = 3 ∨ o = 4 ∨ o = 5 ∨ o = 7 ∨ o = 8 ∨ o = 9 ∨ o = 10) : wrg (eTwo o a b) 1 = (wrg a 2 || wrg b 2) ∧ cnt (eTwo o a b) 1 = 1 + (cnt a 2 + cnt b 2) ∧ dep (eTwo o a b) 1 = max 1 (max (dep a 2) (max (dep b 2) 0)) := by
  have hok := okE_two h
  simp [eTwo, cnt, dep, wrg, cntL, depL, wrgL, hok]
/-- Who is not needed is not asked. -/
theorem lazy_checks {e : E} (h : checkE (.mk 12 0 vZ [eCon 1, eCon 7, e]) = 0) (o : Int) (ho : o = 9 ∨ o = 10) (n : Int) : checkE (eTwo o (eCon n) e) = 0 := by
  rw [checkE_zero] at h ⊢
  obtain ⟨h1, h2, h3⟩ := two_chk (o := o) (eCon n) e (by omega)
  have hd := dep_ge e 2
  have e1 : cnt (.mk 12 0 vZ [eCon 1, eCon 7, e]) 1 = 1 + (1 + (1 + cnt e 2)) := by simp [cnt, cntL, con_cnt]
  have e2 : dep (.mk 12 0 vZ [eCon 1, eCon 7, e]) 1 = max 1 (max 2 (max 2 (max (dep e 2) 0))) := by simp [dep, depL, con_dep]
  have e3 : wrg (.mk 12 0 vZ [eCon 1, eCon 7, e]) 1 = wrg e 2 := by simp [wrg, wrgL, con_wrg]
  rw [e1, e2, e3] at h
  rw [h1, h2, h3, con_cnt, con_wrg, con_dep n 2 (by omega)]
  obtain ⟨g1, g2, g3⟩ := h
  refine ⟨by simpa using g1, by omega, by omega⟩
theorem eval_ok {row : List Val} {e : E} (h : checkE e = 0) : evalE row e = if checkRow row != 0 then (vZ, checkRow row) else if (reck row e 0).2 != 0 then (vZ, (reck row e 0).2) else ((reck row e 0).1, 0) := by
  unfold evalE
  rw [h]
  rfl
theorem lazy_law {row : List Val} {e : E} (h : checkE (.mk 12 0 vZ [eCon 1, eCon 7, e]) = 0) :
    (((evalE row (eTwo 9 (eCon 0) e)).2 != 0) = true → (evalE row (eTwo 9 (eCon 0) e)).2 = checkRow row ∧ (evalE row (eTwo 10 (eCon 2) e)).2 = checkRow row ∧ (evalE row (.mk 12 0 vZ [eCon 1, eCon 7, e])).2 = checkRow row) ∧
    (((evalE row (eTwo 9 (eCon 0) e)).2 != 0) = false → (evalE row (eTwo 9 (eCon 0) e)).1.n = 0 ∧ (evalE row (eTwo 10 (eCon 2) e)).2 = 0 ∧ (evalE row (eTwo 10 (eCon 2) e)).1.n = 1 ∧ (evalE row (.mk 12 0 vZ [eCon 1, eCon 7, e])).2 = 0 ∧ (evalE row (.mk 12 0 vZ [eCon 1, eCon 7, e])).1.n = 7) := by
  rw [eval_ok h, eval_ok (lazy_checks h 9 (by omega) 0), eval_ok (lazy_checks h 10 (by omega) 2)]
  have r1 : reck row (eTwo 9 (eCon 0) e) 0 = (Val.num 0, 0) := by simp [eTwo, eCon, reck, recks, stepR, sumR, numF, unlessF, bitV]
  have r2 : reck row (eTwo 10 (eCon 2) e) 0 = (Val.num 1, 0) := by simp [eTwo, eCon, reck, recks, stepR, sumR, numF, unlessF, bitV]
  have r3 : reck row (.mk 12 0 vZ [eCon 1, eCon 7, e]) 0 = (Val.num 7, 0) := by simp [eTwo, eCon, reck, recks, stepR, sumR, numF, unlessF, bitV, Val.num]
  rw [r1, r2, r3]
  cases hc : checkRow row != 0 with
  | true => simp at hc; simp [hc]
  | false => simp [Val.num]
end Go.Proofs
end
section
set_option linter.unusedVariables false
set_option linter.unusedSimpArgs false
namespace Go.Proofs
open Go.Flat
set_option maxRecDepth 100000
set_option linter.unusedSimpArgs false
set_option linter.unusedVariables false
attribute [local simp] Bool.and_assoc Bool.or_assoc evalG evalX efD skF guardG guardL isCall stepL evalOp ev evs lk tmpsL app AV.ok fresh vv putCells insV ins del putL place Go.Flat.look fillC fillR getCells loadF storeF binF scalarBin intBin strBin isShift shiftBin unF lenF maxF minF rowsF appendF builtinF idxF natOf sliceP sliceF optEv Flat.cut overwrite toPV toPVs constAV scalarC scalarCs AV.cells TI.isAgg allSome andAll scalarEq buildable Go.Flat.lim retQ resL resAll resOne PartOf noTmp closedIn refs refs.refsL isSomeV hasB ids leA leA.leL renA renA.renL callB refsAll backL dropIds renS LiesAt injB ownB freshB memN locId insAll leA_refl leL_refl okS frzS frzA frzA.frzL evalD feet fine updCells cellsFrom memP footRf footWf noTmpU updIds opOps opIds idsA footR footW guardTs opTs dstTs callR callW renLoc renC inBlockQ thenQ Value.oneCell' IntKind.bits IntKind.signed

theorem wadd2 {x y g : Nat} (h : x + y = g) (hg : g ≤ 1125899906842624) : IntKind.i64.wrap ((x : Int) + (y : Int)) = (g : Int) := by
  rw [w64]; omega
theorem wsub2 {x y d : Nat} (h : d + y = x) (hx : x ≤ 1125899906842624) : IntKind.i64.wrap ((x : Int) - (y : Int)) = (d : Int) := by
  rw [w64]; omega
theorem half_of {x y s h : Nat} (h1 : x + y = s) (h2 : s / 2 = h) (hs : s ≤ 1125899906842624) : IntKind.u64.wrap (s : Int) = (s : Int) ∧ (s : Int).fdiv 2 = (h : Int) ∧ IntKind.i64.wrap (h : Int) = (h : Int) := by
  refine ⟨?_, ?_, ?_⟩
  · rw [wrapU]; omega
  · rw [Int.fdiv_eq_ediv_of_nonneg _ (by omega)]; omega
  · rw [w64]; omega

attribute [local simp] Up.row Up.av in
set_option maxHeartbeats 1000000 in
theorem spec203_one (c : Up → Up → Int) (ho : Ord (ltU c)) (us : List Up) (hus : us.length < Flat.lim) (hc : ∀ x ∈ us, ∀ y ∈ us, Flat.Sp Try.prog 87 [x.av, y.av] [] (vv (.int .i64 (c x y))) []) (pub a m b : Nat) (hpa : pub ≤ a) (ham : a + 1 = m) (hmb : m < b) (hb : b ≤ us.length) (hl2 : Line (ltU c) (seg us m b)) : Flat.Sp Try.prog 203 [.sl 0 us.length 0 us.length, vv (.int .i64 a), vv (.int .i64 m), vv (.int .i64 b), .fn (.func 87) []] [(.arr 0, .arr 92 6 ((us).map Up.row) pub)] (.tup []) [(.arr 0, .arr 92 6 ((mergeI (ltU c) us a m b).map Up.row) pub)] := by
  refine sk Try.func203 ?_
  intro F G hn hG
  have hw0 := wsub (x := m) (y := a) (d := 1) (by omega) (by omega)
  simp only [Int.natCast_one] at hw0
  obtain ⟨x, hx⟩ : ∃ x, us[a]? = some x := ⟨_, List.getElem?_eq_getElem (by omega)⟩
  have hx2 : ∀ hh : a < us.length, us[a]'hh = x := fun hh => (List.getElem?_eq_some_iff.1 hx).2
  have hxm := List.mem_of_getElem? hx
  have hal : a < us.length := by omega
  have hst := sym_one_start (us := us) (a := a) (b := b) hx (by omega)
  rw [ham] at hst
  have hmono := q1_mono ho hl2 hb x Up.zero
  have hsl := seg_len (l := us) (a := m) hb
  have hta : (us.take a).length = a := by simp; omega
  refine sq ?_
  refine sq ?_
  refine rg 1000 ?_
  refine pr [0, 1, 2, 3, 4, 10, 11, 12, 13, 14, 15, 16, 17, 18, 19, 20, 21, 22, 23, 24, 28, 29, 30, 31, 32, 33, 34, 35, 36, 37, 38, 39, 40, 41, 42, 43, 44, 45, 46, 47, 48, 49, 50, 51, 52, 53, 54, 55, 56, 57, 58, 59, 60, 61, 62, 63, 64, 65, 66, 67, 68, 69, 70, 71, 72, 73, 74, 75, 76, 77, 78, 79, 80, 81, 82, 83, 84, 85, 86, 87, 88, 89, 90, 91, 92, 93, 94, 95, 96, 97, 98, 99, 100, 101, 102, 103, 104, 105, 106, 107, 108, 109, 110, 111, 112, 113, 114, 115, 116, 117, 118, 119, 120, 121, 122, 123, 124, 125, 126, 127, 128, 129, 130, 131, 132, 133, 134, 135, 136, 137, 138, 139, 140, 141, 142, 143, 144, 145, 146, 147, 148, 149, 150, 151, 152, 153, 154, 155, 156, 157, 158, 159, 160, 161, 162, 163, 164, 165, 166, 167, 168, 169, 170, 171, 172, 173, 174, 175, 176, 177, 178, 179, 180, 181, 182, 183, 184, 185, 186, 187, 188, 189, 190, 192, 193, 194, 195, 196, 197, 198, 199, 200, 201, 202, 203, 204, 206, 207, 208, 209, 210, 211, 212, 213, 214, 215, 216, 217, 218] ?_
  refine ct ?_
  refine sq ?_
  refine rg 2000 ?_
  refine pr [0, 1, 2, 3, 4, 10, 11, 12, 13, 14, 15, 16, 17, 18, 19, 20, 21, 22, 23, 24, 30, 31, 32, 33, 34, 35, 36, 37, 38, 39, 40, 41, 42, 43, 44, 45, 46, 47, 48, 49, 50, 51, 52, 53, 54, 55, 56, 57, 58, 59, 60, 61, 62, 63, 64, 65, 66, 67, 68, 69, 70, 71, 72, 73, 74, 75, 76, 77, 78, 79, 80, 81, 82, 83, 84, 85, 86, 87, 88, 89, 90, 91, 92, 93, 94, 95, 96, 97, 98, 99, 100, 101, 102, 103, 104, 105, 106, 107, 108, 109, 110, 111, 112, 113, 114, 115, 116, 117, 118, 119, 120, 121, 122, 123, 124, 125, 126, 127, 128, 129, 130, 131, 132, 133, 134, 135, 136, 137, 138, 139, 140, 141, 142, 143, 144, 145, 146, 147, 148, 149, 150, 151, 152, 153, 154, 155, 156, 157, 158, 159, 160, 161, 162, 163, 164, 165, 166, 167, 168, 169, 170, 171, 172, 173, 174, 175, 176, 177, 178, 179, 180, 181, 182, 183, 184, 185, 186, 187, 188, 189, 190, 192, 193, 194, 195, 196, 197, 198, 199, 200, 201, 202, 203, 204, 206, 207, 208, 209, 210, 211, 212, 213, 214, 215, 216, 217, 218] ?_
  refine sq ?_
  refine rg 3000 ?_
  refine pr [0, 1, 2, 3, 4, 10, 11, 12, 13, 14, 15, 16, 17, 18, 19, 20, 21, 22, 23, 24, 31, 32, 33, 34, 35, 36, 37, 38, 39, 40, 41, 42, 43, 44, 45, 46, 47, 48, 49, 50, 51, 52, 53, 54, 55, 56, 57, 58, 59, 60, 61, 62, 63, 64, 65, 66, 67, 68, 69, 70, 71, 72, 73, 74, 75, 76, 77, 78, 79, 80, 81, 82, 83, 84, 85, 86, 87, 88, 89, 90, 91, 92, 93, 94, 95, 96, 97, 98, 99, 100, 101, 102, 103, 104, 105, 106, 107, 108, 109, 110, 111, 112, 113, 114, 115, 116, 117, 118, 119, 120, 121, 122, 123, 124, 125, 126, 127, 128, 129, 130, 131, 132, 133, 134, 135, 136, 137, 138, 139, 140, 141, 142, 143, 144, 145, 146, 147, 148, 149, 150, 151, 152, 153, 154, 155, 156, 157, 158, 159, 160, 161, 162, 163, 164, 165, 166, 167, 168, 169, 170, 171, 172, 173, 174, 175, 176, 177, 178, 179, 180, 181, 182, 183, 184, 185, 186, 187, 188, 189, 190, 192, 193, 194, 195, 196, 197, 198, 199, 200, 201, 202, 203, 204, 206, 207, 208, 209, 210, 211, 212, 213, 214, 215, 216, 217, 218] ?_
  refine sq ?_
  refine k_block ?_
  refine k_loop (fun n l => ∃ i j : Nat, n = j - i ∧ BS (q1 (ltU c) us x Up.zero) m b i j ∧ l = [(.tmp 0, .av (.sl 0 us.length 0 us.length)), (.tmp 1, .av (vv (.int .i64 a))), (.tmp 2, .av (vv (.int .i64 m))), (.tmp 3, .av (vv (.int .i64 b))), (.tmp 4, .av (.fn (.func 87) [])), (.tmp 10, .av (vv (.int .i64 i))), (.tmp 11, .av (vv (.int .i64 j))), (.arr 0, .arr 92 6 ((us).map Up.row) pub)]) (b - m) hG ⟨_, ⟨by simp, by simp, by simp⟩, m, b, rfl, .start (by omega), rfl⟩ ?_
  rintro n _ ⟨i, j, hin, hB, rfl⟩
  have hB1 := hB.a
  have hB2 := hB.b
  have hB3 := hB.c
  refine sq ?_
  refine sq ?_
  refine rg 4000 ?_
  refine pr [0, 1, 2, 3, 4, 10, 11, 12, 13, 14, 15, 16, 17, 18, 19, 20, 21, 22, 23, 24, 31, 32, 33, 34, 35, 36, 37, 38, 39, 40, 41, 42, 43, 44, 45, 46, 47, 48, 49, 50, 51, 52, 53, 54, 55, 56, 57, 58, 59, 60, 61, 62, 63, 64, 65, 66, 67, 68, 69, 70, 71, 72, 73, 74, 75, 76, 77, 78, 79, 80, 81, 82, 83, 84, 85, 86, 87, 88, 89, 90, 91, 92, 93, 94, 95, 96, 97, 98, 99, 100, 101, 102, 103, 104, 105, 106, 107, 108, 109, 110, 111, 112, 113, 114, 115, 116, 117, 118, 119, 120, 121, 122, 123, 124, 125, 126, 127, 128, 129, 130, 131, 132, 133, 134, 135, 136, 137, 138, 139, 140, 141, 142, 143, 144, 145, 146, 147, 148, 149, 150, 151, 152, 153, 154, 155, 156, 157, 158, 159, 160, 161, 162, 163, 164, 165, 166, 167, 168, 169, 170, 171, 172, 173, 174, 175, 176, 177, 178, 179, 180, 181, 182, 183, 184, 185, 186, 187, 188, 189, 190, 192, 193, 194, 195, 196, 197, 198, 199, 200, 201, 202, 203, 204, 206, 207, 208, 209, 210, 211, 212, 213, 214, 215, 216, 217, 218] ?_
  refine cd ?_ ?_
  · intro h33_1
    have hij : i < j := by simpa using h33_1
    obtain ⟨s, hs⟩ : ∃ s, i + j = s := ⟨_, rfl⟩
    obtain ⟨h, hh⟩ : ∃ h, s / 2 = h := ⟨_, rfl⟩
    have hws := wadd2 hs (by simp only [Flat.lim] at hus; omega)
    obtain ⟨hwu, hfd, hwh⟩ := half_of hs hh (by simp only [Flat.lim] at hus; omega)
    have hws1 := wrap_succ (show h < Flat.lim by omega)
    have hhl : h < us.length := by omega
    obtain ⟨w, hw⟩ : ∃ w, us[h]? = some w := ⟨_, List.getElem?_eq_getElem (by omega)⟩
    have hw2 : ∀ hh : h < us.length, us[h]'hh = w := fun hh => (List.getElem?_eq_some_iff.1 hw).2
    have hwm := List.mem_of_getElem? hw
    have hgw : us.getD h Up.zero = w := by rw [List.getD_eq_getElem?_getD, hw]; rfl
    refine k_skip ?_
    refine k_block ?_
    refine sq ?_
    refine rg 5000 ?_
    refine pr [0, 1, 2, 3, 4, 10, 11, 12, 13, 14, 15, 16, 17, 18, 19, 20, 21, 22, 23, 24, 31, 32, 33, 34, 35, 36, 37, 38, 39, 40, 41, 42, 43, 44, 45, 46, 47, 48, 49, 50, 51, 52, 53, 54, 55, 56, 57, 58, 59, 60, 61, 62, 63, 64, 65, 66, 67, 68, 69, 70, 71, 72, 73, 74, 75, 76, 77, 78, 79, 80, 81, 82, 83, 84, 85, 86, 87, 88, 89, 90, 91, 92, 93, 94, 95, 96, 97, 98, 99, 100, 101, 102, 103, 104, 105, 106, 107, 108, 109, 110, 111, 112, 113, 114, 115, 116, 117, 118, 119, 120, 121, 122, 123, 124, 125, 126, 127, 128, 129, 130, 131, 132, 133, 134, 135, 136, 137, 138, 139, 140, 141, 142, 143, 144, 145, 146, 147, 148, 149, 150, 151, 152, 153, 154, 155, 156, 157, 158, 159, 160, 161, 162, 163, 164, 165, 166, 167, 168, 169, 170, 171, 172, 173, 174, 175, 176, 177, 178, 179, 180, 181, 182, 183, 184, 185, 186, 187, 188, 189, 190, 192, 193, 194, 195, 196, 197, 198, 199, 200, 201, 202, 203, 204, 206, 207, 208, 209, 210, 211, 212, 213, 214, 215, 216, 217, 218] ?_
    refine sq ?_
    refine dr ?_
    refine de 6000 ?_ (h := by simp [*, ltU]; exact is_rfl _)
    refine dc id (hc w hwm x hxm) ?_ (hg := by simp [*, ltU]) (hf := by simp [*, ltU]; exact is_rfl _) (hx := by simp [*, ltU]; exact is_rfl _) (hargs := by simp [*, ltU]) (hB := by simp [*, ltU]) (hL := by simp [*, ltU]) (hd := by simp [*, ltU]; exact is_rfl _)
    refine de 6100 ?_ (h := by simp [*, ltU]; exact is_rfl _)
    refine dn ?_
    refine pr [0, 1, 2, 3, 4, 10, 11, 12, 13, 14, 15, 16, 17, 18, 19, 20, 21, 22, 23, 24, 31, 32, 33, 34, 35, 36, 37, 38, 39, 40, 41, 42, 43, 44, 45, 46, 47, 48, 49, 50, 51, 52, 53, 54, 55, 56, 57, 58, 59, 60, 61, 62, 63, 64, 65, 66, 67, 68, 69, 70, 71, 72, 73, 74, 75, 76, 77, 78, 79, 80, 81, 82, 83, 84, 85, 86, 87, 88, 89, 90, 91, 92, 93, 94, 95, 96, 97, 98, 99, 100, 101, 102, 103, 104, 105, 106, 107, 108, 109, 110, 111, 112, 113, 114, 115, 116, 117, 118, 119, 120, 121, 122, 123, 124, 125, 126, 127, 128, 129, 130, 131, 132, 133, 134, 135, 136, 137, 138, 139, 140, 141, 142, 143, 144, 145, 146, 147, 148, 149, 150, 151, 152, 153, 154, 155, 156, 157, 158, 159, 160, 161, 162, 163, 164, 165, 166, 167, 168, 169, 170, 171, 172, 173, 174, 175, 176, 177, 178, 179, 180, 181, 182, 183, 184, 185, 186, 187, 188, 189, 190, 192, 193, 194, 195, 196, 197, 198, 199, 200, 201, 202, 203, 204, 206, 207, 208, 209, 210, 211, 212, 213, 214, 215, 216, 217, 218] ?_
    refine cd ?_ ?_
    · intro h50_2
      have hBu := hB.up hmono (h := h) (by omega) (by omega) (by simp only [q1, hgw, Bool.not_eq_false']; exact h50_2)
      refine rg 7000 ?_
      refine k_nil ?_
      show AK _ _ _ _ _ _
      refine k_nil ?_
      first
        | refine ⟨j - (h + 1), by omega, _, ⟨?_, ?_, ?_⟩, h + 1, j, rfl, hBu, rfl⟩ <;> simp [*] <;> done
        | refine ⟨h - i, by omega, _, ⟨?_, ?_, ?_⟩, i, h, rfl, hBd, rfl⟩ <;> simp [*] <;> done
    · intro h50_2
      have hBd := hB.dn hmono (h := h) (by omega) (by omega) (by simp only [q1, hgw, Bool.not_eq_true']; exact h50_2)
      refine rg 8000 ?_
      refine k_nil ?_
      show AK _ _ _ _ _ _
      refine k_nil ?_
      first
        | refine ⟨j - (h + 1), by omega, _, ⟨?_, ?_, ?_⟩, h + 1, j, rfl, hBu, rfl⟩ <;> simp [*] <;> done
        | refine ⟨h - i, by omega, _, ⟨?_, ?_, ?_⟩, i, h, rfl, hBd, rfl⟩ <;> simp [*] <;> done
  · intro h33_1
    obtain rfl : i = j := by have : ¬ i < j := (by simpa using h33_1); have := hB.b; omega
    have hfin := sym_one ho hx (by rw [ham]; exact hl2) hb (by rw [ham]; exact hB)
    rw [ham] at hfin
    have hB1 := hB.a
    have hB3 := hB.c
    obtain ⟨im, him⟩ : ∃ im, im + 1 = i := ⟨i - 1, by omega⟩
    have hwi := wsub him (by omega)
    simp only [Int.natCast_one] at hwi
    refine k_exit ?_
    show AK _ _ _ _ _ _
    refine sq ?_
    refine sq ?_
    refine rg 9000 ?_
    refine pr [0, 1, 2, 3, 4, 10, 13, 14, 15, 16, 17, 18, 19, 20, 21, 22, 23, 24, 55, 56, 57, 58, 59, 60, 61, 62, 63, 64, 65, 66, 67, 68, 69, 70, 71, 72, 73, 74, 75, 76, 77, 78, 79, 80, 81, 82, 83, 84, 85, 86, 87, 88, 89, 90, 91, 92, 93, 94, 95, 96, 97, 98, 99, 100, 101, 102, 103, 104, 105, 106, 107, 108, 109, 110, 111, 112, 113, 114, 115, 116, 117, 118, 119, 120, 121, 122, 123, 124, 125, 126, 127, 128, 129, 130, 131, 132, 133, 134, 135, 136, 137, 138, 139, 140, 141, 142, 143, 144, 145, 146, 147, 148, 149, 150, 151, 152, 153, 154, 155, 156, 157, 158, 159, 160, 161, 162, 163, 164, 165, 166, 167, 168, 169, 170, 171, 172, 173, 174, 175, 176, 177, 178, 179, 180, 181, 182, 183, 184, 185, 186, 187, 188, 189, 190, 192, 193, 194, 195, 196, 197, 198, 199, 200, 201, 202, 203, 204, 206, 207, 208, 209, 210, 211, 212, 213, 214, 215, 216, 217, 218] ?_
    refine k_block ?_
    refine k_loop (fun n l => ∃ t k : Nat, t + n = i - m ∧ a + t = k ∧ l = [(.tmp 0, .av (.sl 0 us.length 0 us.length)), (.tmp 1, .av (vv (.int .i64 a))), (.tmp 2, .av (vv (.int .i64 m))), (.tmp 3, .av (vv (.int .i64 b))), (.tmp 4, .av (.fn (.func 87) [])), (.tmp 10, .av (vv (.int .i64 i))), (.tmp 13, .av (vv (.int .i64 k))), (.arr 0, .arr 92 6 ((insA (us.take a) (seg us m b) x (us.drop b) t).map Up.row) pub)]) (i - m) hG ⟨_, ⟨by simp [hst], by simp, by simp⟩, 0, a, by omega, rfl, rfl⟩ ?_
    rintro n2 _ ⟨t, k, htn, hat, rfl⟩
    refine sq ?_
    refine sq ?_
    refine rg 10000 ?_
    refine pr [0, 1, 2, 3, 4, 10, 13, 14, 15, 16, 17, 18, 19, 20, 21, 22, 23, 24, 55, 56, 57, 58, 59, 60, 61, 62, 63, 64, 65, 66, 67, 68, 69, 70, 71, 72, 73, 74, 75, 76, 77, 78, 79, 80, 81, 82, 83, 84, 85, 86, 87, 88, 89, 90, 91, 92, 93, 94, 95, 96, 97, 98, 99, 100, 101, 102, 103, 104, 105, 106, 107, 108, 109, 110, 111, 112, 113, 114, 115, 116, 117, 118, 119, 120, 121, 122, 123, 124, 125, 126, 127, 128, 129, 130, 131, 132, 133, 134, 135, 136, 137, 138, 139, 140, 141, 142, 143, 144, 145, 146, 147, 148, 149, 150, 151, 152, 153, 154, 155, 156, 157, 158, 159, 160, 161, 162, 163, 164, 165, 166, 167, 168, 169, 170, 171, 172, 173, 174, 175, 176, 177, 178, 179, 180, 181, 182, 183, 184, 185, 186, 187, 188, 189, 190, 192, 193, 194, 195, 196, 197, 198, 199, 200, 201, 202, 203, 204, 206, 207, 208, 209, 210, 211, 212, 213, 214, 215, 216, 217, 218] ?_
    refine cd ?_ ?_
    · intro h58_3
      have hkm : k < im := by have := h58_3; simp at this; omega
      obtain ⟨kp, hkp⟩ : ∃ kp, k + 1 = kp := ⟨_, rfl⟩
      have hwk := wadd hkp (by omega)
      simp only [Int.natCast_one] at hwk
      obtain ⟨w, hw⟩ : ∃ w, (seg us m b)[t]? = some w := ⟨_, List.getElem?_eq_getElem (by omega)⟩
      have hself : (insA (us.take a) (seg us m b) x (us.drop b) t)[k]? = some x := by have := insA_at (us.take a) (seg us m b) x (us.drop b) (k := t) (by omega); rw [hta, hat] at this; exact this
      have hsucc : (insA (us.take a) (seg us m b) x (us.drop b) t)[kp]? = some w := by have := insA_succ (us.take a) (seg us m b) x (us.drop b) (k := t) (by omega); rw [hta, hat, hkp, hw] at this; exact this
      have hcl : (insA (us.take a) (seg us m b) x (us.drop b) t).length = us.length := by rw [insA_len, hta, hsl, List.length_drop]; omega
      have hself2 : ∀ h : k < (insA (us.take a) (seg us m b) x (us.drop b) t).length, (insA (us.take a) (seg us m b) x (us.drop b) t)[k]'h = x := fun h => (List.getElem?_eq_some_iff.1 hself).2
      have hsucc2 : ∀ h : kp < (insA (us.take a) (seg us m b) x (us.drop b) t).length, (insA (us.take a) (seg us m b) x (us.drop b) t)[kp]'h = w := fun h => (List.getElem?_eq_some_iff.1 hsucc).2
      have hkl : k < us.length := by omega
      have hkl2 : kp < us.length := by omega
      have hpk : pub ≤ k := by omega
      have hpk2 : pub ≤ kp := by omega
      have hnx : insA (us.take a) (seg us m b) x (us.drop b) (t + 1) = ((insA (us.take a) (seg us m b) x (us.drop b) t).set k w).set kp x := by have h := insA_swp2 Up.zero (us.take a) (seg us m b) x (us.drop b) (k := t) (by omega); rw [hta, hat, hkp] at h; rw [← h]; simp [swp, List.getD, hself, hsucc]
      refine k_skip ?_
      refine sq ?_
      refine k_block ?_
      refine dr ?_
      refine de 12000 ?_
      refine dn ?_
      refine k_nil ?_
      show AK _ _ _ _ _ _
      refine rg 11000 ?_
      refine k_nil ?_
      refine ⟨n2 - 1, by omega, _, ⟨?_, ?_, ?_⟩, t + 1, kp, by omega, by omega, rfl⟩ <;> simp [*]
    · intro h58_3
      have hkm : ¬ k < im := by have := h58_3; simp at this; omega
      obtain rfl : t = i - m := by omega
      refine k_exit ?_
      show AK _ _ _ _ _ _
      refine k_ret ?_
      show retQ _ _ _ _ _ _ _
      simp [*]

attribute [local simp] Up.row Up.av in
set_option maxHeartbeats 1000000 in
theorem spec203_last (c : Up → Up → Int) (ho : Ord (ltU c)) (us : List Up) (hus : us.length < Flat.lim) (hc : ∀ x ∈ us, ∀ y ∈ us, Flat.Sp Try.prog 87 [x.av, y.av] [] (vv (.int .i64 (c x y))) []) (pub a m b : Nat) (hpa : pub ≤ a) (ham : a + 1 < m) (hmb : m + 1 = b) (hb : b ≤ us.length) (hl1 : Line (ltU c) (seg us a m)) : Flat.Sp Try.prog 203 [.sl 0 us.length 0 us.length, vv (.int .i64 a), vv (.int .i64 m), vv (.int .i64 b), .fn (.func 87) []] [(.arr 0, .arr 92 6 ((us).map Up.row) pub)] (.tup []) [(.arr 0, .arr 92 6 ((mergeI (ltU c) us a m b).map Up.row) pub)] := by
  refine sk Try.func203 ?_
  intro F G hn hG
  obtain ⟨d0, hd0⟩ : ∃ d, d + a = m := ⟨m - a, by omega⟩
  have hw0 := wsub hd0 (by omega)
  have hd1 : ((d0 : Int) == 1) = false := by simp; omega
  have hw1 := wsub (x := b) (y := m) (d := 1) (by omega) (by omega)
  simp only [Int.natCast_one] at hw1
  obtain ⟨y, hy⟩ : ∃ y, us[m]? = some y := ⟨_, List.getElem?_eq_getElem (by omega)⟩
  have hy2 : ∀ hh : m < us.length, us[m]'hh = y := fun hh => (List.getElem?_eq_some_iff.1 hy).2
  have hym := List.mem_of_getElem? hy
  have hml : m < us.length := by omega
  have hst := sym_last_start (us := us) (a := a) (m := m) hy (by omega)
  rw [hmb] at hst
  have hmono := q2_mono ho hl1 (by omega) y Up.zero
  have hsl := seg_len (l := us) (a := a) (b := m) (by omega)
  have hta : (us.take a).length = a := by simp; omega
  refine sq ?_
  refine sq ?_
  refine rg 1000 ?_
  refine pr [0, 1, 2, 3, 4, 10, 11, 12, 13, 14, 15, 16, 17, 18, 19, 20, 21, 22, 23, 24, 28, 29, 30, 31, 32, 33, 34, 35, 36, 37, 38, 39, 40, 41, 42, 43, 44, 45, 46, 47, 48, 49, 50, 51, 52, 53, 54, 55, 56, 57, 58, 59, 60, 61, 62, 63, 64, 65, 66, 67, 68, 69, 70, 71, 72, 73, 74, 75, 76, 77, 78, 79, 80, 81, 82, 83, 84, 85, 86, 87, 88, 89, 90, 91, 92, 93, 94, 95, 96, 97, 98, 99, 100, 101, 102, 103, 104, 105, 106, 107, 108, 109, 110, 111, 112, 113, 114, 115, 116, 117, 118, 119, 120, 121, 122, 123, 124, 125, 126, 127, 128, 129, 130, 131, 132, 133, 134, 135, 136, 137, 138, 139, 140, 141, 142, 143, 144, 145, 146, 147, 148, 149, 150, 151, 152, 153, 154, 155, 156, 157, 158, 159, 160, 161, 162, 163, 164, 165, 166, 167, 168, 169, 170, 171, 172, 173, 174, 175, 176, 177, 178, 179, 180, 181, 182, 183, 184, 185, 186, 187, 188, 189, 190, 192, 193, 194, 195, 196, 197, 198, 199, 200, 201, 202, 203, 204, 206, 207, 208, 209, 210, 211, 212, 213, 214, 215, 216, 217, 218] ?_
  refine ce ?_
  refine k_skip ?_
  refine sq ?_
  refine sq ?_
  refine rg 13000 ?_
  refine pr [0, 1, 2, 3, 4, 14, 15, 16, 17, 18, 19, 20, 21, 22, 23, 24, 80, 81, 82, 83, 84, 85, 86, 87, 88, 89, 90, 91, 92, 93, 94, 95, 96, 97, 98, 99, 100, 101, 102, 103, 104, 105, 106, 107, 108, 109, 110, 111, 112, 113, 114, 115, 116, 117, 118, 119, 120, 121, 122, 123, 124, 125, 126, 127, 128, 129, 130, 131, 132, 133, 134, 135, 136, 137, 138, 139, 140, 141, 142, 143, 144, 145, 146, 147, 148, 149, 150, 151, 152, 153, 154, 155, 156, 157, 158, 159, 160, 161, 162, 163, 164, 165, 166, 167, 168, 169, 170, 171, 172, 173, 174, 175, 176, 177, 178, 179, 180, 181, 182, 183, 184, 185, 186, 187, 188, 189, 190, 192, 193, 194, 195, 196, 197, 198, 199, 200, 201, 202, 203, 204, 206, 207, 208, 209, 210, 211, 212, 213, 214, 215, 216, 217, 218] ?_
  refine ct ?_
  refine sq ?_
  refine rg 14000 ?_
  refine pr [0, 1, 2, 3, 4, 14, 15, 16, 17, 18, 19, 20, 21, 22, 23, 24, 82, 83, 84, 85, 86, 87, 88, 89, 90, 91, 92, 93, 94, 95, 96, 97, 98, 99, 100, 101, 102, 103, 104, 105, 106, 107, 108, 109, 110, 111, 112, 113, 114, 115, 116, 117, 118, 119, 120, 121, 122, 123, 124, 125, 126, 127, 128, 129, 130, 131, 132, 133, 134, 135, 136, 137, 138, 139, 140, 141, 142, 143, 144, 145, 146, 147, 148, 149, 150, 151, 152, 153, 154, 155, 156, 157, 158, 159, 160, 161, 162, 163, 164, 165, 166, 167, 168, 169, 170, 171, 172, 173, 174, 175, 176, 177, 178, 179, 180, 181, 182, 183, 184, 185, 186, 187, 188, 189, 190, 192, 193, 194, 195, 196, 197, 198, 199, 200, 201, 202, 203, 204, 206, 207, 208, 209, 210, 211, 212, 213, 214, 215, 216, 217, 218] ?_
  refine sq ?_
  refine rg 15000 ?_
  refine pr [0, 1, 2, 3, 4, 14, 15, 16, 17, 18, 19, 20, 21, 22, 23, 24, 83, 84, 85, 86, 87, 88, 89, 90, 91, 92, 93, 94, 95, 96, 97, 98, 99, 100, 101, 102, 103, 104, 105, 106, 107, 108, 109, 110, 111, 112, 113, 114, 115, 116, 117, 118, 119, 120, 121, 122, 123, 124, 125, 126, 127, 128, 129, 130, 131, 132, 133, 134, 135, 136, 137, 138, 139, 140, 141, 142, 143, 144, 145, 146, 147, 148, 149, 150, 151, 152, 153, 154, 155, 156, 157, 158, 159, 160, 161, 162, 163, 164, 165, 166, 167, 168, 169, 170, 171, 172, 173, 174, 175, 176, 177, 178, 179, 180, 181, 182, 183, 184, 185, 186, 187, 188, 189, 190, 192, 193, 194, 195, 196, 197, 198, 199, 200, 201, 202, 203, 204, 206, 207, 208, 209, 210, 211, 212, 213, 214, 215, 216, 217, 218] ?_
  refine sq ?_
  refine k_block ?_
  refine k_loop (fun n l => ∃ i j : Nat, n = j - i ∧ BS (q2 (ltU c) us y Up.zero) a m i j ∧ l = [(.tmp 0, .av (.sl 0 us.length 0 us.length)), (.tmp 1, .av (vv (.int .i64 a))), (.tmp 2, .av (vv (.int .i64 m))), (.tmp 3, .av (vv (.int .i64 b))), (.tmp 4, .av (.fn (.func 87) [])), (.tmp 14, .av (vv (.int .i64 i))), (.tmp 15, .av (vv (.int .i64 j))), (.arr 0, .arr 92 6 ((us).map Up.row) pub)]) (m - a) hG ⟨_, ⟨by simp, by simp, by simp⟩, a, m, rfl, .start (by omega), rfl⟩ ?_
  rintro n _ ⟨i, j, hin, hB, rfl⟩
  have hB1 := hB.a
  have hB2 := hB.b
  have hB3 := hB.c
  refine sq ?_
  refine sq ?_
  refine rg 16000 ?_
  refine pr [0, 1, 2, 3, 4, 14, 15, 16, 17, 18, 19, 20, 21, 22, 23, 24, 83, 84, 85, 86, 87, 88, 89, 90, 91, 92, 93, 94, 95, 96, 97, 98, 99, 100, 101, 102, 103, 104, 105, 106, 107, 108, 109, 110, 111, 112, 113, 114, 115, 116, 117, 118, 119, 120, 121, 122, 123, 124, 125, 126, 127, 128, 129, 130, 131, 132, 133, 134, 135, 136, 137, 138, 139, 140, 141, 142, 143, 144, 145, 146, 147, 148, 149, 150, 151, 152, 153, 154, 155, 156, 157, 158, 159, 160, 161, 162, 163, 164, 165, 166, 167, 168, 169, 170, 171, 172, 173, 174, 175, 176, 177, 178, 179, 180, 181, 182, 183, 184, 185, 186, 187, 188, 189, 190, 192, 193, 194, 195, 196, 197, 198, 199, 200, 201, 202, 203, 204, 206, 207, 208, 209, 210, 211, 212, 213, 214, 215, 216, 217, 218] ?_
  refine cd ?_ ?_
  · intro h85_1
    have hij : i < j := by simpa using h85_1
    obtain ⟨s, hs⟩ : ∃ s, i + j = s := ⟨_, rfl⟩
    obtain ⟨h, hh⟩ : ∃ h, s / 2 = h := ⟨_, rfl⟩
    have hws := wadd2 hs (by simp only [Flat.lim] at hus; omega)
    obtain ⟨hwu, hfd, hwh⟩ := half_of hs hh (by simp only [Flat.lim] at hus; omega)
    have hws1 := wrap_succ (show h < Flat.lim by omega)
    have hhl : h < us.length := by omega
    obtain ⟨w, hw⟩ : ∃ w, us[h]? = some w := ⟨_, List.getElem?_eq_getElem (by omega)⟩
    have hw2 : ∀ hh : h < us.length, us[h]'hh = w := fun hh => (List.getElem?_eq_some_iff.1 hw).2
    have hwm := List.mem_of_getElem? hw
    have hgw : us.getD h Up.zero = w := by rw [List.getD_eq_getElem?_getD, hw]; rfl
    refine k_skip ?_
    refine k_block ?_
    refine sq ?_
    refine rg 17000 ?_
    refine pr [0, 1, 2, 3, 4, 14, 15, 16, 17, 18, 19, 20, 21, 22, 23, 24, 83, 84, 85, 86, 87, 88, 89, 90, 91, 92, 93, 94, 95, 96, 97, 98, 99, 100, 101, 102, 103, 104, 105, 106, 107, 108, 109, 110, 111, 112, 113, 114, 115, 116, 117, 118, 119, 120, 121, 122, 123, 124, 125, 126, 127, 128, 129, 130, 131, 132, 133, 134, 135, 136, 137, 138, 139, 140, 141, 142, 143, 144, 145, 146, 147, 148, 149, 150, 151, 152, 153, 154, 155, 156, 157, 158, 159, 160, 161, 162, 163, 164, 165, 166, 167, 168, 169, 170, 171, 172, 173, 174, 175, 176, 177, 178, 179, 180, 181, 182, 183, 184, 185, 186, 187, 188, 189, 190, 192, 193, 194, 195, 196, 197, 198, 199, 200, 201, 202, 203, 204, 206, 207, 208, 209, 210, 211, 212, 213, 214, 215, 216, 217, 218] ?_
    refine sq ?_
    refine dr ?_
    refine de 18000 ?_ (h := by simp [*, ltU]; exact is_rfl _)
    refine dc id (hc y hym w hwm) ?_ (hg := by simp [*, ltU]) (hf := by simp [*, ltU]; exact is_rfl _) (hx := by simp [*, ltU]; exact is_rfl _) (hargs := by simp [*, ltU]) (hB := by simp [*, ltU]) (hL := by simp [*, ltU]) (hd := by simp [*, ltU]; exact is_rfl _)
    refine de 18100 ?_ (h := by simp [*, ltU]; exact is_rfl _)
    refine dn ?_
    refine pr [0, 1, 2, 3, 4, 14, 15, 16, 17, 18, 19, 20, 21, 22, 23, 24, 83, 84, 85, 86, 87, 88, 89, 90, 91, 92, 93, 94, 95, 96, 97, 98, 99, 100, 101, 102, 103, 104, 105, 106, 107, 108, 109, 110, 111, 112, 113, 114, 115, 116, 117, 118, 119, 120, 121, 122, 123, 124, 125, 126, 127, 128, 129, 130, 131, 132, 133, 134, 135, 136, 137, 138, 139, 140, 141, 142, 143, 144, 145, 146, 147, 148, 149, 150, 151, 152, 153, 154, 155, 156, 157, 158, 159, 160, 161, 162, 163, 164, 165, 166, 167, 168, 169, 170, 171, 172, 173, 174, 175, 176, 177, 178, 179, 180, 181, 182, 183, 184, 185, 186, 187, 188, 189, 190, 192, 193, 194, 195, 196, 197, 198, 199, 200, 201, 202, 203, 204, 206, 207, 208, 209, 210, 211, 212, 213, 214, 215, 216, 217, 218] ?_
    refine cd ?_ ?_
    · intro h103_2
      have hBu := hB.up hmono (h := h) (by omega) (by omega) (by simp only [q2, hgw]; simpa [ltU] using h103_2)
      refine rg 19000 ?_
      refine k_nil ?_
      show AK _ _ _ _ _ _
      refine k_nil ?_
      first
        | refine ⟨j - (h + 1), by omega, _, ⟨?_, ?_, ?_⟩, h + 1, j, rfl, hBu, rfl⟩ <;> simp [*] <;> done
        | refine ⟨h - i, by omega, _, ⟨?_, ?_, ?_⟩, i, h, rfl, hBd, rfl⟩ <;> simp [*] <;> done
    · intro h103_2
      have hBd := hB.dn hmono (h := h) (by omega) (by omega) (by simp only [q2, hgw]; simpa [ltU] using h103_2)
      refine rg 20000 ?_
      refine k_nil ?_
      show AK _ _ _ _ _ _
      refine k_nil ?_
      first
        | refine ⟨j - (h + 1), by omega, _, ⟨?_, ?_, ?_⟩, h + 1, j, rfl, hBu, rfl⟩ <;> simp [*] <;> done
        | refine ⟨h - i, by omega, _, ⟨?_, ?_, ?_⟩, i, h, rfl, hBd, rfl⟩ <;> simp [*] <;> done
  · intro h85_1
    obtain rfl : i = j := by have : ¬ i < j := (by simpa using h85_1); have := hB.b; omega
    have hfin := sym_last ho hy hl1 (by omega) hB
    rw [hmb] at hfin
    have hB1 := hB.a
    have hB3 := hB.c
    refine k_exit ?_
    show AK _ _ _ _ _ _
    refine sq ?_
    refine sq ?_
    refine rg 21000 ?_
    refine pr [0, 1, 2, 3, 4, 14, 17, 18, 19, 20, 21, 22, 23, 24, 108, 109, 110, 111, 112, 113, 114, 115, 116, 117, 118, 119, 120, 121, 122, 123, 124, 125, 126, 127, 128, 129, 130, 131, 132, 133, 134, 135, 136, 137, 138, 139, 140, 141, 142, 143, 144, 145, 146, 147, 148, 149, 150, 151, 152, 153, 154, 155, 156, 157, 158, 159, 160, 161, 162, 163, 164, 165, 166, 167, 168, 169, 170, 171, 172, 173, 174, 175, 176, 177, 178, 179, 180, 181, 182, 183, 184, 185, 186, 187, 188, 189, 190, 192, 193, 194, 195, 196, 197, 198, 199, 200, 201, 202, 203, 204, 206, 207, 208, 209, 210, 211, 212, 213, 214, 215, 216, 217, 218] ?_
    refine k_block ?_
    refine k_loop (fun n l => ∃ t k : Nat, n + (i - a) = t ∧ a + t = k ∧ k ≤ m ∧ l = [(.tmp 0, .av (.sl 0 us.length 0 us.length)), (.tmp 1, .av (vv (.int .i64 a))), (.tmp 2, .av (vv (.int .i64 m))), (.tmp 3, .av (vv (.int .i64 b))), (.tmp 4, .av (.fn (.func 87) [])), (.tmp 14, .av (vv (.int .i64 i))), (.tmp 17, .av (vv (.int .i64 k))), (.arr 0, .arr 92 6 ((insA (us.take a) (seg us a m) y (us.drop b) t).map Up.row) pub)]) (m - i) hG ⟨_, ⟨by simp [hst], by simp, by simp⟩, m - a, m, by omega, by omega, by omega, rfl⟩ ?_
    rintro n2 _ ⟨t, k, htn, hat, hkm0, rfl⟩
    refine sq ?_
    refine sq ?_
    refine rg 22000 ?_
    refine pr [0, 1, 2, 3, 4, 14, 17, 18, 19, 20, 21, 22, 23, 24, 108, 109, 110, 111, 112, 113, 114, 115, 116, 117, 118, 119, 120, 121, 122, 123, 124, 125, 126, 127, 128, 129, 130, 131, 132, 133, 134, 135, 136, 137, 138, 139, 140, 141, 142, 143, 144, 145, 146, 147, 148, 149, 150, 151, 152, 153, 154, 155, 156, 157, 158, 159, 160, 161, 162, 163, 164, 165, 166, 167, 168, 169, 170, 171, 172, 173, 174, 175, 176, 177, 178, 179, 180, 181, 182, 183, 184, 185, 186, 187, 188, 189, 190, 192, 193, 194, 195, 196, 197, 198, 199, 200, 201, 202, 203, 204, 206, 207, 208, 209, 210, 211, 212, 213, 214, 215, 216, 217, 218] ?_
    refine cd ?_ ?_
    · intro h110_3
      have hkm : i < k := by have := h110_3; simp at this; omega
      obtain ⟨km, hkp⟩ : ∃ km, km + 1 = k := ⟨k - 1, by omega⟩
      have hwk := wsub hkp (by omega)
      simp only [Int.natCast_one] at hwk
      obtain ⟨t, rfl⟩ : ∃ t0, t = t0 + 1 := ⟨t - 1, by omega⟩
      obtain ⟨w, hw⟩ : ∃ w, (seg us a m)[t]? = some w := ⟨_, List.getElem?_eq_getElem (by omega)⟩
      have hself : (insA (us.take a) (seg us a m) y (us.drop b) (t + 1))[k]? = some y := by have := insA_at (us.take a) (seg us a m) y (us.drop b) (k := t + 1) (by omega); rw [hta, hat] at this; exact this
      have hsucc : (insA (us.take a) (seg us a m) y (us.drop b) (t + 1))[km]? = some w := by have := insA_pred (us.take a) (seg us a m) y (us.drop b) (k := t) (by omega); rw [hta, show a + t = km by omega, hw] at this; exact this
      have hcl : (insA (us.take a) (seg us a m) y (us.drop b) (t + 1)).length = us.length := by rw [insA_len, hta, hsl, List.length_drop]; omega
      have hself2 : ∀ h : k < (insA (us.take a) (seg us a m) y (us.drop b) (t + 1)).length, (insA (us.take a) (seg us a m) y (us.drop b) (t + 1))[k]'h = y := fun h => (List.getElem?_eq_some_iff.1 hself).2
      have hsucc2 : ∀ h : km < (insA (us.take a) (seg us a m) y (us.drop b) (t + 1)).length, (insA (us.take a) (seg us a m) y (us.drop b) (t + 1))[km]'h = w := fun h => (List.getElem?_eq_some_iff.1 hsucc).2
      have hkl : k < us.length := by omega
      have hkl2 : km < us.length := by omega
      have hpk : pub ≤ k := by omega
      have hpk2 : pub ≤ km := by omega
      have hnx : insA (us.take a) (seg us a m) y (us.drop b) t = ((insA (us.take a) (seg us a m) y (us.drop b) (t + 1)).set k w).set km y := by have h := insA_swp Up.zero (us.take a) (seg us a m) y (us.drop b) (k := t) (by omega); rw [hta, show a + t + 1 = k by omega, show a + t = km by omega] at h; rw [← h]; simp [swp, List.getD, hself, hsucc]
      refine k_skip ?_
      refine sq ?_
      refine k_block ?_
      refine dr ?_
      refine de 24000 ?_
      refine dn ?_
      refine k_nil ?_
      show AK _ _ _ _ _ _
      refine rg 23000 ?_
      refine k_nil ?_
      refine ⟨n2 - 1, by omega, _, ⟨?_, ?_, ?_⟩, t, km, by omega, by omega, by omega, rfl⟩ <;> simp [*]
    · intro h110_3
      have hkm : ¬ i < k := by have := h110_3; simp at this; omega
      obtain rfl : t = i - a := by omega
      refine k_exit ?_
      show AK _ _ _ _ _ _
      refine k_ret ?_
      show retQ _ _ _ _ _ _ _
      simp [*]

attribute [local simp] Up.row Up.av in
set_option maxHeartbeats 2000000 in
theorem spec203_g0 (c : Up → Up → Int) (ho : Ord (ltU c)) (us : List Up) (hus : us.length < Flat.lim) (hc : ∀ x ∈ us, ∀ y ∈ us, Flat.Sp Try.prog 87 [x.av, y.av] [] (vv (.int .i64 (c x y))) []) (pub a m b mid : Nat) (hpa : pub ≤ a) (ham : a + 1 < m) (hmb : m + 1 < b) (hb : b ≤ us.length) (hmd : (a + b) / 2 = mid) (hv : mid < m) (hl1 : Line (ltU c) (seg us a m)) (hl2 : Line (ltU c) (seg us m b)) (ih : ∀ (vs : List Up) (a' m' b' : Nat), vs.length = us.length → vs.Perm us → pub ≤ a' → a' < m' → m' < b' → b' ≤ vs.length → b' - a' < b - a → Line (ltU c) (seg vs a' m') → Line (ltU c) (seg vs m' b') → Flat.Sp Try.prog 203 [.sl 0 vs.length 0 vs.length, vv (.int .i64 a'), vv (.int .i64 m'), vv (.int .i64 b'), .fn (.func 87) []] [(.arr 0, .arr 92 6 ((vs).map Up.row) pub)] (.tup []) [(.arr 0, .arr 92 6 ((mergeI (ltU c) vs a' m' b').map Up.row) pub)])  : Flat.Sp Try.prog 203 [.sl 0 us.length 0 us.length, vv (.int .i64 a), vv (.int .i64 m), vv (.int .i64 b), .fn (.func 87) []] [(.arr 0, .arr 92 6 ((us).map Up.row) pub)] (.tup []) [(.arr 0, .arr 92 6 ((mergeI (ltU c) us a m b).map Up.row) pub)] := by
  refine sk Try.func203 ?_
  intro F G hn hG
  obtain ⟨d0, hd0⟩ : ∃ d, d + a = m := ⟨m - a, by omega⟩
  have hw0 := wsub hd0 (by omega)
  have hd1 : ((d0 : Int) == 1) = false := by simp; omega
  obtain ⟨d2, hd2⟩ : ∃ d, d + m = b := ⟨b - m, by omega⟩
  have hw2 := wsub hd2 (by omega)
  have hd3 : ((d2 : Int) == 1) = false := by simp; omega
  obtain ⟨ab, hab⟩ : ∃ s, a + b = s := ⟨_, rfl⟩
  have hwab := wadd2 hab (by simp only [Flat.lim] at hus; omega)
  obtain ⟨hmu, hmf, hmw⟩ := half_of hab (show ab / 2 = mid by rw [← hab]; exact hmd) (by simp only [Flat.lim] at hus; omega)
  obtain ⟨nn, hnn⟩ : ∃ s, mid + m = s := ⟨_, rfl⟩
  have hwnn := wadd2 hnn (by simp only [Flat.lim] at hus; omega)
  obtain ⟨p, hp⟩ : ∃ p, p + 1 = nn := ⟨nn - 1, by omega⟩
  have hwp := wsub2 hp (by simp only [Flat.lim] at hus; omega)
  simp only [Int.natCast_one] at hwp
  have hbr : (m : Int) > (mid : Int) := by omega
  obtain ⟨lo, hlo⟩ : ∃ lo, lo + b = nn := ⟨nn - b, by omega⟩
  have hwlo := wsub2 hlo (by simp only [Flat.lim] at hus; omega)
  have hmono := q3_mono ho hl1 hl2 (lo := lo) (hi := mid) (p := p) (by omega) (by omega) Up.zero (by omega) (by omega) (by omega) (by omega)
  refine sq ?_
  refine sq ?_
  refine rg 1000 ?_
  refine pr [0, 1, 2, 3, 4, 10, 11, 12, 13, 14, 15, 16, 17, 18, 19, 20, 21, 22, 23, 24, 28, 29, 30, 31, 32, 33, 34, 35, 36, 37, 38, 39, 40, 41, 42, 43, 44, 45, 46, 47, 48, 49, 50, 51, 52, 53, 54, 55, 56, 57, 58, 59, 60, 61, 62, 63, 64, 65, 66, 67, 68, 69, 70, 71, 72, 73, 74, 75, 76, 77, 78, 79, 80, 81, 82, 83, 84, 85, 86, 87, 88, 89, 90, 91, 92, 93, 94, 95, 96, 97, 98, 99, 100, 101, 102, 103, 104, 105, 106, 107, 108, 109, 110, 111, 112, 113, 114, 115, 116, 117, 118, 119, 120, 121, 122, 123, 124, 125, 126, 127, 128, 129, 130, 131, 132, 133, 134, 135, 136, 137, 138, 139, 140, 141, 142, 143, 144, 145, 146, 147, 148, 149, 150, 151, 152, 153, 154, 155, 156, 157, 158, 159, 160, 161, 162, 163, 164, 165, 166, 167, 168, 169, 170, 171, 172, 173, 174, 175, 176, 177, 178, 179, 180, 181, 182, 183, 184, 185, 186, 187, 188, 189, 190, 192, 193, 194, 195, 196, 197, 198, 199, 200, 201, 202, 203, 204, 206, 207, 208, 209, 210, 211, 212, 213, 214, 215, 216, 217, 218] ?_
  refine ce ?_
  refine k_skip ?_
  refine sq ?_
  refine sq ?_
  refine rg 13000 ?_
  refine pr [0, 1, 2, 3, 4, 14, 15, 16, 17, 18, 19, 20, 21, 22, 23, 24, 80, 81, 82, 83, 84, 85, 86, 87, 88, 89, 90, 91, 92, 93, 94, 95, 96, 97, 98, 99, 100, 101, 102, 103, 104, 105, 106, 107, 108, 109, 110, 111, 112, 113, 114, 115, 116, 117, 118, 119, 120, 121, 122, 123, 124, 125, 126, 127, 128, 129, 130, 131, 132, 133, 134, 135, 136, 137, 138, 139, 140, 141, 142, 143, 144, 145, 146, 147, 148, 149, 150, 151, 152, 153, 154, 155, 156, 157, 158, 159, 160, 161, 162, 163, 164, 165, 166, 167, 168, 169, 170, 171, 172, 173, 174, 175, 176, 177, 178, 179, 180, 181, 182, 183, 184, 185, 186, 187, 188, 189, 190, 192, 193, 194, 195, 196, 197, 198, 199, 200, 201, 202, 203, 204, 206, 207, 208, 209, 210, 211, 212, 213, 214, 215, 216, 217, 218] ?_
  refine ce ?_
  refine k_skip ?_
  refine sq ?_
  refine rg 25000 ?_
  refine pr [0, 1, 2, 3, 4, 18, 19, 20, 21, 22, 23, 24, 135, 136, 137, 138, 139, 140, 141, 142, 143, 144, 145, 146, 147, 148, 149, 150, 151, 152, 153, 154, 155, 156, 157, 158, 159, 160, 161, 162, 163, 164, 165, 166, 167, 168, 169, 170, 171, 172, 173, 174, 175, 176, 177, 178, 179, 180, 181, 182, 183, 184, 185, 186, 187, 188, 189, 190, 192, 193, 194, 195, 196, 197, 198, 199, 200, 201, 202, 203, 204, 206, 207, 208, 209, 210, 211, 212, 213, 214, 215, 216, 217, 218] ?_
  refine sq ?_
  refine rg 26000 ?_
  refine pr [0, 1, 2, 3, 4, 18, 19, 20, 21, 22, 23, 24, 138, 139, 140, 141, 142, 143, 144, 145, 146, 147, 148, 149, 150, 151, 152, 153, 154, 155, 156, 157, 158, 159, 160, 161, 162, 163, 164, 165, 166, 167, 168, 169, 170, 171, 172, 173, 174, 175, 176, 177, 178, 179, 180, 181, 182, 183, 184, 185, 186, 187, 188, 189, 190, 192, 193, 194, 195, 196, 197, 198, 199, 200, 201, 202, 203, 204, 206, 207, 208, 209, 210, 211, 212, 213, 214, 215, 216, 217, 218] ?_
  refine sq ?_
  refine rg 27000 ?_
  refine pr [0, 1, 2, 3, 4, 18, 19, 20, 21, 22, 23, 24, 138, 139, 140, 141, 142, 143, 144, 145, 146, 147, 148, 149, 150, 151, 152, 153, 154, 155, 156, 157, 158, 159, 160, 161, 162, 163, 164, 165, 166, 167, 168, 169, 170, 171, 172, 173, 174, 175, 176, 177, 178, 179, 180, 181, 182, 183, 184, 185, 186, 187, 188, 189, 190, 192, 193, 194, 195, 196, 197, 198, 199, 200, 201, 202, 203, 204, 206, 207, 208, 209, 210, 211, 212, 213, 214, 215, 216, 217, 218] ?_
  refine sq ?_
  refine sq ?_
  refine rg 28000 ?_
  refine pr [0, 1, 2, 3, 4, 18, 19, 20, 21, 22, 23, 24, 140, 141, 142, 143, 144, 145, 146, 147, 148, 149, 150, 151, 152, 153, 154, 155, 156, 157, 158, 159, 160, 161, 162, 163, 164, 165, 166, 167, 168, 169, 170, 171, 172, 173, 174, 175, 176, 177, 178, 179, 180, 181, 182, 183, 184, 185, 186, 187, 188, 189, 190, 192, 193, 194, 195, 196, 197, 198, 199, 200, 201, 202, 203, 204, 206, 207, 208, 209, 210, 211, 212, 213, 214, 215, 216, 217, 218] ?_
  refine ct ?_
  refine sq ?_
  refine rg 29000 ?_
  refine pr [0, 1, 2, 3, 4, 18, 19, 20, 21, 22, 23, 24, 144, 147, 148, 149, 150, 151, 152, 153, 154, 155, 156, 157, 158, 159, 160, 161, 162, 163, 164, 165, 166, 167, 168, 169, 170, 171, 172, 173, 174, 175, 176, 177, 178, 179, 180, 181, 182, 183, 184, 185, 186, 187, 188, 189, 190, 192, 193, 194, 195, 196, 197, 198, 199, 200, 201, 202, 203, 204, 206, 207, 208, 209, 210, 211, 212, 213, 214, 215, 216, 217, 218] ?_
  refine rg 30000 ?_
  refine pr [0, 1, 2, 3, 4, 18, 19, 20, 21, 22, 23, 24, 147, 148, 149, 150, 151, 152, 153, 154, 155, 156, 157, 158, 159, 160, 161, 162, 163, 164, 165, 166, 167, 168, 169, 170, 171, 172, 173, 174, 175, 176, 177, 178, 179, 180, 181, 182, 183, 184, 185, 186, 187, 188, 189, 190, 192, 193, 194, 195, 196, 197, 198, 199, 200, 201, 202, 203, 204, 206, 207, 208, 209, 210, 211, 212, 213, 214, 215, 216, 217, 218] ?_
  refine sq ?_
  refine rg 33000 ?_
  refine pr [0, 1, 2, 3, 4, 18, 19, 20, 21, 22, 23, 24, 149, 150, 151, 152, 153, 154, 155, 156, 157, 158, 159, 160, 161, 162, 163, 164, 165, 166, 167, 168, 169, 170, 171, 172, 173, 174, 175, 176, 177, 178, 179, 180, 181, 182, 183, 184, 185, 186, 187, 188, 189, 190, 192, 193, 194, 195, 196, 197, 198, 199, 200, 201, 202, 203, 204, 206, 207, 208, 209, 210, 211, 212, 213, 214, 215, 216, 217, 218] ?_
  refine sq ?_
  refine k_block ?_
  refine k_loop (fun n l => ∃ i j : Nat, n = j - i ∧ BS (q3 (ltU c) us p Up.zero) lo mid i j ∧ l = [(.tmp 0, .av (.sl 0 us.length 0 us.length)), (.tmp 1, .av (vv (.int .i64 a))), (.tmp 2, .av (vv (.int .i64 m))), (.tmp 3, .av (vv (.int .i64 b))), (.tmp 4, .av (.fn (.func 87) [])), (.tmp 18, .av (vv (.int .i64 mid))), (.tmp 19, .av (vv (.int .i64 nn))), (.tmp 20, .av (vv (.int .i64 i))), (.tmp 21, .av (vv (.int .i64 j))), (.tmp 22, .av (vv (.int .i64 p))), (.arr 0, .arr 92 6 ((us).map Up.row) pub)]) (mid - lo) hG ⟨_, ⟨by simp, by simp, by simp⟩, lo, mid, rfl, .start (by omega), rfl⟩ ?_
  rintro n _ ⟨i, j, hin, hB, rfl⟩
  have hB1 := hB.a
  have hB2 := hB.b
  have hB3 := hB.c
  refine sq ?_
  refine sq ?_
  refine rg 34000 ?_
  refine pr [0, 1, 2, 3, 4, 18, 19, 20, 21, 22, 23, 24, 149, 150, 151, 152, 153, 154, 155, 156, 157, 158, 159, 160, 161, 162, 163, 164, 165, 166, 167, 168, 169, 170, 171, 172, 173, 174, 175, 176, 177, 178, 179, 180, 181, 182, 183, 184, 185, 186, 187, 188, 189, 190, 192, 193, 194, 195, 196, 197, 198, 199, 200, 201, 202, 203, 204, 206, 207, 208, 209, 210, 211, 212, 213, 214, 215, 216, 217, 218] ?_
  refine cd ?_ ?_
  · intro h151_1
    have hij : i < j := by simpa using h151_1
    obtain ⟨s, hs⟩ : ∃ s, i + j = s := ⟨_, rfl⟩
    obtain ⟨h, hh⟩ : ∃ h, s / 2 = h := ⟨_, rfl⟩
    have hws := wadd2 hs (by simp only [Flat.lim] at hus; omega)
    obtain ⟨hwu, hfd, hwh⟩ := half_of hs hh (by simp only [Flat.lim] at hus; omega)
    have hws1 := wrap_succ (show h < Flat.lim by omega)
    have hhl : h < us.length := by omega
    obtain ⟨w, hw⟩ : ∃ w, us[h]? = some w := ⟨_, List.getElem?_eq_getElem (by omega)⟩
    have hw3 : ∀ hh : h < us.length, us[h]'hh = w := fun hh => (List.getElem?_eq_some_iff.1 hw).2
    have hwm := List.mem_of_getElem? hw
    obtain ⟨r, hr⟩ : ∃ r, r + h = p := ⟨p - h, by omega⟩
    have hwr := wsub2 hr (by simp only [Flat.lim] at hus; omega)
    have hrl2 : r < us.length := by omega
    obtain ⟨y, hy⟩ : ∃ y, us[r]? = some y := ⟨_, List.getElem?_eq_getElem (by omega)⟩
    have hy2 : ∀ hh : r < us.length, us[r]'hh = y := fun hh => (List.getElem?_eq_some_iff.1 hy).2
    have hym := List.mem_of_getElem? hy
    have hgq : q3 (ltU c) us p Up.zero h = (ltU c) y w := by rw [q3, show p - h = r by omega, List.getD_eq_getElem?_getD, List.getD_eq_getElem?_getD, hw, hy]; rfl
    refine k_skip ?_
    refine k_block ?_
    refine sq ?_
    refine rg 35000 ?_
    refine pr [0, 1, 2, 3, 4, 18, 19, 20, 21, 22, 23, 24, 149, 150, 151, 152, 153, 154, 155, 156, 157, 158, 159, 160, 161, 162, 163, 164, 165, 166, 167, 168, 169, 170, 171, 172, 173, 174, 175, 176, 177, 178, 179, 180, 181, 182, 183, 184, 185, 186, 187, 188, 189, 190, 192, 193, 194, 195, 196, 197, 198, 199, 200, 201, 202, 203, 204, 206, 207, 208, 209, 210, 211, 212, 213, 214, 215, 216, 217, 218] ?_
    refine sq ?_
    refine dr ?_
    refine de 36000 ?_ (h := by simp [*, ltU]; exact is_rfl _)
    refine dc id (hc y hym w hwm) ?_ (hg := by simp [*, ltU]) (hf := by simp [*, ltU]; exact is_rfl _) (hx := by simp [*, ltU]; exact is_rfl _) (hargs := by simp [*, ltU]) (hB := by simp [*, ltU]) (hL := by simp [*, ltU]) (hd := by simp [*, ltU]; exact is_rfl _)
    refine de 36100 ?_ (h := by simp [*, ltU]; exact is_rfl _)
    refine dn ?_
    refine pr [0, 1, 2, 3, 4, 18, 19, 20, 21, 22, 23, 24, 149, 150, 151, 152, 153, 154, 155, 156, 157, 158, 159, 160, 161, 162, 163, 164, 165, 166, 167, 168, 169, 170, 171, 172, 173, 174, 175, 176, 177, 178, 179, 180, 181, 182, 183, 184, 185, 186, 187, 188, 189, 190, 192, 193, 194, 195, 196, 197, 198, 199, 200, 201, 202, 203, 204, 206, 207, 208, 209, 210, 211, 212, 213, 214, 215, 216, 217, 218] ?_
    refine cd ?_ ?_
    · intro h171_2
      have hBu := hB.up hmono (h := h) (by omega) (by omega) (by rw [hgq]; simpa [ltU] using h171_2)
      refine rg 37000 ?_
      refine k_nil ?_
      show AK _ _ _ _ _ _
      refine k_nil ?_
      first
        | refine ⟨j - (h + 1), by omega, _, ⟨?_, ?_, ?_⟩, h + 1, j, rfl, hBu, rfl⟩ <;> simp [*] <;> done
        | refine ⟨h - i, by omega, _, ⟨?_, ?_, ?_⟩, i, h, rfl, hBd, rfl⟩ <;> simp [*] <;> done
    · intro h171_2
      have hBd := hB.dn hmono (h := h) (by omega) (by omega) (by rw [hgq]; simpa [ltU] using h171_2)
      refine rg 38000 ?_
      refine k_nil ?_
      show AK _ _ _ _ _ _
      refine k_nil ?_
      first
        | refine ⟨j - (h + 1), by omega, _, ⟨?_, ?_, ?_⟩, h + 1, j, rfl, hBu, rfl⟩ <;> simp [*] <;> done
        | refine ⟨h - i, by omega, _, ⟨?_, ?_, ?_⟩, i, h, rfl, hBd, rfl⟩ <;> simp [*] <;> done
  · intro h151_1
    obtain rfl : i = j := by have : ¬ i < j := (by simpa using h151_1); have := hB.b; omega
    have hB1 := hB.a
    have hB3 := hB.c
    obtain ⟨e, he⟩ : ∃ e, e + i = nn := ⟨nn - i, by omega⟩
    have hwe := wsub2 he (by simp only [Flat.lim] at hus; omega)
    have hap := sym_apart ho hl1 hl2 (e := e) (by omega) (by omega) Up.zero (by omega) (by omega) (by omega) (by omega) (by omega) (by omega) (by omega) hB
    have hsp := sym_split (lt := (ltU c)) (us := us) (a := a) (s := i) (m := m) (e := e) (b := b) (mid := mid) (by omega) (by omega) (by omega) (by omega) (by omega) (by omega) hap.1 hap.2
    have hla := line_sub hl1 (s := i) (by omega) (by omega)
    have hlb := line_sub hl2 (s := e) (by omega) (by omega)
    have hrl0 : (rot us i m e).length = us.length := rot_len us (by omega) (by omega) (by omega)
    have hrl := hrl0
    have hrp : (rot us i m e).Perm us := rot_perm (by omega) (by omega)
    have hml : ∀ vs : List Up, (mergeI (ltU c) vs a i mid).length = vs.length := fun vs => mergeI_len (by omega) (by omega)
    have hml2 : ∀ vs : List Up, (mergeI (ltU c) vs mid e b).length = vs.length := fun vs => mergeI_len (by omega) (by omega)
    refine k_exit ?_
    show AK _ _ _ _ _ _
    refine sq ?_
    refine rg 39000 ?_
    refine pr [0, 1, 2, 3, 4, 18, 20, 24, 178, 179, 180, 181, 182, 183, 184, 185, 186, 187, 188, 189, 190, 192, 193, 194, 195, 196, 197, 198, 199, 200, 201, 202, 203, 204, 206, 207, 208, 209, 210, 211, 212, 213, 214, 215, 216, 217, 218] ?_
    refine sq ?_
    refine sq ?_
    refine rc 40000 ?_
    iterate 3 (first | refine gp 40250 ?_ | refine os ?_ | refine gt 40250 ?_)
    refine oe 40300 ?_
    refine on ?_
    refine pr [0, 1, 2, 3, 4, 18, 20, 24, 185, 186, 187, 188, 189, 190, 192, 193, 194, 195, 196, 197, 198, 199, 200, 201, 202, 203, 204, 206, 207, 208, 209, 210, 211, 212, 213, 214, 215, 216, 217, 218] ?_
    refine cd ?_ ?_
    · intro h185_3
      have hcc : i < m ∧ m < e := by simpa using h185_3
      have hg205 := fun (q1 : a < i) (q2 : i < mid) => ih (rot us i m e) a i mid (by simp [hrl]) hrp (by omega) q1 q2 (by first | (simp only [hrl]; omega) | omega) (by omega) (by rw [hsp.2.1]; exact hla.1) (by rw [hsp.2.2.1]; exact hlb.1)
      have hg219F := fun l1 l2 (q1 : mid < e) (q2 : e < b) => ih (rot us i m e) mid e b (by simp [hrl]) hrp (by omega) q1 q2 (by first | (simp only [hrl]; omega) | omega) (by omega) l1 l2
      have hg219T := fun l1 l2 (q1 : mid < e) (q2 : e < b) => ih (mergeI (ltU c) (rot us i m e) a i mid) mid e b (by simp [hml, hrl]) ((mergeI_perm (by omega) (by omega)).trans hrp) (by omega) q1 q2 (by simp only [hml, hrl]; omega) (by omega) l1 l2
      refine rc 41000 ?_
      refine oc id (spec209 us (by omega) pub i m e (by omega) (by omega) (by omega) (by omega) (.func 87)) ?_
      refine on ?_
      refine pr [0, 1, 3, 4, 18, 20, 24, 192, 193, 194, 195, 196, 197, 198, 199, 200, 201, 202, 203, 204, 206, 207, 208, 209, 210, 211, 212, 213, 214, 215, 216, 217, 218] ?_
      refine sq ?_
      refine sq ?_
      refine rc 42000 ?_
      iterate 3 (first | refine gp 42250 ?_ | refine os ?_ | refine gt 42250 ?_)
      refine oe 42300 ?_
      refine on ?_
      refine pr [0, 1, 3, 4, 18, 20, 24, 199, 200, 201, 202, 203, 204, 206, 207, 208, 209, 210, 211, 212, 213, 214, 215, 216, 217, 218] ?_
      refine cd ?_ ?_
      · intro h199_4
        have hcc2 : a < i ∧ i < mid := by simpa using h199_4
        have hg219 := hg219T (by rw [hsp.2.2.2.1]; exact hla.2) (by rw [hsp.2.2.2.2]; exact hlb.2)
        refine rc 43000 ?_
        refine oc id (hg205 hcc2.1 hcc2.2) ?_
        refine on ?_
        refine pr [0, 3, 4, 18, 24, 206, 207, 208, 209, 210, 211, 212, 213, 214, 215, 216, 217, 218] ?_
        refine sq ?_
        refine rc 44000 ?_
        iterate 3 (first | refine gp 44250 ?_ | refine os ?_ | refine gt 44250 ?_)
        refine oe 44300 ?_
        refine on ?_
        refine pr [0, 3, 4, 18, 24, 213, 214, 215, 216, 217, 218] ?_
        refine cd ?_ ?_
        · intro h213_5
          have hcc3 : mid < e ∧ e < b := by simpa using h213_5
          refine rc 45000 ?_
          refine oc id (hg219 hcc3.1 hcc3.2) ?_
          refine on ?_
          refine k_nil ?_
          show retQ _ _ _ _ _ _ _
          simp [*]
        · intro h213_5
          have hcc3 : ¬ (mid < e ∧ e < b) := by simpa using h213_5
          have hm2 : ∀ vs : List Up, mergeI (ltU c) vs mid e b = vs := by
            intro vs
            rcases Nat.lt_or_ge mid e with q | q
            · obtain rfl : e = b := by omega
              exact mergeI_nil2 (by omega)
            · obtain rfl : mid = e := by omega
              exact mergeI_nil1 (by omega)
          rw [hm2] at hsp
          have hfin := hsp.1.symm
          clear hsp
          refine k_skip ?_
          refine k_nil ?_
          show retQ _ _ _ _ _ _ _
          simp [*]
      · intro h199_4
        have hcc2 : ¬ (a < i ∧ i < mid) := by simpa using h199_4
        have hm1 : ∀ vs : List Up, mergeI (ltU c) vs a i mid = vs := by
          intro vs
          rcases Nat.lt_or_ge a i with q | q
          · obtain rfl : i = mid := by omega
            exact mergeI_nil2 (by omega)
          · obtain rfl : a = i := by omega
            exact mergeI_nil1 (by omega)
        rw [hm1] at hsp
        have hg219 := hg219F (by rw [hsp.2.2.2.1]; exact hla.2) (by rw [hsp.2.2.2.2]; exact hlb.2)
        refine k_skip ?_
        refine sq ?_
        refine rc 44000 ?_
        iterate 3 (first | refine gp 44250 ?_ | refine os ?_ | refine gt 44250 ?_)
        refine oe 44300 ?_
        refine on ?_
        refine pr [0, 3, 4, 18, 24, 213, 214, 215, 216, 217, 218] ?_
        refine cd ?_ ?_
        · intro h213_6
          have hcc3 : mid < e ∧ e < b := by simpa using h213_6
          refine rc 45000 ?_
          refine oc id (hg219 hcc3.1 hcc3.2) ?_
          refine on ?_
          refine k_nil ?_
          show retQ _ _ _ _ _ _ _
          simp [*]
        · intro h213_6
          have hcc3 : ¬ (mid < e ∧ e < b) := by simpa using h213_6
          have hm2 : ∀ vs : List Up, mergeI (ltU c) vs mid e b = vs := by
            intro vs
            rcases Nat.lt_or_ge mid e with q | q
            · obtain rfl : e = b := by omega
              exact mergeI_nil2 (by omega)
            · obtain rfl : mid = e := by omega
              exact mergeI_nil1 (by omega)
          rw [hm2] at hsp
          have hfin := hsp.1.symm
          clear hsp
          refine k_skip ?_
          refine k_nil ?_
          show retQ _ _ _ _ _ _ _
          simp [*]
    · intro h185_3
      have hcc : ¬ (i < m ∧ m < e) := by simpa using h185_3
      have hrot : rot us i m e = us := by
        rcases Nat.lt_or_ge i m with q | q
        · obtain rfl : m = e := by omega
          exact rot_self2 (by omega)
        · obtain rfl : i = m := by omega
          exact rot_self1 (by omega)

      rw [hrot] at hsp
      have hg205 := fun (q1 : a < i) (q2 : i < mid) => ih (us) a i mid (by simp [hrl]) (List.Perm.refl _) (by omega) q1 q2 (by first | (simp only [hrl]; omega) | omega) (by omega) (by rw [hsp.2.1]; exact hla.1) (by rw [hsp.2.2.1]; exact hlb.1)
      have hg219F := fun l1 l2 (q1 : mid < e) (q2 : e < b) => ih (us) mid e b (by simp [hrl]) (List.Perm.refl _) (by omega) q1 q2 (by first | (simp only [hrl]; omega) | omega) (by omega) l1 l2
      have hg219T := fun l1 l2 (q1 : mid < e) (q2 : e < b) => ih (mergeI (ltU c) (us) a i mid) mid e b (by simp [hml, hrl]) ((mergeI_perm (by omega) (by omega)).trans (List.Perm.refl _)) (by omega) q1 q2 (by simp only [hml, hrl]; omega) (by omega) l1 l2
      refine k_skip ?_
      refine sq ?_
      refine sq ?_
      refine rc 42000 ?_
      iterate 3 (first | refine gp 42250 ?_ | refine os ?_ | refine gt 42250 ?_)
      refine oe 42300 ?_
      refine on ?_
      refine pr [0, 1, 3, 4, 18, 20, 24, 199, 200, 201, 202, 203, 204, 206, 207, 208, 209, 210, 211, 212, 213, 214, 215, 216, 217, 218] ?_
      refine cd ?_ ?_
      · intro h199_7
        have hcc2 : a < i ∧ i < mid := by simpa using h199_7
        have hg219 := hg219T (by rw [hsp.2.2.2.1]; exact hla.2) (by rw [hsp.2.2.2.2]; exact hlb.2)
        refine rc 43000 ?_
        refine oc id (hg205 hcc2.1 hcc2.2) ?_
        refine on ?_
        refine pr [0, 3, 4, 18, 24, 206, 207, 208, 209, 210, 211, 212, 213, 214, 215, 216, 217, 218] ?_
        refine sq ?_
        refine rc 44000 ?_
        iterate 3 (first | refine gp 44250 ?_ | refine os ?_ | refine gt 44250 ?_)
        refine oe 44300 ?_
        refine on ?_
        refine pr [0, 3, 4, 18, 24, 213, 214, 215, 216, 217, 218] ?_
        refine cd ?_ ?_
        · intro h213_8
          have hcc3 : mid < e ∧ e < b := by simpa using h213_8
          refine rc 45000 ?_
          refine oc id (hg219 hcc3.1 hcc3.2) ?_
          refine on ?_
          refine k_nil ?_
          show retQ _ _ _ _ _ _ _
          simp [*]
        · intro h213_8
          have hcc3 : ¬ (mid < e ∧ e < b) := by simpa using h213_8
          have hm2 : ∀ vs : List Up, mergeI (ltU c) vs mid e b = vs := by
            intro vs
            rcases Nat.lt_or_ge mid e with q | q
            · obtain rfl : e = b := by omega
              exact mergeI_nil2 (by omega)
            · obtain rfl : mid = e := by omega
              exact mergeI_nil1 (by omega)
          rw [hm2] at hsp
          have hfin := hsp.1.symm
          clear hsp
          refine k_skip ?_
          refine k_nil ?_
          show retQ _ _ _ _ _ _ _
          simp [*]
      · intro h199_7
        have hcc2 : ¬ (a < i ∧ i < mid) := by simpa using h199_7
        have hm1 : ∀ vs : List Up, mergeI (ltU c) vs a i mid = vs := by
          intro vs
          rcases Nat.lt_or_ge a i with q | q
          · obtain rfl : i = mid := by omega
            exact mergeI_nil2 (by omega)
          · obtain rfl : a = i := by omega
            exact mergeI_nil1 (by omega)
        rw [hm1] at hsp
        have hg219 := hg219F (by rw [hsp.2.2.2.1]; exact hla.2) (by rw [hsp.2.2.2.2]; exact hlb.2)
        refine k_skip ?_
        refine sq ?_
        refine rc 44000 ?_
        iterate 3 (first | refine gp 44250 ?_ | refine os ?_ | refine gt 44250 ?_)
        refine oe 44300 ?_
        refine on ?_
        refine pr [0, 3, 4, 18, 24, 213, 214, 215, 216, 217, 218] ?_
        refine cd ?_ ?_
        · intro h213_9
          have hcc3 : mid < e ∧ e < b := by simpa using h213_9
          refine rc 45000 ?_
          refine oc id (hg219 hcc3.1 hcc3.2) ?_
          refine on ?_
          refine k_nil ?_
          show retQ _ _ _ _ _ _ _
          simp [*]
        · intro h213_9
          have hcc3 : ¬ (mid < e ∧ e < b) := by simpa using h213_9
          have hm2 : ∀ vs : List Up, mergeI (ltU c) vs mid e b = vs := by
            intro vs
            rcases Nat.lt_or_ge mid e with q | q
            · obtain rfl : e = b := by omega
              exact mergeI_nil2 (by omega)
            · obtain rfl : mid = e := by omega
              exact mergeI_nil1 (by omega)
          rw [hm2] at hsp
          have hfin := hsp.1.symm
          clear hsp
          refine k_skip ?_
          refine k_nil ?_
          show retQ _ _ _ _ _ _ _
          simp [*]

attribute [local simp] Up.row Up.av in
set_option maxHeartbeats 2000000 in
theorem spec203_g1 (c : Up → Up → Int) (ho : Ord (ltU c)) (us : List Up) (hus : us.length < Flat.lim) (hc : ∀ x ∈ us, ∀ y ∈ us, Flat.Sp Try.prog 87 [x.av, y.av] [] (vv (.int .i64 (c x y))) []) (pub a m b mid : Nat) (hpa : pub ≤ a) (ham : a + 1 < m) (hmb : m + 1 < b) (hb : b ≤ us.length) (hmd : (a + b) / 2 = mid) (hv : m ≤ mid) (hl1 : Line (ltU c) (seg us a m)) (hl2 : Line (ltU c) (seg us m b)) (ih : ∀ (vs : List Up) (a' m' b' : Nat), vs.length = us.length → vs.Perm us → pub ≤ a' → a' < m' → m' < b' → b' ≤ vs.length → b' - a' < b - a → Line (ltU c) (seg vs a' m') → Line (ltU c) (seg vs m' b') → Flat.Sp Try.prog 203 [.sl 0 vs.length 0 vs.length, vv (.int .i64 a'), vv (.int .i64 m'), vv (.int .i64 b'), .fn (.func 87) []] [(.arr 0, .arr 92 6 ((vs).map Up.row) pub)] (.tup []) [(.arr 0, .arr 92 6 ((mergeI (ltU c) vs a' m' b').map Up.row) pub)])  : Flat.Sp Try.prog 203 [.sl 0 us.length 0 us.length, vv (.int .i64 a), vv (.int .i64 m), vv (.int .i64 b), .fn (.func 87) []] [(.arr 0, .arr 92 6 ((us).map Up.row) pub)] (.tup []) [(.arr 0, .arr 92 6 ((mergeI (ltU c) us a m b).map Up.row) pub)] := by
  refine sk Try.func203 ?_
  intro F G hn hG
  obtain ⟨d0, hd0⟩ : ∃ d, d + a = m := ⟨m - a, by omega⟩
  have hw0 := wsub hd0 (by omega)
  have hd1 : ((d0 : Int) == 1) = false := by simp; omega
  obtain ⟨d2, hd2⟩ : ∃ d, d + m = b := ⟨b - m, by omega⟩
  have hw2 := wsub hd2 (by omega)
  have hd3 : ((d2 : Int) == 1) = false := by simp; omega
  obtain ⟨ab, hab⟩ : ∃ s, a + b = s := ⟨_, rfl⟩
  have hwab := wadd2 hab (by simp only [Flat.lim] at hus; omega)
  obtain ⟨hmu, hmf, hmw⟩ := half_of hab (show ab / 2 = mid by rw [← hab]; exact hmd) (by simp only [Flat.lim] at hus; omega)
  obtain ⟨nn, hnn⟩ : ∃ s, mid + m = s := ⟨_, rfl⟩
  have hwnn := wadd2 hnn (by simp only [Flat.lim] at hus; omega)
  obtain ⟨p, hp⟩ : ∃ p, p + 1 = nn := ⟨nn - 1, by omega⟩
  have hwp := wsub2 hp (by simp only [Flat.lim] at hus; omega)
  simp only [Int.natCast_one] at hwp
  have hbr : ¬ (m : Int) > (mid : Int) := by omega
  have hmono := q3_mono ho hl1 hl2 (lo := a) (hi := m) (p := p) (by omega) (by omega) Up.zero (by omega) (by omega) (by omega) (by omega)
  refine sq ?_
  refine sq ?_
  refine rg 1000 ?_
  refine pr [0, 1, 2, 3, 4, 10, 11, 12, 13, 14, 15, 16, 17, 18, 19, 20, 21, 22, 23, 24, 28, 29, 30, 31, 32, 33, 34, 35, 36, 37, 38, 39, 40, 41, 42, 43, 44, 45, 46, 47, 48, 49, 50, 51, 52, 53, 54, 55, 56, 57, 58, 59, 60, 61, 62, 63, 64, 65, 66, 67, 68, 69, 70, 71, 72, 73, 74, 75, 76, 77, 78, 79, 80, 81, 82, 83, 84, 85, 86, 87, 88, 89, 90, 91, 92, 93, 94, 95, 96, 97, 98, 99, 100, 101, 102, 103, 104, 105, 106, 107, 108, 109, 110, 111, 112, 113, 114, 115, 116, 117, 118, 119, 120, 121, 122, 123, 124, 125, 126, 127, 128, 129, 130, 131, 132, 133, 134, 135, 136, 137, 138, 139, 140, 141, 142, 143, 144, 145, 146, 147, 148, 149, 150, 151, 152, 153, 154, 155, 156, 157, 158, 159, 160, 161, 162, 163, 164, 165, 166, 167, 168, 169, 170, 171, 172, 173, 174, 175, 176, 177, 178, 179, 180, 181, 182, 183, 184, 185, 186, 187, 188, 189, 190, 192, 193, 194, 195, 196, 197, 198, 199, 200, 201, 202, 203, 204, 206, 207, 208, 209, 210, 211, 212, 213, 214, 215, 216, 217, 218] ?_
  refine ce ?_
  refine k_skip ?_
  refine sq ?_
  refine sq ?_
  refine rg 13000 ?_
  refine pr [0, 1, 2, 3, 4, 14, 15, 16, 17, 18, 19, 20, 21, 22, 23, 24, 80, 81, 82, 83, 84, 85, 86, 87, 88, 89, 90, 91, 92, 93, 94, 95, 96, 97, 98, 99, 100, 101, 102, 103, 104, 105, 106, 107, 108, 109, 110, 111, 112, 113, 114, 115, 116, 117, 118, 119, 120, 121, 122, 123, 124, 125, 126, 127, 128, 129, 130, 131, 132, 133, 134, 135, 136, 137, 138, 139, 140, 141, 142, 143, 144, 145, 146, 147, 148, 149, 150, 151, 152, 153, 154, 155, 156, 157, 158, 159, 160, 161, 162, 163, 164, 165, 166, 167, 168, 169, 170, 171, 172, 173, 174, 175, 176, 177, 178, 179, 180, 181, 182, 183, 184, 185, 186, 187, 188, 189, 190, 192, 193, 194, 195, 196, 197, 198, 199, 200, 201, 202, 203, 204, 206, 207, 208, 209, 210, 211, 212, 213, 214, 215, 216, 217, 218] ?_
  refine ce ?_
  refine k_skip ?_
  refine sq ?_
  refine rg 25000 ?_
  refine pr [0, 1, 2, 3, 4, 18, 19, 20, 21, 22, 23, 24, 135, 136, 137, 138, 139, 140, 141, 142, 143, 144, 145, 146, 147, 148, 149, 150, 151, 152, 153, 154, 155, 156, 157, 158, 159, 160, 161, 162, 163, 164, 165, 166, 167, 168, 169, 170, 171, 172, 173, 174, 175, 176, 177, 178, 179, 180, 181, 182, 183, 184, 185, 186, 187, 188, 189, 190, 192, 193, 194, 195, 196, 197, 198, 199, 200, 201, 202, 203, 204, 206, 207, 208, 209, 210, 211, 212, 213, 214, 215, 216, 217, 218] ?_
  refine sq ?_
  refine rg 26000 ?_
  refine pr [0, 1, 2, 3, 4, 18, 19, 20, 21, 22, 23, 24, 138, 139, 140, 141, 142, 143, 144, 145, 146, 147, 148, 149, 150, 151, 152, 153, 154, 155, 156, 157, 158, 159, 160, 161, 162, 163, 164, 165, 166, 167, 168, 169, 170, 171, 172, 173, 174, 175, 176, 177, 178, 179, 180, 181, 182, 183, 184, 185, 186, 187, 188, 189, 190, 192, 193, 194, 195, 196, 197, 198, 199, 200, 201, 202, 203, 204, 206, 207, 208, 209, 210, 211, 212, 213, 214, 215, 216, 217, 218] ?_
  refine sq ?_
  refine rg 27000 ?_
  refine pr [0, 1, 2, 3, 4, 18, 19, 20, 21, 22, 23, 24, 138, 139, 140, 141, 142, 143, 144, 145, 146, 147, 148, 149, 150, 151, 152, 153, 154, 155, 156, 157, 158, 159, 160, 161, 162, 163, 164, 165, 166, 167, 168, 169, 170, 171, 172, 173, 174, 175, 176, 177, 178, 179, 180, 181, 182, 183, 184, 185, 186, 187, 188, 189, 190, 192, 193, 194, 195, 196, 197, 198, 199, 200, 201, 202, 203, 204, 206, 207, 208, 209, 210, 211, 212, 213, 214, 215, 216, 217, 218] ?_
  refine sq ?_
  refine sq ?_
  refine rg 28000 ?_
  refine pr [0, 1, 2, 3, 4, 18, 19, 20, 21, 22, 23, 24, 140, 141, 142, 143, 144, 145, 146, 147, 148, 149, 150, 151, 152, 153, 154, 155, 156, 157, 158, 159, 160, 161, 162, 163, 164, 165, 166, 167, 168, 169, 170, 171, 172, 173, 174, 175, 176, 177, 178, 179, 180, 181, 182, 183, 184, 185, 186, 187, 188, 189, 190, 192, 193, 194, 195, 196, 197, 198, 199, 200, 201, 202, 203, 204, 206, 207, 208, 209, 210, 211, 212, 213, 214, 215, 216, 217, 218] ?_
  refine ce ?_
  refine sq ?_
  refine rg 31000 ?_
  refine pr [0, 1, 2, 3, 4, 18, 19, 20, 21, 22, 23, 24, 146, 147, 148, 149, 150, 151, 152, 153, 154, 155, 156, 157, 158, 159, 160, 161, 162, 163, 164, 165, 166, 167, 168, 169, 170, 171, 172, 173, 174, 175, 176, 177, 178, 179, 180, 181, 182, 183, 184, 185, 186, 187, 188, 189, 190, 192, 193, 194, 195, 196, 197, 198, 199, 200, 201, 202, 203, 204, 206, 207, 208, 209, 210, 211, 212, 213, 214, 215, 216, 217, 218] ?_
  refine rg 32000 ?_
  refine pr [0, 1, 2, 3, 4, 18, 19, 20, 21, 22, 23, 24, 147, 148, 149, 150, 151, 152, 153, 154, 155, 156, 157, 158, 159, 160, 161, 162, 163, 164, 165, 166, 167, 168, 169, 170, 171, 172, 173, 174, 175, 176, 177, 178, 179, 180, 181, 182, 183, 184, 185, 186, 187, 188, 189, 190, 192, 193, 194, 195, 196, 197, 198, 199, 200, 201, 202, 203, 204, 206, 207, 208, 209, 210, 211, 212, 213, 214, 215, 216, 217, 218] ?_
  refine sq ?_
  refine rg 33000 ?_
  refine pr [0, 1, 2, 3, 4, 18, 19, 20, 21, 22, 23, 24, 149, 150, 151, 152, 153, 154, 155, 156, 157, 158, 159, 160, 161, 162, 163, 164, 165, 166, 167, 168, 169, 170, 171, 172, 173, 174, 175, 176, 177, 178, 179, 180, 181, 182, 183, 184, 185, 186, 187, 188, 189, 190, 192, 193, 194, 195, 196, 197, 198, 199, 200, 201, 202, 203, 204, 206, 207, 208, 209, 210, 211, 212, 213, 214, 215, 216, 217, 218] ?_
  refine sq ?_
  refine k_block ?_
  refine k_loop (fun n l => ∃ i j : Nat, n = j - i ∧ BS (q3 (ltU c) us p Up.zero) a m i j ∧ l = [(.tmp 0, .av (.sl 0 us.length 0 us.length)), (.tmp 1, .av (vv (.int .i64 a))), (.tmp 2, .av (vv (.int .i64 m))), (.tmp 3, .av (vv (.int .i64 b))), (.tmp 4, .av (.fn (.func 87) [])), (.tmp 18, .av (vv (.int .i64 mid))), (.tmp 19, .av (vv (.int .i64 nn))), (.tmp 20, .av (vv (.int .i64 i))), (.tmp 21, .av (vv (.int .i64 j))), (.tmp 22, .av (vv (.int .i64 p))), (.arr 0, .arr 92 6 ((us).map Up.row) pub)]) (m - a) hG ⟨_, ⟨by simp, by simp, by simp⟩, a, m, rfl, .start (by omega), rfl⟩ ?_
  rintro n _ ⟨i, j, hin, hB, rfl⟩
  have hB1 := hB.a
  have hB2 := hB.b
  have hB3 := hB.c
  refine sq ?_
  refine sq ?_
  refine rg 34000 ?_
  refine pr [0, 1, 2, 3, 4, 18, 19, 20, 21, 22, 23, 24, 149, 150, 151, 152, 153, 154, 155, 156, 157, 158, 159, 160, 161, 162, 163, 164, 165, 166, 167, 168, 169, 170, 171, 172, 173, 174, 175, 176, 177, 178, 179, 180, 181, 182, 183, 184, 185, 186, 187, 188, 189, 190, 192, 193, 194, 195, 196, 197, 198, 199, 200, 201, 202, 203, 204, 206, 207, 208, 209, 210, 211, 212, 213, 214, 215, 216, 217, 218] ?_
  refine cd ?_ ?_
  · intro h151_1
    have hij : i < j := by simpa using h151_1
    obtain ⟨s, hs⟩ : ∃ s, i + j = s := ⟨_, rfl⟩
    obtain ⟨h, hh⟩ : ∃ h, s / 2 = h := ⟨_, rfl⟩
    have hws := wadd2 hs (by simp only [Flat.lim] at hus; omega)
    obtain ⟨hwu, hfd, hwh⟩ := half_of hs hh (by simp only [Flat.lim] at hus; omega)
    have hws1 := wrap_succ (show h < Flat.lim by omega)
    have hhl : h < us.length := by omega
    obtain ⟨w, hw⟩ : ∃ w, us[h]? = some w := ⟨_, List.getElem?_eq_getElem (by omega)⟩
    have hw3 : ∀ hh : h < us.length, us[h]'hh = w := fun hh => (List.getElem?_eq_some_iff.1 hw).2
    have hwm := List.mem_of_getElem? hw
    obtain ⟨r, hr⟩ : ∃ r, r + h = p := ⟨p - h, by omega⟩
    have hwr := wsub2 hr (by simp only [Flat.lim] at hus; omega)
    have hrl2 : r < us.length := by omega
    obtain ⟨y, hy⟩ : ∃ y, us[r]? = some y := ⟨_, List.getElem?_eq_getElem (by omega)⟩
    have hy2 : ∀ hh : r < us.length, us[r]'hh = y := fun hh => (List.getElem?_eq_some_iff.1 hy).2
    have hym := List.mem_of_getElem? hy
    have hgq : q3 (ltU c) us p Up.zero h = (ltU c) y w := by rw [q3, show p - h = r by omega, List.getD_eq_getElem?_getD, List.getD_eq_getElem?_getD, hw, hy]; rfl
    refine k_skip ?_
    refine k_block ?_
    refine sq ?_
    refine rg 35000 ?_
    refine pr [0, 1, 2, 3, 4, 18, 19, 20, 21, 22, 23, 24, 149, 150, 151, 152, 153, 154, 155, 156, 157, 158, 159, 160, 161, 162, 163, 164, 165, 166, 167, 168, 169, 170, 171, 172, 173, 174, 175, 176, 177, 178, 179, 180, 181, 182, 183, 184, 185, 186, 187, 188, 189, 190, 192, 193, 194, 195, 196, 197, 198, 199, 200, 201, 202, 203, 204, 206, 207, 208, 209, 210, 211, 212, 213, 214, 215, 216, 217, 218] ?_
    refine sq ?_
    refine dr ?_
    refine de 36000 ?_ (h := by simp [*, ltU]; exact is_rfl _)
    refine dc id (hc y hym w hwm) ?_ (hg := by simp [*, ltU]) (hf := by simp [*, ltU]; exact is_rfl _) (hx := by simp [*, ltU]; exact is_rfl _) (hargs := by simp [*, ltU]) (hB := by simp [*, ltU]) (hL := by simp [*, ltU]) (hd := by simp [*, ltU]; exact is_rfl _)
    refine de 36100 ?_ (h := by simp [*, ltU]; exact is_rfl _)
    refine dn ?_
    refine pr [0, 1, 2, 3, 4, 18, 19, 20, 21, 22, 23, 24, 149, 150, 151, 152, 153, 154, 155, 156, 157, 158, 159, 160, 161, 162, 163, 164, 165, 166, 167, 168, 169, 170, 171, 172, 173, 174, 175, 176, 177, 178, 179, 180, 181, 182, 183, 184, 185, 186, 187, 188, 189, 190, 192, 193, 194, 195, 196, 197, 198, 199, 200, 201, 202, 203, 204, 206, 207, 208, 209, 210, 211, 212, 213, 214, 215, 216, 217, 218] ?_
    refine cd ?_ ?_
    · intro h171_2
      have hBu := hB.up hmono (h := h) (by omega) (by omega) (by rw [hgq]; simpa [ltU] using h171_2)
      refine rg 37000 ?_
      refine k_nil ?_
      show AK _ _ _ _ _ _
      refine k_nil ?_
      first
        | refine ⟨j - (h + 1), by omega, _, ⟨?_, ?_, ?_⟩, h + 1, j, rfl, hBu, rfl⟩ <;> simp [*] <;> done
        | refine ⟨h - i, by omega, _, ⟨?_, ?_, ?_⟩, i, h, rfl, hBd, rfl⟩ <;> simp [*] <;> done
    · intro h171_2
      have hBd := hB.dn hmono (h := h) (by omega) (by omega) (by rw [hgq]; simpa [ltU] using h171_2)
      refine rg 38000 ?_
      refine k_nil ?_
      show AK _ _ _ _ _ _
      refine k_nil ?_
      first
        | refine ⟨j - (h + 1), by omega, _, ⟨?_, ?_, ?_⟩, h + 1, j, rfl, hBu, rfl⟩ <;> simp [*] <;> done
        | refine ⟨h - i, by omega, _, ⟨?_, ?_, ?_⟩, i, h, rfl, hBd, rfl⟩ <;> simp [*] <;> done
  · intro h151_1
    obtain rfl : i = j := by have : ¬ i < j := (by simpa using h151_1); have := hB.b; omega
    have hB1 := hB.a
    have hB3 := hB.c
    obtain ⟨e, he⟩ : ∃ e, e + i = nn := ⟨nn - i, by omega⟩
    have hwe := wsub2 he (by simp only [Flat.lim] at hus; omega)
    have hap := sym_apart ho hl1 hl2 (e := e) (by omega) (by omega) Up.zero (by omega) (by omega) (by omega) (by omega) (by omega) (by omega) (by omega) hB
    have hsp := sym_split (lt := (ltU c)) (us := us) (a := a) (s := i) (m := m) (e := e) (b := b) (mid := mid) (by omega) (by omega) (by omega) (by omega) (by omega) (by omega) hap.1 hap.2
    have hla := line_sub hl1 (s := i) (by omega) (by omega)
    have hlb := line_sub hl2 (s := e) (by omega) (by omega)
    have hrl0 : (rot us i m e).length = us.length := rot_len us (by omega) (by omega) (by omega)
    have hrl := hrl0
    have hrp : (rot us i m e).Perm us := rot_perm (by omega) (by omega)
    have hml : ∀ vs : List Up, (mergeI (ltU c) vs a i mid).length = vs.length := fun vs => mergeI_len (by omega) (by omega)
    have hml2 : ∀ vs : List Up, (mergeI (ltU c) vs mid e b).length = vs.length := fun vs => mergeI_len (by omega) (by omega)
    refine k_exit ?_
    show AK _ _ _ _ _ _
    refine sq ?_
    refine rg 39000 ?_
    refine pr [0, 1, 2, 3, 4, 18, 20, 24, 178, 179, 180, 181, 182, 183, 184, 185, 186, 187, 188, 189, 190, 192, 193, 194, 195, 196, 197, 198, 199, 200, 201, 202, 203, 204, 206, 207, 208, 209, 210, 211, 212, 213, 214, 215, 216, 217, 218] ?_
    refine sq ?_
    refine sq ?_
    refine rc 40000 ?_
    iterate 3 (first | refine gp 40250 ?_ | refine os ?_ | refine gt 40250 ?_)
    refine oe 40300 ?_
    refine on ?_
    refine pr [0, 1, 2, 3, 4, 18, 20, 24, 185, 186, 187, 188, 189, 190, 192, 193, 194, 195, 196, 197, 198, 199, 200, 201, 202, 203, 204, 206, 207, 208, 209, 210, 211, 212, 213, 214, 215, 216, 217, 218] ?_
    refine cd ?_ ?_
    · intro h185_3
      have hcc : i < m ∧ m < e := by simpa using h185_3
      have hg205 := fun (q1 : a < i) (q2 : i < mid) => ih (rot us i m e) a i mid (by simp [hrl]) hrp (by omega) q1 q2 (by first | (simp only [hrl]; omega) | omega) (by omega) (by rw [hsp.2.1]; exact hla.1) (by rw [hsp.2.2.1]; exact hlb.1)
      have hg219F := fun l1 l2 (q1 : mid < e) (q2 : e < b) => ih (rot us i m e) mid e b (by simp [hrl]) hrp (by omega) q1 q2 (by first | (simp only [hrl]; omega) | omega) (by omega) l1 l2
      have hg219T := fun l1 l2 (q1 : mid < e) (q2 : e < b) => ih (mergeI (ltU c) (rot us i m e) a i mid) mid e b (by simp [hml, hrl]) ((mergeI_perm (by omega) (by omega)).trans hrp) (by omega) q1 q2 (by simp only [hml, hrl]; omega) (by omega) l1 l2
      refine rc 41000 ?_
      refine oc id (spec209 us (by omega) pub i m e (by omega) (by omega) (by omega) (by omega) (.func 87)) ?_
      refine on ?_
      refine pr [0, 1, 3, 4, 18, 20, 24, 192, 193, 194, 195, 196, 197, 198, 199, 200, 201, 202, 203, 204, 206, 207, 208, 209, 210, 211, 212, 213, 214, 215, 216, 217, 218] ?_
      refine sq ?_
      refine sq ?_
      refine rc 42000 ?_
      iterate 3 (first | refine gp 42250 ?_ | refine os ?_ | refine gt 42250 ?_)
      refine oe 42300 ?_
      refine on ?_
      refine pr [0, 1, 3, 4, 18, 20, 24, 199, 200, 201, 202, 203, 204, 206, 207, 208, 209, 210, 211, 212, 213, 214, 215, 216, 217, 218] ?_
      refine cd ?_ ?_
      · intro h199_4
        have hcc2 : a < i ∧ i < mid := by simpa using h199_4
        have hg219 := hg219T (by rw [hsp.2.2.2.1]; exact hla.2) (by rw [hsp.2.2.2.2]; exact hlb.2)
        refine rc 43000 ?_
        refine oc id (hg205 hcc2.1 hcc2.2) ?_
        refine on ?_
        refine pr [0, 3, 4, 18, 24, 206, 207, 208, 209, 210, 211, 212, 213, 214, 215, 216, 217, 218] ?_
        refine sq ?_
        refine rc 44000 ?_
        iterate 3 (first | refine gp 44250 ?_ | refine os ?_ | refine gt 44250 ?_)
        refine oe 44300 ?_
        refine on ?_
        refine pr [0, 3, 4, 18, 24, 213, 214, 215, 216, 217, 218] ?_
        refine cd ?_ ?_
        · intro h213_5
          have hcc3 : mid < e ∧ e < b := by simpa using h213_5
          refine rc 45000 ?_
          refine oc id (hg219 hcc3.1 hcc3.2) ?_
          refine on ?_
          refine k_nil ?_
          show retQ _ _ _ _ _ _ _
          simp [*]
        · intro h213_5
          have hcc3 : ¬ (mid < e ∧ e < b) := by simpa using h213_5
          have hm2 : ∀ vs : List Up, mergeI (ltU c) vs mid e b = vs := by
            intro vs
            rcases Nat.lt_or_ge mid e with q | q
            · obtain rfl : e = b := by omega
              exact mergeI_nil2 (by omega)
            · obtain rfl : mid = e := by omega
              exact mergeI_nil1 (by omega)
          rw [hm2] at hsp
          have hfin := hsp.1.symm
          clear hsp
          refine k_skip ?_
          refine k_nil ?_
          show retQ _ _ _ _ _ _ _
          simp [*]
      · intro h199_4
        have hcc2 : ¬ (a < i ∧ i < mid) := by simpa using h199_4
        have hm1 : ∀ vs : List Up, mergeI (ltU c) vs a i mid = vs := by
          intro vs
          rcases Nat.lt_or_ge a i with q | q
          · obtain rfl : i = mid := by omega
            exact mergeI_nil2 (by omega)
          · obtain rfl : a = i := by omega
            exact mergeI_nil1 (by omega)
        rw [hm1] at hsp
        have hg219 := hg219F (by rw [hsp.2.2.2.1]; exact hla.2) (by rw [hsp.2.2.2.2]; exact hlb.2)
        refine k_skip ?_
        refine sq ?_
        refine rc 44000 ?_
        iterate 3 (first | refine gp 44250 ?_ | refine os ?_ | refine gt 44250 ?_)
        refine oe 44300 ?_
        refine on ?_
        refine pr [0, 3, 4, 18, 24, 213, 214, 215, 216, 217, 218] ?_
        refine cd ?_ ?_
        · intro h213_6
          have hcc3 : mid < e ∧ e < b := by simpa using h213_6
          refine rc 45000 ?_
          refine oc id (hg219 hcc3.1 hcc3.2) ?_
          refine on ?_
          refine k_nil ?_
          show retQ _ _ _ _ _ _ _
          simp [*]
        · intro h213_6
          have hcc3 : ¬ (mid < e ∧ e < b) := by simpa using h213_6
          have hm2 : ∀ vs : List Up, mergeI (ltU c) vs mid e b = vs := by
            intro vs
            rcases Nat.lt_or_ge mid e with q | q
            · obtain rfl : e = b := by omega
              exact mergeI_nil2 (by omega)
            · obtain rfl : mid = e := by omega
              exact mergeI_nil1 (by omega)
          rw [hm2] at hsp
          have hfin := hsp.1.symm
          clear hsp
          refine k_skip ?_
          refine k_nil ?_
          show retQ _ _ _ _ _ _ _
          simp [*]
    · intro h185_3
      have hcc : ¬ (i < m ∧ m < e) := by simpa using h185_3
      have hrot : rot us i m e = us := by
        rcases Nat.lt_or_ge i m with q | q
        · obtain rfl : m = e := by omega
          exact rot_self2 (by omega)
        · obtain rfl : i = m := by omega
          exact rot_self1 (by omega)

      rw [hrot] at hsp
      have hg205 := fun (q1 : a < i) (q2 : i < mid) => ih (us) a i mid (by simp [hrl]) (List.Perm.refl _) (by omega) q1 q2 (by first | (simp only [hrl]; omega) | omega) (by omega) (by rw [hsp.2.1]; exact hla.1) (by rw [hsp.2.2.1]; exact hlb.1)
      have hg219F := fun l1 l2 (q1 : mid < e) (q2 : e < b) => ih (us) mid e b (by simp [hrl]) (List.Perm.refl _) (by omega) q1 q2 (by first | (simp only [hrl]; omega) | omega) (by omega) l1 l2
      have hg219T := fun l1 l2 (q1 : mid < e) (q2 : e < b) => ih (mergeI (ltU c) (us) a i mid) mid e b (by simp [hml, hrl]) ((mergeI_perm (by omega) (by omega)).trans (List.Perm.refl _)) (by omega) q1 q2 (by simp only [hml, hrl]; omega) (by omega) l1 l2
      refine k_skip ?_
      refine sq ?_
      refine sq ?_
      refine rc 42000 ?_
      iterate 3 (first | refine gp 42250 ?_ | refine os ?_ | refine gt 42250 ?_)
      refine oe 42300 ?_
      refine on ?_
      refine pr [0, 1, 3, 4, 18, 20, 24, 199, 200, 201, 202, 203, 204, 206, 207, 208, 209, 210, 211, 212, 213, 214, 215, 216, 217, 218] ?_
      refine cd ?_ ?_
      · intro h199_7
        have hcc2 : a < i ∧ i < mid := by simpa using h199_7
        have hg219 := hg219T (by rw [hsp.2.2.2.1]; exact hla.2) (by rw [hsp.2.2.2.2]; exact hlb.2)
        refine rc 43000 ?_
        refine oc id (hg205 hcc2.1 hcc2.2) ?_
        refine on ?_
        refine pr [0, 3, 4, 18, 24, 206, 207, 208, 209, 210, 211, 212, 213, 214, 215, 216, 217, 218] ?_
        refine sq ?_
        refine rc 44000 ?_
        iterate 3 (first | refine gp 44250 ?_ | refine os ?_ | refine gt 44250 ?_)
        refine oe 44300 ?_
        refine on ?_
        refine pr [0, 3, 4, 18, 24, 213, 214, 215, 216, 217, 218] ?_
        refine cd ?_ ?_
        · intro h213_8
          have hcc3 : mid < e ∧ e < b := by simpa using h213_8
          refine rc 45000 ?_
          refine oc id (hg219 hcc3.1 hcc3.2) ?_
          refine on ?_
          refine k_nil ?_
          show retQ _ _ _ _ _ _ _
          simp [*]
        · intro h213_8
          have hcc3 : ¬ (mid < e ∧ e < b) := by simpa using h213_8
          have hm2 : ∀ vs : List Up, mergeI (ltU c) vs mid e b = vs := by
            intro vs
            rcases Nat.lt_or_ge mid e with q | q
            · obtain rfl : e = b := by omega
              exact mergeI_nil2 (by omega)
            · obtain rfl : mid = e := by omega
              exact mergeI_nil1 (by omega)
          rw [hm2] at hsp
          have hfin := hsp.1.symm
          clear hsp
          refine k_skip ?_
          refine k_nil ?_
          show retQ _ _ _ _ _ _ _
          simp [*]
      · intro h199_7
        have hcc2 : ¬ (a < i ∧ i < mid) := by simpa using h199_7
        have hm1 : ∀ vs : List Up, mergeI (ltU c) vs a i mid = vs := by
          intro vs
          rcases Nat.lt_or_ge a i with q | q
          · obtain rfl : i = mid := by omega
            exact mergeI_nil2 (by omega)
          · obtain rfl : a = i := by omega
            exact mergeI_nil1 (by omega)
        rw [hm1] at hsp
        have hg219 := hg219F (by rw [hsp.2.2.2.1]; exact hla.2) (by rw [hsp.2.2.2.2]; exact hlb.2)
        refine k_skip ?_
        refine sq ?_
        refine rc 44000 ?_
        iterate 3 (first | refine gp 44250 ?_ | refine os ?_ | refine gt 44250 ?_)
        refine oe 44300 ?_
        refine on ?_
        refine pr [0, 3, 4, 18, 24, 213, 214, 215, 216, 217, 218] ?_
        refine cd ?_ ?_
        · intro h213_9
          have hcc3 : mid < e ∧ e < b := by simpa using h213_9
          refine rc 45000 ?_
          refine oc id (hg219 hcc3.1 hcc3.2) ?_
          refine on ?_
          refine k_nil ?_
          show retQ _ _ _ _ _ _ _
          simp [*]
        · intro h213_9
          have hcc3 : ¬ (mid < e ∧ e < b) := by simpa using h213_9
          have hm2 : ∀ vs : List Up, mergeI (ltU c) vs mid e b = vs := by
            intro vs
            rcases Nat.lt_or_ge mid e with q | q
            · obtain rfl : e = b := by omega
              exact mergeI_nil2 (by omega)
            · obtain rfl : mid = e := by omega
              exact mergeI_nil1 (by omega)
          rw [hm2] at hsp
          have hfin := hsp.1.symm
          clear hsp
          refine k_skip ?_
          refine k_nil ?_
          show retQ _ _ _ _ _ _ _
          simp [*]

end Go.Proofs
end
section
set_option linter.unusedVariables false
set_option linter.unusedSimpArgs false
namespace Go.Proofs
open Go.Flat
set_option maxRecDepth 100000
set_option linter.unusedSimpArgs false
set_option linter.unusedVariables false
attribute [local simp] Bool.and_assoc Bool.or_assoc evalG evalX efD skF guardG guardL isCall stepL evalOp ev evs lk tmpsL app AV.ok fresh vv putCells insV ins del putL place Go.Flat.look fillC fillR getCells loadF storeF binF scalarBin intBin strBin isShift shiftBin unF lenF maxF minF rowsF appendF builtinF idxF natOf sliceP sliceF optEv Flat.cut overwrite toPV toPVs constAV scalarC scalarCs AV.cells TI.isAgg allSome andAll scalarEq buildable Go.Flat.lim retQ resL resAll resOne PartOf noTmp closedIn refs refs.refsL isSomeV hasB ids leA leA.leL renA renA.renL callB refsAll backL dropIds renS LiesAt injB ownB freshB memN locId insAll leA_refl leL_refl okS frzS frzA frzA.frzL evalD feet fine updCells cellsFrom memP footRf footWf noTmpU updIds opOps opIds idsA footR footW guardTs opTs dstTs callR callW renLoc renC inBlockQ thenQ Value.oneCell' IntKind.bits IntKind.signed

theorem wdbl {x g : Nat} (h : 2 * x = g) (hg : g ≤ 1125899906842624) : IntKind.i64.wrap (2 * (x : Int)) = (g : Int) ∧ IntKind.i64.wrap ((x : Int) * 2) = (g : Int) := by
  rw [w64, w64]; omega
theorem insI_len {c : Up → Up → Int} {us : List Up} {a b : Nat} (h1 : a ≤ b) (h2 : b ≤ us.length) : (insI c us a b).length = us.length := by
  simp only [insI, List.length_append, isrt_length, seg_len h2, List.length_take, List.length_drop]
  omega
theorem insI_perm {c : Up → Up → Int} {us : List Up} {a b : Nat} (h1 : a ≤ b) : (insI c us a b).Perm us := by
  have e : us = us.take a ++ (seg us a b ++ us.drop b) := by rw [← seg_drop h1, List.take_append_drop]
  refine List.Perm.trans ?_ (List.Perm.of_eq e.symm)
  exact List.Perm.append_left _ ((isrt_perm _).append_right _)

theorem spec203 (c : Up → Up → Int) (ho : Ord (ltU c)) (pub : Nat) : ∀ (N : Nat) (us : List Up), us.length < Flat.lim → (∀ x ∈ us, ∀ y ∈ us, Flat.Sp Try.prog 87 [x.av, y.av] [] (vv (.int .i64 (c x y))) []) → ∀ (a m b : Nat), pub ≤ a → a < m → m < b → b ≤ us.length → b - a = N → Line (ltU c) (seg us a m) → Line (ltU c) (seg us m b) →
    Flat.Sp Try.prog 203 [.sl 0 us.length 0 us.length, vv (.int .i64 a), vv (.int .i64 m), vv (.int .i64 b), .fn (.func 87) []] [(.arr 0, .arr 92 6 (us.map Up.row) pub)] (.tup []) [(.arr 0, .arr 92 6 ((mergeI (ltU c) us a m b).map Up.row) pub)] := by
  intro N
  induction N using Nat.strongRecOn with
  | ind N ih =>
    intro us hus hc a m b hpa ham hmb hb hN hl1 hl2
    by_cases h1 : a + 1 = m
    · exact spec203_one c ho us hus hc pub a m b hpa h1 hmb hb hl2
    · by_cases h2 : m + 1 = b
      · exact spec203_last c ho us hus hc pub a m b hpa (by omega) h2 hb hl1
      · have IH : ∀ (vs : List Up) (a' m' b' : Nat), vs.length = us.length → vs.Perm us → pub ≤ a' → a' < m' → m' < b' → b' ≤ vs.length → b' - a' < b - a → Line (ltU c) (seg vs a' m') → Line (ltU c) (seg vs m' b') → Flat.Sp Try.prog 203 [.sl 0 vs.length 0 vs.length, vv (.int .i64 a'), vv (.int .i64 m'), vv (.int .i64 b'), .fn (.func 87) []] [(.arr 0, .arr 92 6 (vs.map Up.row) pub)] (.tup []) [(.arr 0, .arr 92 6 ((mergeI (ltU c) vs a' m' b').map Up.row) pub)] :=
          fun vs a' m' b' e1 e2 e3 e4 e5 e6 e7 e8 e9 => ih (b' - a') (by omega) vs (by omega) (fun x hx y hy => hc x (e2.mem_iff.1 hx) y (e2.mem_iff.1 hy)) a' m' b' e3 e4 e5 e6 rfl e8 e9
        by_cases h3 : (a + b) / 2 < m
        · exact spec203_g0 c ho us hus hc pub a m b _ hpa (by omega) (by omega) hb rfl h3 hl1 hl2 IH
        · exact spec203_g1 c ho us hus hc pub a m b _ hpa (by omega) (by omega) hb rfl (by omega) hl1 hl2 IH

set_option maxHeartbeats 1000000 in
theorem spec186 (c : Up → Up → Int) (ho : Ord (ltU c)) (us : List Up) (hus : us.length < Flat.lim) (hc : ∀ x ∈ us, ∀ y ∈ us, Flat.Sp Try.prog 87 [x.av, y.av] [] (vv (.int .i64 (c x y))) [])  : Flat.Sp Try.prog 186 [.sl 0 us.length 0 us.length, vv (.int .i64 us.length), .fn (.func 87) []] [(.arr 0, .arr 92 6 ((us).map Up.row) 0)] (.tup []) [(.arr 0, .arr 92 6 ((isrt (ltU c) us).map Up.row) 0)] := by
  refine sk Try.func186 ?_
  intro F G hn hG
  have hblk : blkA (ltU c) 20 us = blkA (ltU c) 20 us := rfl
  clear hblk
  refine sq ?_
  refine rg 1000 ?_
  refine pr [0, 1, 2, 6, 7, 8, 9, 10, 11, 12, 13, 14, 15, 16, 17, 19, 20, 21, 22, 23, 24, 25, 26, 28, 29, 30, 31, 32, 33, 34, 35, 36, 37, 38, 39, 40, 41, 42, 44, 45, 46, 47, 48, 49, 50, 51, 52, 53, 54, 55, 56, 57, 58, 59, 61, 62] ?_
  refine sq ?_
  refine rg 2000 ?_
  refine pr [0, 1, 2, 6, 7, 8, 9, 11, 12, 13, 14, 15, 16, 17, 19, 20, 21, 22, 23, 24, 25, 26, 28, 29, 30, 31, 32, 33, 34, 35, 36, 37, 38, 39, 40, 41, 42, 44, 45, 46, 47, 48, 49, 50, 51, 52, 53, 54, 55, 56, 57, 58, 59, 61, 62] ?_
  refine sq ?_
  refine k_block ?_
  refine k_loop (fun n l => ∃ (a b : Nat) (L cur : List Up), n + a = us.length ∧ (L.length = a ∧ a + 20 = b ∧ a ≤ us.length ∧ L ++ us.drop a = cur ∧ cur.length = us.length ∧ cur.Perm us ∧ L ++ blkA (ltU c) 20 (us.drop a) = blkA (ltU c) 20 us) ∧ l = [(.tmp 0, .av (.sl 0 us.length 0 us.length)), (.tmp 1, .av (vv (.int .i64 us.length))), (.tmp 2, .av (.fn (.func 87) [])), (.tmp 6, .av (vv (.int .i64 20))), (.tmp 7, .av (vv (.int .i64 a))), (.tmp 8, .av (vv (.int .i64 b))), (.arr 0, .arr 92 6 ((cur).map Up.row) 0)]) (us.length) hG ⟨_, ⟨by simp, by simp, by simp⟩, 0, 20, [], us, by omega, ⟨rfl, rfl, Nat.zero_le _, rfl, rfl, .refl _, rfl⟩, rfl⟩ ?_
  rintro n _ ⟨a, b, L, cur, hna, ⟨hLl, hab, hau, hLc, hcl, hpm, hLb⟩, rfl⟩
  have hcp : ∀ x ∈ cur, ∀ y ∈ cur, Flat.Sp Try.prog 87 [x.av, y.av] [] (vv (.int .i64 (c x y))) [] := fun x hx y hy => hc x (hpm.mem_iff.1 hx) y (hpm.mem_iff.1 hy)
  have hwb := wadd2 (x := b) (y := 20) rfl (by simp only [Flat.lim] at hus; omega)
  have hwb : IntKind.i64.wrap ((b : Int) + 20) = ((b + 20 : Nat) : Int) := hwb
  refine sq ?_
  refine sq ?_
  refine rg 3000 ?_
  refine pr [0, 1, 2, 6, 7, 8, 9, 11, 12, 13, 14, 15, 16, 17, 19, 20, 21, 22, 23, 24, 25, 26, 28, 29, 30, 31, 32, 33, 34, 35, 36, 37, 38, 39, 40, 41, 42, 44, 45, 46, 47, 48, 49, 50, 51, 52, 53, 54, 55, 56, 57, 58, 59, 61, 62] ?_
  refine cd ?_ ?_
  · intro h13_1
    have hb : b ≤ us.length := by have := h13_1; simp at this; omega
    obtain ⟨L1, hL1, hL2, hL3⟩ := ins_blk ho (B := 20) (by omega) hLl hLc.symm hLb b (by omega) hb
    have hL2 : insI c cur a b = L1 ++ us.drop b := hL2
    have hab2 : a < b := by omega
    have hil : (insI c cur a b).length = cur.length := insI_len (by omega) (by omega)
    have hip : (insI c cur a b).Perm cur := insI_perm (by omega)
    refine k_skip ?_
    refine k_block ?_
    refine sq ?_
    refine rc 4000 ?_
    refine oc id (spec202 c ho cur (by omega) hcp 0 a b (Nat.zero_le _) (by omega) (by omega)) ?_
    refine on ?_
    refine pr [0, 1, 2, 6, 7, 8, 9, 11, 12, 13, 14, 15, 16, 17, 19, 20, 21, 22, 23, 24, 25, 26, 28, 29, 30, 31, 32, 33, 34, 35, 36, 37, 38, 39, 40, 41, 42, 44, 45, 46, 47, 48, 49, 50, 51, 52, 53, 54, 55, 56, 57, 58, 59, 61, 62] ?_
    refine sq ?_
    refine rg 5000 ?_
    refine pr [0, 1, 2, 6, 7, 8, 9, 11, 12, 13, 14, 15, 16, 17, 19, 20, 21, 22, 23, 24, 25, 26, 28, 29, 30, 31, 32, 33, 34, 35, 36, 37, 38, 39, 40, 41, 42, 44, 45, 46, 47, 48, 49, 50, 51, 52, 53, 54, 55, 56, 57, 58, 59, 61, 62] ?_
    refine rg 6000 ?_
    refine k_nil ?_
    show AK _ _ _ _ _ _
    refine k_nil ?_
    refine ⟨n - 20, by omega, _, ⟨?_, ?_, ?_⟩, b, b + 20, L1, insI c cur a b, by omega, ⟨hL1, rfl, by omega, hL2.symm, by rw [hil]; exact hcl, hip.trans hpm, hL3⟩, rfl⟩ <;> simp [*]
  · intro h13_1
    have hb : us.length < b := by have := h13_1; simp at this; omega
    have hlast : (if a < us.length then insI c cur a us.length else cur) = blkA (ltU c) 20 us := by
      by_cases q : a < us.length
      · rw [if_pos q]; exact ins_last ho (B := 20) (by omega) hLl (by omega) hLc.symm hLb (by omega)
      · rw [if_neg q, ← hLb, ← hLc]; congr 1; rw [List.drop_eq_nil_of_le (by omega)]; rfl
    refine k_exit ?_
    show AK _ _ _ _ _ _
    refine sq ?_
    refine rc 7000 ?_
    refine oc id (spec202 c ho cur (by omega) hcp 0 a us.length (Nat.zero_le _) (by omega) (by omega)) ?_
    refine on ?_
    refine pr [0, 1, 2, 6, 7, 8, 9, 28, 29, 30, 31, 32, 33, 34, 35, 36, 37, 38, 39, 40, 41, 42, 44, 45, 46, 47, 48, 49, 50, 51, 52, 53, 54, 55, 56, 57, 58, 59, 61, 62] ?_
    refine k_block ?_
    refine k_loop (fun n l => ∃ B : Nat, n = us.length - B ∧ (0 < B ∧ B ≤ 2 * us.length + 20) ∧ l = [(.tmp 0, .av (.sl 0 us.length 0 us.length)), (.tmp 1, .av (vv (.int .i64 us.length))), (.tmp 2, .av (.fn (.func 87) [])), (.tmp 6, .av (vv (.int .i64 B))), (.arr 0, .arr 92 6 ((blkA (ltU c) B us).map Up.row) 0)]) (us.length - 20) hG ⟨_, ⟨by simp [*], by simp, by simp⟩, 20, rfl, ⟨by omega, by omega⟩, rfl⟩ ?_
    rintro n2 _ ⟨B, hnB, ⟨hB0, hBl⟩, rfl⟩
    refine sq ?_
    refine sq ?_
    refine rg 8000 ?_
    refine pr [0, 1, 2, 6, 7, 8, 9, 28, 29, 30, 31, 32, 33, 34, 35, 36, 37, 38, 39, 40, 41, 42, 44, 45, 46, 47, 48, 49, 50, 51, 52, 53, 54, 55, 56, 57, 58, 59, 61, 62] ?_
    refine cd ?_ ?_
    · intro h30_2
      have hB : B < us.length := by have := h30_2; simp at this; omega
      obtain ⟨B2, hB2⟩ : ∃ B2, 2 * B = B2 := ⟨_, rfl⟩
      obtain ⟨hw2, hw3⟩ := wdbl hB2 (by simp only [Flat.lim] at hus; omega)
      refine k_skip ?_
      refine k_block ?_
      refine sq ?_
      refine rg 9000 ?_
      refine pr [0, 1, 2, 6, 7, 8, 9, 28, 29, 30, 31, 32, 33, 34, 35, 36, 37, 38, 39, 40, 41, 42, 44, 45, 46, 47, 48, 49, 50, 51, 52, 53, 54, 55, 56, 57, 58, 59, 61, 62] ?_
      refine sq ?_
      refine k_block ?_
      refine k_loop (fun n l => ∃ (a b : Nat) (L cur : List Up), n = us.length - a ∧ (L.length = a ∧ a + B2 = b ∧ a ≤ us.length ∧ L ++ blkA (ltU c) B (us.drop a) = cur ∧ cur.length = us.length ∧ cur.Perm us ∧ L ++ blkA (ltU c) B2 (us.drop a) = blkA (ltU c) B2 us) ∧ l = [(.tmp 0, .av (.sl 0 us.length 0 us.length)), (.tmp 1, .av (vv (.int .i64 us.length))), (.tmp 2, .av (.fn (.func 87) [])), (.tmp 6, .av (vv (.int .i64 B))), (.tmp 7, .av (vv (.int .i64 a))), (.tmp 8, .av (vv (.int .i64 b))), (.arr 0, .arr 92 6 ((cur).map Up.row) 0)]) (us.length) hG ⟨_, ⟨by simp [*], by simp, by simp⟩, 0, B2, [], blkA (ltU c) B us, by omega, ⟨rfl, by omega, Nat.zero_le _, rfl, (blkA_perm hB0 us).length_eq, blkA_perm hB0 us, rfl⟩, rfl⟩ ?_
      rintro n3 _ ⟨a, b, L, cur, hna2, ⟨hLl, hab, hau, hLc, hcl, hpm, hLb⟩, rfl⟩
      have hcp : ∀ x ∈ cur, ∀ y ∈ cur, Flat.Sp Try.prog 87 [x.av, y.av] [] (vv (.int .i64 (c x y))) [] := fun x hx y hy => hc x (hpm.mem_iff.1 hx) y (hpm.mem_iff.1 hy)
      obtain ⟨m, hm⟩ : ∃ m, a + B = m := ⟨_, rfl⟩
      have hwm := wadd2 hm (by simp only [Flat.lim] at hus; omega)
      obtain ⟨b2, hb2⟩ : ∃ b2, b + B2 = b2 := ⟨_, rfl⟩
      have hwb2 := wadd2 hb2 (by simp only [Flat.lim] at hus; omega)
      refine sq ?_
      refine sq ?_
      refine rg 10000 ?_
      refine pr [0, 1, 2, 6, 7, 8, 9, 28, 29, 30, 31, 32, 33, 34, 35, 36, 37, 38, 39, 40, 41, 42, 44, 45, 46, 47, 48, 49, 50, 51, 52, 53, 54, 55, 56, 57, 58, 59, 61, 62] ?_
      refine cd ?_ ?_
      · intro h35_3
        have hb : b ≤ us.length := by have := h35_3; simp at this; omega
        obtain ⟨⟨L1, hL1, hL2, hL3⟩, hl1, hl2⟩ := mrg_blk ho hB0 hLl hau hLc.symm (by rw [hB2]; exact hLb) m b hm.symm (by omega) hb
        rw [hB2] at hL3
        have hil : (mergeI (ltU c) cur a m b).length = cur.length := mergeI_len (by omega) (by omega)
        have hip : (mergeI (ltU c) cur a m b).Perm cur := mergeI_perm (by omega) (by omega)
        refine k_skip ?_
        refine k_block ?_
        refine sq ?_
        refine rc 11000 ?_
        refine oc id (spec203 c ho 0 _ cur (by omega) hcp a m b (Nat.zero_le _) (by omega) (by omega) (by omega) rfl hl1 hl2) ?_
        refine on ?_
        refine pr [0, 1, 2, 6, 7, 8, 9, 28, 29, 30, 31, 32, 33, 34, 35, 36, 37, 38, 39, 40, 41, 42, 44, 45, 46, 47, 48, 49, 50, 51, 52, 53, 54, 55, 56, 57, 58, 59, 61, 62] ?_
        refine sq ?_
        refine rg 12000 ?_
        refine pr [0, 1, 2, 6, 7, 8, 9, 28, 29, 30, 31, 32, 33, 34, 35, 36, 37, 38, 39, 40, 41, 42, 44, 45, 46, 47, 48, 49, 50, 51, 52, 53, 54, 55, 56, 57, 58, 59, 61, 62] ?_
        refine rg 13000 ?_
        refine k_nil ?_
        show AK _ _ _ _ _ _
        refine k_nil ?_
        refine ⟨us.length - b, by omega, _, ⟨?_, ?_, ?_⟩, b, b2, L1, mergeI (ltU c) cur a m b, rfl, ⟨hL1, hb2, by omega, hL2.symm, by rw [hil]; exact hcl, hip.trans hpm, hL3⟩, rfl⟩ <;> simp [*]
      · intro h35_3
        have hb : us.length < b := by have := h35_3; simp at this; omega
        refine k_exit ?_
        show AK _ _ _ _ _ _
        refine sq ?_
        refine sq ?_
        refine rg 14000 ?_
        refine pr [0, 1, 2, 6, 7, 8, 9, 28, 29, 30, 31, 32, 33, 34, 35, 36, 37, 38, 39, 40, 41, 42, 44, 45, 46, 47, 48, 49, 50, 51, 52, 53, 54, 55, 56, 57, 58, 59, 61, 62] ?_
        refine sq ?_
        refine rg 15000 ?_
        refine pr [0, 1, 2, 6, 7, 8, 9, 28, 29, 30, 31, 32, 33, 34, 35, 36, 37, 38, 39, 40, 41, 42, 44, 45, 46, 47, 48, 49, 50, 51, 52, 53, 54, 55, 56, 57, 58, 59, 61, 62] ?_
        refine cd ?_ ?_
        · intro h54_4
          have hmu : m < us.length := by have := h54_4; simp at this; omega
          obtain ⟨hfin, hl1, hl2⟩ := mrg_last ho hB0 hLl hau hLc.symm (by rw [hB2]; exact hLb) m hm.symm hmu (by omega)
          rw [hB2] at hfin
          refine rc 16000 ?_
          refine oc id (spec203 c ho 0 _ cur (by omega) hcp a m us.length (Nat.zero_le _) (by omega) hmu (by omega) rfl hl1 hl2) ?_
          refine on ?_
          refine pr [0, 1, 2, 6, 7, 8, 9, 28, 29, 30, 31, 32, 33, 34, 35, 36, 37, 38, 39, 40, 41, 42, 44, 45, 46, 47, 48, 49, 50, 51, 52, 53, 54, 55, 56, 57, 58, 59, 61, 62] ?_
          refine rg 17000 ?_
          refine k_nil ?_
          show AK _ _ _ _ _ _
          refine k_nil ?_
          refine ⟨us.length - B2, by omega, _, ⟨?_, ?_, ?_⟩, B2, rfl, ⟨by omega, by omega⟩, rfl⟩ <;> simp [*]
        · intro h54_4
          have hmu : us.length ≤ m := by have := h54_4; simp at this; omega
          have hfin := mrg_none ho hB0 hau hLc.symm (by rw [hB2]; exact hLb) (by omega)
          rw [hB2] at hfin
          refine k_skip ?_
          refine rg 17000 ?_
          refine k_nil ?_
          show AK _ _ _ _ _ _
          refine k_nil ?_
          refine ⟨us.length - B2, by omega, _, ⟨?_, ?_, ?_⟩, B2, rfl, ⟨by omega, by omega⟩, rfl⟩ <;> simp [*]
    · intro h30_2
      have hB : us.length ≤ B := by have := h30_2; simp at this; omega
      have hfin := blkA_short (lt := (ltU c)) hB0 hB
      refine k_exit ?_
      show AK _ _ _ _ _ _
      refine k_nil ?_
      show retQ _ _ _ _ _ _ _
      simp [*]

theorem spec142 (c : Up → Up → Int) (ho : Ord (ltU c)) (us : List Up) (hus : us.length < Flat.lim) (hc : ∀ x ∈ us, ∀ y ∈ us, Flat.Sp Try.prog 87 [x.av, y.av] [] (vv (.int .i64 (c x y))) [])  : Flat.Sp Try.prog 142 [.sl 0 us.length 0 us.length, .fn (.func 87) []] [(.arr 0, .arr 92 6 ((us).map Up.row) 0)] (.tup []) [(.arr 0, .arr 92 6 ((isrt (ltU c) us).map Up.row) 0)] := by
  refine sk Try.func142 ?_
  intro F G hn hG
  refine rc 1000 ?_
  refine oc id (spec186 c ho us hus hc) ?_
  refine on ?_
  refine k_nil ?_
  show retQ _ _ _ _ _ _ _
  simp [*]

end Go.Proofs
end
