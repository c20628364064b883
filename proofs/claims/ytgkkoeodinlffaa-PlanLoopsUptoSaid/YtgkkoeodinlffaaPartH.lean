/-
  Contracts: expressions: what one comes to.
  Contracts: expressions: what one comes to, the second part.
  Contracts: expressions: what one comes to, the third part.
  Contracts: expressions: what one comes to; the law functions of chapter 08.
  Plain laws of expressions: how many there are, sums, what an expression of a type comes to.
  Plain laws of sums of two words.
-/
import Derived.Test.YtgkkoeodinlffaaPartE
section
set_option linter.unusedVariables false
set_option linter.unusedSimpArgs false
namespace Go.Proofs
open Go.Flat
set_option maxRecDepth 100000
set_option linter.unusedSimpArgs false
set_option linter.unusedVariables false
attribute [local simp] Bool.and_assoc Bool.or_assoc evalG evalX efD skF guardG guardL isCall stepL evalOp ev evs lk tmpsL app AV.ok fresh vv putCells insV ins del putL place Go.Flat.look fillC fillR getCells loadF storeF binF scalarBin intBin strBin isShift shiftBin unF lenF maxF minF rowsF appendF builtinF idxF natOf sliceP sliceF optEv Flat.cut overwrite toPV toPVs constAV scalarC scalarCs AV.cells TI.isAgg allSome andAll scalarEq buildable Go.Flat.lim retQ resL resAll resOne PartOf noTmp closedIn refs refs.refsL isSomeV hasB ids leA leA.leL renA renA.renL callB refsAll backL dropIds renS LiesAt injB ownB freshB memN locId insAll leA_refl leL_refl okS frzS frzA frzA.frzL evalD feet fine updCells cellsFrom memP footRf footWf noTmpU updIds opOps opIds idsA footR footW guardTs opTs dstTs callR callW renLoc renC inBlockQ thenQ Value.oneCell' IntKind.bits IntKind.signed
def numF (f : Int → Val × Int) (w : Int) : Int × Int := ((f w).1.n, unlessF (f w).2 (!(f w).1.t) 11)
def fitF (r : Int × Int) (w : Int) : Val × Int := (Val.num r.1, unlessF w (r.2 == 0) r.2)
def bitV (b : Bool) : Val := Val.num (if b then 1 else 0)
def sumR (op n : Int) (b e : Int → Val × Int) (w : Int) : Val × Int :=
  if w != 0 then (⟨false, 0, ⟨#[]⟩⟩, w)
  else if op == 11 then (bitV (n == 0), w)
  else if op == 6 then fitF (lessR 0 n) w
  else if op == 9 then (if n != 0 then (bitV ((numF b w).1 != 0), (numF b w).2) else (bitV false, w))
  else if op == 10 then (if n != 0 then (bitV true, w) else (bitV ((numF b w).1 != 0), (numF b w).2))
  else if op == 12 then (if n != 0 then b w else e w)
  else if op == 3 then fitF (tfit (tsum [n, (numF b w).1])) (numF b w).2
  else if op == 4 then fitF (lessR n (numF b w).1) (numF b w).2
  else fitF (timesR n (numF b w).1) (numF b w).2
def noF : Int → Val × Int := fun w => (⟨false, 0, ⟨#[]⟩⟩, w)
def stepR (row : List Val) (op col : Int) (c : Val) (fs : List (Int → Val × Int)) (w : Int) : Val × Int :=
  if w != 0 then (⟨false, 0, ⟨#[]⟩⟩, w)
  else if op == 2 then (c, w)
  else if op == 1 then (if decide (col < 0) || decide ((row.length : Int) ≤ col) then (⟨false, 0, ⟨#[]⟩⟩, unlessF w false 1) else (row.getD col.toNat ⟨false, 0, ⟨#[]⟩⟩, w))
  else if op == 7 || op == 8 then
    let x := fs.getD 0 noF w
    let y := fs.getD 1 noF x.2
    (bitV ((decide (x.1.cmp y.1 < 0) && op == 7) || (x.1.cmp y.1 == 0 && op == 8)), unlessF y.2 (x.1.t == y.1.t) 11)
  else sumR op (numF (fs.getD 0 noF) w).1 (fs.getD 1 noF) (fs.getD 2 noF) (numF (fs.getD 0 noF) w).2
mutual
def reck (row : List Val) : E → Int → Val × Int
  | .mk op col c kids => stepR row op col c (recks row kids)
def recks (row : List Val) : List E → List (Int → Val × Int)
  | [] => []
  | e :: r => reck row e :: recks row r
end

attribute [local simp] E.av in
theorem spec55_err (row : List Val) (hrow : row.length ≤ Flat.lim) (op col : Int) (c : Val) (kids : List E) (w : Int) (hw : (w != 0) = true) : Flat.Sp Try.prog 55 [.ptr 0 0, (E.mk op col c kids).av] [(.var 0, .n 2), (.cell 0 0, .av (vv (.int .i64 w))), (.cell 0 1, .av (.p (.ps (row.map Val.row))))] ((reck row (E.mk op col c kids) w).1.av) [(.var 0, .n 2), (.cell 0 0, .av (vv (.int .i64 (reck row (E.mk op col c kids) w).2))), (.cell 0 1, .av (.p (.ps (row.map Val.row))))] := by
  refine sk Try.func55 ?_
  intro F G hn hG
  refine sq ?_
  refine rg 1000 ?_
  refine pr [0, 3, 4, 5, 6, 7, 8, 9, 10, 11, 12, 13, 14, 15, 16, 17, 18, 19, 20, 21, 22, 23, 24, 25, 26, 27, 28, 29, 30, 31, 32, 33, 34, 35, 36, 37, 38, 39, 40, 41, 43, 44, 45, 46, 47, 48, 49, 50, 51, 52, 53, 54, 55, 56, 57, 58, 59, 60, 61, 62, 63, 64, 65, 66, 67, 68, 69, 70, 71, 72, 73, 74, 75, 76, 77, 78, 80, 81, 82, 83, 84, 85, 86, 87, 88, 89, 90, 91, 92, 93, 94, 95, 96, 97, 98, 99, 100, 101, 102, 103, 104, 105, 106, 107, 108] ?_
  refine sq ?_
  refine k_block ?_
  refine sq ?_
  refine rg 2000 ?_
  refine pr [0, 3, 4, 5, 6, 7, 8, 15, 16, 17, 18, 19, 20, 21, 22, 23, 24, 25, 26, 27, 28, 29, 30, 31, 32, 33, 34, 35, 36, 37, 38, 39, 40, 41, 43, 44, 45, 46, 47, 48, 49, 50, 51, 52, 53, 54, 55, 56, 57, 58, 59, 60, 61, 62, 63, 64, 65, 66, 67, 68, 69, 70, 71, 72, 73, 74, 75, 76, 77, 78, 80, 81, 82, 83, 84, 85, 86, 87, 88, 89, 90, 91, 92, 93, 94, 95, 96, 97, 98, 99, 100, 101, 102, 103, 104, 105, 106, 107, 108] ?_
  refine ct ?_
  refine sq ?_
  refine rg 3000 ?_
  refine pr [0, 3, 4, 100, 101, 102, 103, 104, 105, 106, 107, 108] ?_
  refine k_ret ?_
  show retQ _ _ _ _ _ _ _
  simp [*, reck, stepR, Val.av]

attribute [local simp] E.av in
theorem spec55_con (row : List Val) (hrow : row.length ≤ Flat.lim) (col : Int) (c : Val) (w : Int) (hw : (w != 0) = false) : Flat.Sp Try.prog 55 [.ptr 0 0, (E.mk 2 col c []).av] [(.var 0, .n 2), (.cell 0 0, .av (vv (.int .i64 w))), (.cell 0 1, .av (.p (.ps (row.map Val.row))))] ((reck row (E.mk 2 col c []) w).1.av) [(.var 0, .n 2), (.cell 0 0, .av (vv (.int .i64 (reck row (E.mk 2 col c []) w).2))), (.cell 0 1, .av (.p (.ps (row.map Val.row))))] := by
  refine sk Try.func55 ?_
  intro F G hn hG
  refine sq ?_
  refine rg 1000 ?_
  refine pr [0, 3, 4, 5, 6, 7, 8, 9, 10, 11, 12, 13, 14, 15, 16, 17, 18, 19, 20, 21, 22, 23, 24, 25, 26, 27, 28, 29, 30, 31, 32, 33, 34, 35, 36, 37, 38, 39, 40, 41, 43, 44, 45, 46, 47, 48, 49, 50, 51, 52, 53, 54, 55, 56, 57, 58, 59, 60, 61, 62, 63, 64, 65, 66, 67, 68, 69, 70, 71, 72, 73, 74, 75, 76, 77, 78, 80, 81, 82, 83, 84, 85, 86, 87, 88, 89, 90, 91, 92, 93, 94, 95, 96, 97, 98, 99, 100, 101, 102, 103, 104, 105, 106, 107, 108] ?_
  refine sq ?_
  refine k_block ?_
  refine sq ?_
  refine rg 2000 ?_
  refine pr [0, 3, 4, 5, 6, 7, 8, 15, 16, 17, 18, 19, 20, 21, 22, 23, 24, 25, 26, 27, 28, 29, 30, 31, 32, 33, 34, 35, 36, 37, 38, 39, 40, 41, 43, 44, 45, 46, 47, 48, 49, 50, 51, 52, 53, 54, 55, 56, 57, 58, 59, 60, 61, 62, 63, 64, 65, 66, 67, 68, 69, 70, 71, 72, 73, 74, 75, 76, 77, 78, 80, 81, 82, 83, 84, 85, 86, 87, 88, 89, 90, 91, 92, 93, 94, 95, 96, 97, 98, 99, 100, 101, 102, 103, 104, 105, 106, 107, 108] ?_
  refine ce ?_
  refine sq ?_
  refine rg 4000 ?_
  refine pr [0, 3, 4, 5, 6, 7, 16, 20, 21, 22, 23, 24, 25, 26, 27, 28, 29, 30, 31, 32, 33, 34, 35, 36, 37, 38, 39, 40, 41, 43, 44, 45, 46, 47, 48, 49, 50, 51, 52, 53, 54, 55, 56, 57, 58, 59, 60, 61, 62, 63, 64, 65, 66, 67, 68, 69, 70, 71, 72, 73, 74, 75, 76, 77, 78, 80, 81, 82, 83, 84, 85, 86, 87, 88, 89, 90, 91, 92, 93, 94, 95, 96, 97, 98, 99, 100, 101, 102, 103, 104, 105, 106, 107, 108] ?_
  refine ct ?_
  refine sq ?_
  refine rg 5000 ?_
  refine pr [0, 3, 4, 100, 101, 102, 103, 104, 105, 106, 107, 108] ?_
  refine k_ret ?_
  show retQ _ _ _ _ _ _ _
  simp [*, reck, stepR, Val.av]

attribute [local simp] E.av in
theorem spec55_col (row : List Val) (hrow : row.length ≤ Flat.lim) (col : Int) (c : Val) (w : Int) (hw : (w != 0) = false) : Flat.Sp Try.prog 55 [.ptr 0 0, (E.mk 1 col c []).av] [(.var 0, .n 2), (.cell 0 0, .av (vv (.int .i64 w))), (.cell 0 1, .av (.p (.ps (row.map Val.row))))] ((reck row (E.mk 1 col c []) w).1.av) [(.var 0, .n 2), (.cell 0 0, .av (vv (.int .i64 (reck row (E.mk 1 col c []) w).2))), (.cell 0 1, .av (.p (.ps (row.map Val.row))))] := by
  refine sk Try.func55 ?_
  intro F G hn hG
  refine sq ?_
  refine rg 1000 ?_
  refine pr [0, 3, 4, 5, 6, 7, 8, 9, 10, 11, 12, 13, 14, 15, 16, 17, 18, 19, 20, 21, 22, 23, 24, 25, 26, 27, 28, 29, 30, 31, 32, 33, 34, 35, 36, 37, 38, 39, 40, 41, 43, 44, 45, 46, 47, 48, 49, 50, 51, 52, 53, 54, 55, 56, 57, 58, 59, 60, 61, 62, 63, 64, 65, 66, 67, 68, 69, 70, 71, 72, 73, 74, 75, 76, 77, 78, 80, 81, 82, 83, 84, 85, 86, 87, 88, 89, 90, 91, 92, 93, 94, 95, 96, 97, 98, 99, 100, 101, 102, 103, 104, 105, 106, 107, 108] ?_
  refine sq ?_
  refine k_block ?_
  refine sq ?_
  refine rg 2000 ?_
  refine pr [0, 3, 4, 5, 6, 7, 8, 15, 16, 17, 18, 19, 20, 21, 22, 23, 24, 25, 26, 27, 28, 29, 30, 31, 32, 33, 34, 35, 36, 37, 38, 39, 40, 41, 43, 44, 45, 46, 47, 48, 49, 50, 51, 52, 53, 54, 55, 56, 57, 58, 59, 60, 61, 62, 63, 64, 65, 66, 67, 68, 69, 70, 71, 72, 73, 74, 75, 76, 77, 78, 80, 81, 82, 83, 84, 85, 86, 87, 88, 89, 90, 91, 92, 93, 94, 95, 96, 97, 98, 99, 100, 101, 102, 103, 104, 105, 106, 107, 108] ?_
  refine ce ?_
  refine sq ?_
  refine rg 4000 ?_
  refine pr [0, 3, 4, 5, 6, 7, 16, 20, 21, 22, 23, 24, 25, 26, 27, 28, 29, 30, 31, 32, 33, 34, 35, 36, 37, 38, 39, 40, 41, 43, 44, 45, 46, 47, 48, 49, 50, 51, 52, 53, 54, 55, 56, 57, 58, 59, 60, 61, 62, 63, 64, 65, 66, 67, 68, 69, 70, 71, 72, 73, 74, 75, 76, 77, 78, 80, 81, 82, 83, 84, 85, 86, 87, 88, 89, 90, 91, 92, 93, 94, 95, 96, 97, 98, 99, 100, 101, 102, 103, 104, 105, 106, 107, 108] ?_
  refine ce ?_
  refine sq ?_
  refine rg 6000 ?_
  refine pr [0, 3, 4, 5, 6, 7, 22, 26, 27, 28, 29, 30, 31, 32, 33, 34, 35, 36, 37, 38, 39, 40, 41, 43, 44, 45, 46, 47, 48, 49, 50, 51, 52, 53, 54, 55, 56, 57, 58, 59, 60, 61, 62, 63, 64, 65, 66, 67, 68, 69, 70, 71, 72, 73, 74, 75, 76, 77, 78, 80, 81, 82, 83, 84, 85, 86, 87, 88, 89, 90, 91, 92, 93, 94, 95, 96, 97, 98, 99, 100, 101, 102, 103, 104, 105, 106, 107, 108] ?_
  refine ct ?_
  refine sq ?_
  refine sq ?_
  refine cv [(.tmp 38, vv (.bool (decide (col < 0) || decide ((row.length : Int) ≤ col))))] ?_ ?_
  · skip
    rcases h0 : (decide (col < 0) : Bool) with _ | _
    · skip
      refine dr ?_
      refine de 7000 ?_
      iterate 8 (first | refine dp 7750 ?_ | refine ds ?_ | refine dt 7750 ?_)
      refine de 7800 ?_
      refine dn ?_
      refine k_nil ?_
      refine ⟨rfl, ?_, ?_, ?_⟩ <;> simp [*]
    · skip
      refine dr ?_
      refine de 1007000 ?_
      iterate 8 (first | refine dp 1007750 ?_ | refine ds ?_ | refine dt 1007750 ?_)
      refine de 1007800 ?_
      refine dn ?_
      refine k_nil ?_
      refine ⟨rfl, ?_, ?_, ?_⟩ <;> simp [*]
  refine pr [0, 3, 4, 38, 39, 40, 41, 43, 44, 45, 46, 47, 48, 49, 50, 51, 100, 101, 102, 103, 104, 105, 106, 107, 108] ?_
  refine cd ?_ ?_
  · intro h38_1
    have h38_1 : (decide (col < 0) || decide ((row.length : Int) ≤ col)) = true := h38_1
    refine sq ?_
    refine rc 8000 ?_
    refine oc id (spec104 w (.ps (row.map Val.row)) false 1) ?_
    refine on ?_
    refine pr [0, 3, 4, 43, 44, 45, 46, 47, 48, 49, 50, 51, 100, 101, 102, 103, 104, 105, 106, 107, 108] ?_
    refine sq ?_
    refine rg 9000 ?_
    refine pr [0, 3, 4, 44, 45, 46, 47, 48, 49, 50, 51, 100, 101, 102, 103, 104, 105, 106, 107, 108] ?_
    refine k_ret ?_
    show retQ _ _ _ _ _ _ _
    simp [*, reck, stepR, Val.av]
  · intro h38_1
    have h38_1 : (decide (col < 0) || decide ((row.length : Int) ≤ col)) = false := h38_1
    simp only [Bool.or_eq_false_iff, decide_eq_false_iff_not, Int.not_lt, Int.not_le] at h38_1
    obtain ⟨k, rfl⟩ := Int.eq_ofNat_of_zero_le h38_1.1
    have hlt : k < row.length := by omega
    have hnl : ¬ row.length ≤ k := by omega
    have hnk : ¬ ((k : Int) < 0) := by omega
    obtain ⟨t, hte⟩ : ∃ t, row[k] = t := ⟨_, rfl⟩
    refine k_skip ?_
    refine sq ?_
    refine dr ?_
    refine de 10000 ?_ (h := by simp [*, Val.row]; exact is_rfl _)
    refine dn ?_
    refine pr [0, 3, 4, 100, 101, 102, 103, 104, 105, 106, 107, 108] ?_
    refine k_ret ?_
    show retQ _ _ _ _ _ _ _
    simp [*, reck, stepR, Val.av, Val.row]

attribute [local simp] E.av Val.av numF in
theorem spec108 (row : List Val) (hrow : row.length ≤ Flat.lim) (ao ac : Int) (av : Val) (ak : List E) (FA : Int → Val × Int) (ha : ∀ w : Int, Flat.Sp Try.prog 55 [.ptr 0 0, (E.mk ao ac av ak).av] [(.var 0, .n 2), (.cell 0 0, .av (vv (.int .i64 w))), (.cell 0 1, .av (.p (.ps (row.map Val.row))))] (FA w).1.av [(.var 0, .n 2), (.cell 0 0, .av (vv (.int .i64 (FA w).2))), (.cell 0 1, .av (.p (.ps (row.map Val.row))))]) (w : Int) : Flat.Sp Try.prog 108 [.ptr 0 0, (E.mk ao ac av ak).av] [(.var 0, .n 2), (.cell 0 0, .av (vv (.int .i64 w))), (.cell 0 1, .av (.p (.ps (row.map Val.row))))] (vv (.int .i64 (numF FA w).1)) [(.var 0, .n 2), (.cell 0 0, .av (vv (.int .i64 (numF FA w).2))), (.cell 0 1, .av (.p (.ps (row.map Val.row))))] := by
  refine sk Try.func108 ?_
  intro F G hn hG
  refine sq ?_
  refine rg 1000 ?_
  refine pr [0, 3, 4, 5, 6, 7, 8, 9, 10, 11, 12, 13, 14, 16, 17] ?_
  refine sq ?_
  refine rc 2000 ?_
  refine oc id (ha w) ?_
  refine oe 2100 ?_
  refine on ?_
  refine pr [0, 4, 5, 9, 10, 11, 12, 13, 14, 16, 17] ?_
  refine sq ?_
  refine dr ?_
  refine de 3000 ?_
  refine dc id (spec104 (FA w).2 (.ps (row.map Val.row)) (!(FA w).1.t) 11) ?_
  refine dn ?_
  refine pr [4, 5, 16, 17] ?_
  refine sq ?_
  refine rg 4000 ?_
  refine pr [4] ?_
  refine k_ret ?_
  show retQ _ _ _ _ _ _ _
  simp [*]

attribute [local simp] E.av E.row_eq in
theorem spec162 (row : List Val) (hrow : row.length ≤ Flat.lim) (op col : Int) (c : Val) (kids : List E) (bo bc : Int) (bv : Val) (bk : List E) (FB : Int → Val × Int) (hb : ∀ w : Int, Flat.Sp Try.prog 55 [.ptr 0 0, (E.mk bo bc bv bk).av] [(.var 0, .n 2), (.cell 0 0, .av (vv (.int .i64 w))), (.cell 0 1, .av (.p (.ps (row.map Val.row))))] (FB w).1.av [(.var 0, .n 2), (.cell 0 0, .av (vv (.int .i64 (FB w).2))), (.cell 0 1, .av (.p (.ps (row.map Val.row))))]) (hk1 : 1 < kids.length) (hkb : kids[1] = E.mk bo bc bv bk) (w : Int) : Flat.Sp Try.prog 162 [.ptr 1 0, .ptr 2 0] [(.var 0, .n 2), (.cell 0 0, .av (vv (.int .i64 w))), (.cell 0 1, .av (.p (.ps (row.map Val.row)))), (.var 1, .n 1), (.cell 1 0, .av (.ptr 0 0)), (.var 2, .n 6), (.cell 2 0, .av (vv (.int .u8 op))), (.cell 2 1, .av (vv (.int .i64 col))), (.cell 2 2, .av (vv (.bool c.t))), (.cell 2 3, .av (vv (.int .i64 c.n))), (.cell 2 4, .av (vv (.string c.s))), (.cell 2 5, .av (.p (.ps (kids.map E.row))))] (vv (.int .i64 (numF FB w).1)) [(.var 0, .n 2), (.cell 0 0, .av (vv (.int .i64 (numF FB w).2))), (.cell 0 1, .av (.p (.ps (row.map Val.row)))), (.var 1, .n 1), (.cell 1 0, .av (.ptr 0 0)), (.var 2, .n 6), (.cell 2 0, .av (vv (.int .u8 op))), (.cell 2 1, .av (vv (.int .i64 col))), (.cell 2 2, .av (vv (.bool c.t))), (.cell 2 3, .av (vv (.int .i64 c.n))), (.cell 2 4, .av (vv (.string c.s))), (.cell 2 5, .av (.p (.ps (kids.map E.row))))] := by
  refine sk Try.func162 ?_
  intro F G hn hG
  have hk2 : (1 : Int) < (kids.length : Int) := by omega
  refine sq ?_
  refine rg 1000 ?_
  refine pr [0, 1, 2, 3, 4, 5, 6, 7, 8] ?_
  refine sq ?_
  refine dr ?_
  refine de 2000 ?_
  refine dc id (spec108 row hrow bo bc bv bk FB hb w) ?_
  refine de 2100 ?_
  refine dn ?_
  refine pr [2] ?_
  refine k_ret ?_
  show retQ _ _ _ _ _ _ _
  simp [*]

attribute [local simp] E.av E.row_eq Val.av Val.num fitF bitV sumR in
theorem spec107_err (row : List Val) (hrow : row.length ≤ Flat.lim) (op : Int) (col : Int) (c : Val) (kids : List E) (FB : Int → Val × Int) (FE : Int → Val × Int) (n w : Int) (hw : (w != 0) = true) : Flat.Sp Try.prog 107 [.ptr 0 0, (E.mk op col c kids).av, vv (.int .i64 n)] [(.var 0, .n 2), (.cell 0 0, .av (vv (.int .i64 w))), (.cell 0 1, .av (.p (.ps (row.map Val.row))))] ((sumR op n FB FE w).1.av) [(.var 0, .n 2), (.cell 0 0, .av (vv (.int .i64 (sumR op n FB FE w).2))), (.cell 0 1, .av (.p (.ps (row.map Val.row))))] := by
  refine sk Try.func107 ?_
  intro F G hn hG
  refine sq ?_
  refine rg 1000 ?_
  refine pr [2, 3, 4, 6, 7, 8, 9, 10, 11, 12, 13, 14, 15, 16, 17, 18, 19, 20, 21, 22, 23, 24, 25, 26, 27, 28, 29, 30, 31, 32, 33, 34, 35, 36, 37, 38, 39, 40, 41, 42, 43, 44, 45, 46, 47, 48, 49, 50, 51, 52, 53, 54, 55, 56, 57, 58, 59, 60, 61, 62, 63, 64, 65, 66, 67, 68, 69, 70, 71, 72, 73, 74, 75, 76, 77, 78, 79, 80, 81, 82, 83, 84, 85, 86, 87, 88, 89, 90, 91, 92, 93, 94, 95] ?_
  refine sq ?_
  refine sq ?_
  refine rg 2000 ?_
  refine pr [2, 3, 4, 6, 7, 13, 14, 15, 16, 17, 18, 19, 20, 21, 22, 23, 24, 25, 26, 27, 28, 29, 30, 31, 32, 33, 34, 35, 36, 37, 38, 39, 40, 41, 42, 43, 44, 45, 46, 47, 48, 49, 50, 51, 52, 53, 54, 55, 56, 57, 58, 59, 60, 61, 62, 63, 64, 65, 66, 67, 68, 69, 70, 71, 72, 73, 74, 75, 76, 77, 78, 79, 80, 81, 82, 83, 84, 85, 86, 87, 88, 89, 90, 91, 92, 93, 94, 95] ?_
  refine ct ?_
  refine sq ?_
  refine rg 3000 ?_
  refine pr [2, 3, 4, 6, 7, 15, 16, 17, 18, 19, 20, 21, 22, 23, 24, 25, 26, 27, 28, 29, 30, 31, 32, 33, 34, 35, 36, 37, 38, 39, 40, 41, 42, 43, 44, 45, 46, 47, 48, 49, 50, 51, 52, 53, 54, 55, 56, 57, 58, 59, 60, 61, 62, 63, 64, 65, 66, 67, 68, 69, 70, 71, 72, 73, 74, 75, 76, 77, 78, 79, 80, 81, 82, 83, 84, 85, 86, 87, 88, 89, 90, 91, 92, 93, 94, 95] ?_
  refine k_ret ?_
  show retQ _ _ _ _ _ _ _
  simp [*]

attribute [local simp] E.av E.row_eq Val.av Val.num fitF bitV sumR in
theorem spec107_not (row : List Val) (hrow : row.length ≤ Flat.lim) (col : Int) (c : Val) (kids : List E) (FB : Int → Val × Int) (FE : Int → Val × Int) (n w : Int) (hw : (w != 0) = false) : Flat.Sp Try.prog 107 [.ptr 0 0, (E.mk 11 col c kids).av, vv (.int .i64 n)] [(.var 0, .n 2), (.cell 0 0, .av (vv (.int .i64 w))), (.cell 0 1, .av (.p (.ps (row.map Val.row))))] ((sumR 11 n FB FE w).1.av) [(.var 0, .n 2), (.cell 0 0, .av (vv (.int .i64 (sumR 11 n FB FE w).2))), (.cell 0 1, .av (.p (.ps (row.map Val.row))))] := by
  refine sk Try.func107 ?_
  intro F G hn hG
  refine sq ?_
  refine rg 1000 ?_
  refine pr [2, 3, 4, 6, 7, 8, 9, 10, 11, 12, 13, 14, 15, 16, 17, 18, 19, 20, 21, 22, 23, 24, 25, 26, 27, 28, 29, 30, 31, 32, 33, 34, 35, 36, 37, 38, 39, 40, 41, 42, 43, 44, 45, 46, 47, 48, 49, 50, 51, 52, 53, 54, 55, 56, 57, 58, 59, 60, 61, 62, 63, 64, 65, 66, 67, 68, 69, 70, 71, 72, 73, 74, 75, 76, 77, 78, 79, 80, 81, 82, 83, 84, 85, 86, 87, 88, 89, 90, 91, 92, 93, 94, 95] ?_
  refine sq ?_
  refine sq ?_
  refine rg 2000 ?_
  refine pr [2, 3, 4, 6, 7, 13, 14, 15, 16, 17, 18, 19, 20, 21, 22, 23, 24, 25, 26, 27, 28, 29, 30, 31, 32, 33, 34, 35, 36, 37, 38, 39, 40, 41, 42, 43, 44, 45, 46, 47, 48, 49, 50, 51, 52, 53, 54, 55, 56, 57, 58, 59, 60, 61, 62, 63, 64, 65, 66, 67, 68, 69, 70, 71, 72, 73, 74, 75, 76, 77, 78, 79, 80, 81, 82, 83, 84, 85, 86, 87, 88, 89, 90, 91, 92, 93, 94, 95] ?_
  refine ce ?_
  refine k_skip ?_
  refine sq ?_
  refine rg 4000 ?_
  refine pr [2, 3, 4, 6, 7, 16, 17, 18, 19, 20, 21, 22, 23, 24, 25, 26, 27, 28, 29, 30, 31, 32, 33, 34, 35, 36, 37, 38, 39, 40, 41, 42, 43, 44, 45, 46, 47, 48, 49, 50, 51, 52, 53, 54, 55, 56, 57, 58, 59, 60, 61, 62, 63, 64, 65, 66, 67, 68, 69, 70, 71, 72, 73, 74, 75, 76, 77, 78, 79, 80, 81, 82, 83, 84, 85, 86, 87, 88, 89, 90, 91, 92, 93, 94, 95] ?_
  refine sq ?_
  refine sq ?_
  refine rg 5000 ?_
  refine pr [2, 3, 4, 6, 7, 17, 18, 19, 20, 21, 22, 23, 24, 25, 26, 27, 28, 29, 30, 31, 32, 33, 34, 35, 36, 37, 38, 39, 40, 41, 42, 43, 44, 45, 46, 47, 48, 49, 50, 51, 52, 53, 54, 55, 56, 57, 58, 59, 60, 61, 62, 63, 64, 65, 66, 67, 68, 69, 70, 71, 72, 73, 74, 75, 76, 77, 78, 79, 80, 81, 82, 83, 84, 85, 86, 87, 88, 89, 90, 91, 92, 93, 94, 95] ?_
  refine k_block ?_
  refine sq ?_
  refine rg 6000 ?_
  refine pr [2, 3, 4, 6, 7, 17, 18, 20, 21, 22, 23, 24, 25, 26, 27, 28, 29, 30, 31, 32, 33, 34, 35, 36, 37, 38, 39, 40, 41, 42, 43, 44, 45, 46, 47, 48, 49, 50, 51, 52, 53, 54, 55, 56, 57, 58, 59, 60, 61, 62, 63, 64, 65, 66, 67, 68, 69, 70, 71, 72, 73, 74, 75, 76, 77, 78, 79, 80, 81, 82, 83, 84, 85, 86, 87, 88, 89, 90, 91, 92, 93, 94, 95] ?_
  refine ct ?_
  refine sq ?_
  refine rc 7000 ?_
  refine oc id (spec106 (n == 0)) ?_
  refine oe 7100 ?_
  refine on ?_
  refine pr [2, 3, 6, 7, 88, 89, 90, 91, 92, 93, 94, 95] ?_
  refine k_ret ?_
  show retQ _ _ _ _ _ _ _
  simp [*]

attribute [local simp] E.av E.row_eq Val.av Val.num fitF bitV sumR in
theorem spec107_neg (row : List Val) (hrow : row.length ≤ Flat.lim) (col : Int) (c : Val) (kids : List E) (FB : Int → Val × Int) (FE : Int → Val × Int) (n w : Int) (hw : (w != 0) = false) : Flat.Sp Try.prog 107 [.ptr 0 0, (E.mk 6 col c kids).av, vv (.int .i64 n)] [(.var 0, .n 2), (.cell 0 0, .av (vv (.int .i64 w))), (.cell 0 1, .av (.p (.ps (row.map Val.row))))] ((sumR 6 n FB FE w).1.av) [(.var 0, .n 2), (.cell 0 0, .av (vv (.int .i64 (sumR 6 n FB FE w).2))), (.cell 0 1, .av (.p (.ps (row.map Val.row))))] := by
  refine sk Try.func107 ?_
  intro F G hn hG
  refine sq ?_
  refine rg 1000 ?_
  refine pr [2, 3, 4, 6, 7, 8, 9, 10, 11, 12, 13, 14, 15, 16, 17, 18, 19, 20, 21, 22, 23, 24, 25, 26, 27, 28, 29, 30, 31, 32, 33, 34, 35, 36, 37, 38, 39, 40, 41, 42, 43, 44, 45, 46, 47, 48, 49, 50, 51, 52, 53, 54, 55, 56, 57, 58, 59, 60, 61, 62, 63, 64, 65, 66, 67, 68, 69, 70, 71, 72, 73, 74, 75, 76, 77, 78, 79, 80, 81, 82, 83, 84, 85, 86, 87, 88, 89, 90, 91, 92, 93, 94, 95] ?_
  refine sq ?_
  refine sq ?_
  refine rg 2000 ?_
  refine pr [2, 3, 4, 6, 7, 13, 14, 15, 16, 17, 18, 19, 20, 21, 22, 23, 24, 25, 26, 27, 28, 29, 30, 31, 32, 33, 34, 35, 36, 37, 38, 39, 40, 41, 42, 43, 44, 45, 46, 47, 48, 49, 50, 51, 52, 53, 54, 55, 56, 57, 58, 59, 60, 61, 62, 63, 64, 65, 66, 67, 68, 69, 70, 71, 72, 73, 74, 75, 76, 77, 78, 79, 80, 81, 82, 83, 84, 85, 86, 87, 88, 89, 90, 91, 92, 93, 94, 95] ?_
  refine ce ?_
  refine k_skip ?_
  refine sq ?_
  refine rg 4000 ?_
  refine pr [2, 3, 4, 6, 7, 16, 17, 18, 19, 20, 21, 22, 23, 24, 25, 26, 27, 28, 29, 30, 31, 32, 33, 34, 35, 36, 37, 38, 39, 40, 41, 42, 43, 44, 45, 46, 47, 48, 49, 50, 51, 52, 53, 54, 55, 56, 57, 58, 59, 60, 61, 62, 63, 64, 65, 66, 67, 68, 69, 70, 71, 72, 73, 74, 75, 76, 77, 78, 79, 80, 81, 82, 83, 84, 85, 86, 87, 88, 89, 90, 91, 92, 93, 94, 95] ?_
  refine sq ?_
  refine sq ?_
  refine rg 5000 ?_
  refine pr [2, 3, 4, 6, 7, 17, 18, 19, 20, 21, 22, 23, 24, 25, 26, 27, 28, 29, 30, 31, 32, 33, 34, 35, 36, 37, 38, 39, 40, 41, 42, 43, 44, 45, 46, 47, 48, 49, 50, 51, 52, 53, 54, 55, 56, 57, 58, 59, 60, 61, 62, 63, 64, 65, 66, 67, 68, 69, 70, 71, 72, 73, 74, 75, 76, 77, 78, 79, 80, 81, 82, 83, 84, 85, 86, 87, 88, 89, 90, 91, 92, 93, 94, 95] ?_
  refine k_block ?_
  refine sq ?_
  refine rg 6000 ?_
  refine pr [2, 3, 4, 6, 7, 17, 18, 20, 21, 22, 23, 24, 25, 26, 27, 28, 29, 30, 31, 32, 33, 34, 35, 36, 37, 38, 39, 40, 41, 42, 43, 44, 45, 46, 47, 48, 49, 50, 51, 52, 53, 54, 55, 56, 57, 58, 59, 60, 61, 62, 63, 64, 65, 66, 67, 68, 69, 70, 71, 72, 73, 74, 75, 76, 77, 78, 79, 80, 81, 82, 83, 84, 85, 86, 87, 88, 89, 90, 91, 92, 93, 94, 95] ?_
  refine ce ?_
  refine sq ?_
  refine rg 8000 ?_
  refine pr [2, 3, 4, 6, 7, 17, 23, 25, 26, 27, 28, 29, 30, 31, 32, 33, 34, 35, 36, 37, 38, 39, 40, 41, 42, 43, 44, 45, 46, 47, 48, 49, 50, 51, 52, 53, 54, 55, 56, 57, 58, 59, 60, 61, 62, 63, 64, 65, 66, 67, 68, 69, 70, 71, 72, 73, 74, 75, 76, 77, 78, 79, 80, 81, 82, 83, 84, 85, 86, 87, 88, 89, 90, 91, 92, 93, 94, 95] ?_
  refine ct ?_
  refine sq ?_
  refine dr ?_
  refine de 9000 ?_
  refine dc id (spec164 0 n) ?_
  refine de 9100 ?_
  refine dc id (spec163 w (.ps (row.map Val.row)) (lessR 0 n).1 (lessR 0 n).2) ?_
  refine de 9200 ?_
  refine dn ?_
  refine pr [2, 3, 6, 7, 88, 89, 90, 91, 92, 93, 94, 95] ?_
  refine k_ret ?_
  show retQ _ _ _ _ _ _ _
  simp [*]

end Go.Proofs
end
section
set_option linter.unusedVariables false
set_option linter.unusedSimpArgs false
namespace Go.Proofs
open Go.Flat
set_option maxRecDepth 100000
set_option linter.unusedSimpArgs false
set_option linter.unusedVariables false
attribute [local simp] Bool.and_assoc Bool.or_assoc evalG evalX efD skF guardG guardL isCall stepL evalOp ev evs lk tmpsL app AV.ok fresh vv putCells insV ins del putL place Go.Flat.look fillC fillR getCells loadF storeF binF scalarBin intBin strBin isShift shiftBin unF lenF maxF minF rowsF appendF builtinF idxF natOf sliceP sliceF optEv Flat.cut overwrite toPV toPVs constAV scalarC scalarCs AV.cells TI.isAgg allSome andAll scalarEq buildable Go.Flat.lim retQ resL resAll resOne PartOf noTmp closedIn refs refs.refsL isSomeV hasB ids leA leA.leL renA renA.renL callB refsAll backL dropIds renS LiesAt injB ownB freshB memN locId insAll leA_refl leL_refl okS frzS frzA frzA.frzL evalD feet fine updCells cellsFrom memP footRf footWf noTmpU updIds opOps opIds idsA footR footW guardTs opTs dstTs callR callW renLoc renC inBlockQ thenQ Value.oneCell' IntKind.bits IntKind.signed callWk without

attribute [local simp] E.av E.row_eq Val.av Val.num fitF bitV sumR in
theorem spec107_and1 (row : List Val) (hrow : row.length ≤ Flat.lim) (col : Int) (c : Val) (kids : List E) (bo bc : Int) (bv : Val) (bk : List E) (FB : Int → Val × Int) (hb : ∀ w : Int, Flat.Sp Try.prog 55 [.ptr 0 0, (E.mk bo bc bv bk).av] [(.var 0, .n 2), (.cell 0 0, .av (vv (.int .i64 w))), (.cell 0 1, .av (.p (.ps (row.map Val.row))))] (FB w).1.av [(.var 0, .n 2), (.cell 0 0, .av (vv (.int .i64 (FB w).2))), (.cell 0 1, .av (.p (.ps (row.map Val.row))))]) (hk1 : 1 < kids.length) (hkb : kids[1] = E.mk bo bc bv bk) (FE : Int → Val × Int) (n w : Int) (hw : (w != 0) = false)(hn0 : (n != 0) = true) : Flat.Sp Try.prog 107 [.ptr 0 0, (E.mk 9 col c kids).av, vv (.int .i64 n)] [(.var 0, .n 2), (.cell 0 0, .av (vv (.int .i64 w))), (.cell 0 1, .av (.p (.ps (row.map Val.row))))] ((sumR 9 n FB FE w).1.av) [(.var 0, .n 2), (.cell 0 0, .av (vv (.int .i64 (sumR 9 n FB FE w).2))), (.cell 0 1, .av (.p (.ps (row.map Val.row))))] := by
  refine sk Try.func107 ?_
  intro F G hn hG
  have hk2 : (1 : Int) < (kids.length : Int) := by omega
  refine sq ?_
  refine rg 1000 ?_
  refine pr [2, 3, 4, 6, 7, 8, 9, 10, 11, 12, 13, 14, 15, 16, 17, 18, 19, 20, 21, 22, 23, 24, 25, 26, 27, 28, 29, 30, 31, 32, 33, 34, 35, 36, 37, 38, 39, 40, 41, 42, 43, 44, 45, 46, 47, 48, 49, 50, 51, 52, 53, 54, 55, 56, 57, 58, 59, 60, 61, 62, 63, 64, 65, 66, 67, 68, 69, 70, 71, 72, 73, 74, 75, 76, 77, 78, 79, 80, 81, 82, 83, 84, 85, 86, 87, 88, 89, 90, 91, 92, 93, 94, 95] ?_
  refine sq ?_
  refine sq ?_
  refine rg 2000 ?_
  refine pr [2, 3, 4, 6, 7, 13, 14, 15, 16, 17, 18, 19, 20, 21, 22, 23, 24, 25, 26, 27, 28, 29, 30, 31, 32, 33, 34, 35, 36, 37, 38, 39, 40, 41, 42, 43, 44, 45, 46, 47, 48, 49, 50, 51, 52, 53, 54, 55, 56, 57, 58, 59, 60, 61, 62, 63, 64, 65, 66, 67, 68, 69, 70, 71, 72, 73, 74, 75, 76, 77, 78, 79, 80, 81, 82, 83, 84, 85, 86, 87, 88, 89, 90, 91, 92, 93, 94, 95] ?_
  refine ce ?_
  refine k_skip ?_
  refine sq ?_
  refine rg 4000 ?_
  refine pr [2, 3, 4, 6, 7, 16, 17, 18, 19, 20, 21, 22, 23, 24, 25, 26, 27, 28, 29, 30, 31, 32, 33, 34, 35, 36, 37, 38, 39, 40, 41, 42, 43, 44, 45, 46, 47, 48, 49, 50, 51, 52, 53, 54, 55, 56, 57, 58, 59, 60, 61, 62, 63, 64, 65, 66, 67, 68, 69, 70, 71, 72, 73, 74, 75, 76, 77, 78, 79, 80, 81, 82, 83, 84, 85, 86, 87, 88, 89, 90, 91, 92, 93, 94, 95] ?_
  refine sq ?_
  refine sq ?_
  refine rg 5000 ?_
  refine pr [2, 3, 4, 6, 7, 17, 18, 19, 20, 21, 22, 23, 24, 25, 26, 27, 28, 29, 30, 31, 32, 33, 34, 35, 36, 37, 38, 39, 40, 41, 42, 43, 44, 45, 46, 47, 48, 49, 50, 51, 52, 53, 54, 55, 56, 57, 58, 59, 60, 61, 62, 63, 64, 65, 66, 67, 68, 69, 70, 71, 72, 73, 74, 75, 76, 77, 78, 79, 80, 81, 82, 83, 84, 85, 86, 87, 88, 89, 90, 91, 92, 93, 94, 95] ?_
  refine k_block ?_
  refine sq ?_
  refine rg 6000 ?_
  refine pr [2, 3, 4, 6, 7, 17, 18, 20, 21, 22, 23, 24, 25, 26, 27, 28, 29, 30, 31, 32, 33, 34, 35, 36, 37, 38, 39, 40, 41, 42, 43, 44, 45, 46, 47, 48, 49, 50, 51, 52, 53, 54, 55, 56, 57, 58, 59, 60, 61, 62, 63, 64, 65, 66, 67, 68, 69, 70, 71, 72, 73, 74, 75, 76, 77, 78, 79, 80, 81, 82, 83, 84, 85, 86, 87, 88, 89, 90, 91, 92, 93, 94, 95] ?_
  refine ce ?_
  refine sq ?_
  refine rg 8000 ?_
  refine pr [2, 3, 4, 6, 7, 17, 23, 25, 26, 27, 28, 29, 30, 31, 32, 33, 34, 35, 36, 37, 38, 39, 40, 41, 42, 43, 44, 45, 46, 47, 48, 49, 50, 51, 52, 53, 54, 55, 56, 57, 58, 59, 60, 61, 62, 63, 64, 65, 66, 67, 68, 69, 70, 71, 72, 73, 74, 75, 76, 77, 78, 79, 80, 81, 82, 83, 84, 85, 86, 87, 88, 89, 90, 91, 92, 93, 94, 95] ?_
  refine ce ?_
  refine sq ?_
  refine rg 10000 ?_
  refine pr [2, 3, 4, 6, 7, 17, 31, 33, 34, 35, 36, 37, 38, 39, 40, 41, 42, 43, 44, 45, 46, 47, 48, 49, 50, 51, 52, 53, 54, 55, 56, 57, 58, 59, 60, 61, 62, 63, 64, 65, 66, 67, 68, 69, 70, 71, 72, 73, 74, 75, 76, 77, 78, 79, 80, 81, 82, 83, 84, 85, 86, 87, 88, 89, 90, 91, 92, 93, 94, 95] ?_
  refine ct ?_
  refine sq ?_
  refine rc 11000 ?_
  first | refine gp 11050 ?_ | refine os ?_ | refine gt 11050 ?_
  refine oc (fun k => if k = 1 then 1000 else if k = 2 then 1001 else k) (spec162 row hrow 9 col c kids bo bc bv bk FB hb hk1 hkb w) ?_
  first | refine gp 11250 ?_ | refine os ?_ | refine gt 11250 ?_
  refine oe 11300 ?_
  refine oc id (spec106 ((numF FB w).1 != 0)) ?_
  refine oe 11400 ?_
  refine on ?_
  refine pr [2, 3, 6, 7, 88, 89, 90, 91, 92, 93, 94, 95] ?_
  refine k_ret ?_
  show retQ _ _ _ _ _ _ _
  simp [*]

attribute [local simp] E.av E.row_eq Val.av Val.num fitF bitV sumR in
theorem spec107_and0 (row : List Val) (hrow : row.length ≤ Flat.lim) (col : Int) (c : Val) (kids : List E) (FB : Int → Val × Int) (FE : Int → Val × Int) (n w : Int) (hw : (w != 0) = false)(hn0 : (n != 0) = false) : Flat.Sp Try.prog 107 [.ptr 0 0, (E.mk 9 col c kids).av, vv (.int .i64 n)] [(.var 0, .n 2), (.cell 0 0, .av (vv (.int .i64 w))), (.cell 0 1, .av (.p (.ps (row.map Val.row))))] ((sumR 9 n FB FE w).1.av) [(.var 0, .n 2), (.cell 0 0, .av (vv (.int .i64 (sumR 9 n FB FE w).2))), (.cell 0 1, .av (.p (.ps (row.map Val.row))))] := by
  refine sk Try.func107 ?_
  intro F G hn hG
  refine sq ?_
  refine rg 1000 ?_
  refine pr [2, 3, 4, 6, 7, 8, 9, 10, 11, 12, 13, 14, 15, 16, 17, 18, 19, 20, 21, 22, 23, 24, 25, 26, 27, 28, 29, 30, 31, 32, 33, 34, 35, 36, 37, 38, 39, 40, 41, 42, 43, 44, 45, 46, 47, 48, 49, 50, 51, 52, 53, 54, 55, 56, 57, 58, 59, 60, 61, 62, 63, 64, 65, 66, 67, 68, 69, 70, 71, 72, 73, 74, 75, 76, 77, 78, 79, 80, 81, 82, 83, 84, 85, 86, 87, 88, 89, 90, 91, 92, 93, 94, 95] ?_
  refine sq ?_
  refine sq ?_
  refine rg 2000 ?_
  refine pr [2, 3, 4, 6, 7, 13, 14, 15, 16, 17, 18, 19, 20, 21, 22, 23, 24, 25, 26, 27, 28, 29, 30, 31, 32, 33, 34, 35, 36, 37, 38, 39, 40, 41, 42, 43, 44, 45, 46, 47, 48, 49, 50, 51, 52, 53, 54, 55, 56, 57, 58, 59, 60, 61, 62, 63, 64, 65, 66, 67, 68, 69, 70, 71, 72, 73, 74, 75, 76, 77, 78, 79, 80, 81, 82, 83, 84, 85, 86, 87, 88, 89, 90, 91, 92, 93, 94, 95] ?_
  refine ce ?_
  refine k_skip ?_
  refine sq ?_
  refine rg 4000 ?_
  refine pr [2, 3, 4, 6, 7, 16, 17, 18, 19, 20, 21, 22, 23, 24, 25, 26, 27, 28, 29, 30, 31, 32, 33, 34, 35, 36, 37, 38, 39, 40, 41, 42, 43, 44, 45, 46, 47, 48, 49, 50, 51, 52, 53, 54, 55, 56, 57, 58, 59, 60, 61, 62, 63, 64, 65, 66, 67, 68, 69, 70, 71, 72, 73, 74, 75, 76, 77, 78, 79, 80, 81, 82, 83, 84, 85, 86, 87, 88, 89, 90, 91, 92, 93, 94, 95] ?_
  refine sq ?_
  refine sq ?_
  refine rg 5000 ?_
  refine pr [2, 3, 4, 6, 7, 17, 18, 19, 20, 21, 22, 23, 24, 25, 26, 27, 28, 29, 30, 31, 32, 33, 34, 35, 36, 37, 38, 39, 40, 41, 42, 43, 44, 45, 46, 47, 48, 49, 50, 51, 52, 53, 54, 55, 56, 57, 58, 59, 60, 61, 62, 63, 64, 65, 66, 67, 68, 69, 70, 71, 72, 73, 74, 75, 76, 77, 78, 79, 80, 81, 82, 83, 84, 85, 86, 87, 88, 89, 90, 91, 92, 93, 94, 95] ?_
  refine k_block ?_
  refine sq ?_
  refine rg 6000 ?_
  refine pr [2, 3, 4, 6, 7, 17, 18, 20, 21, 22, 23, 24, 25, 26, 27, 28, 29, 30, 31, 32, 33, 34, 35, 36, 37, 38, 39, 40, 41, 42, 43, 44, 45, 46, 47, 48, 49, 50, 51, 52, 53, 54, 55, 56, 57, 58, 59, 60, 61, 62, 63, 64, 65, 66, 67, 68, 69, 70, 71, 72, 73, 74, 75, 76, 77, 78, 79, 80, 81, 82, 83, 84, 85, 86, 87, 88, 89, 90, 91, 92, 93, 94, 95] ?_
  refine ce ?_
  refine sq ?_
  refine rg 8000 ?_
  refine pr [2, 3, 4, 6, 7, 17, 23, 25, 26, 27, 28, 29, 30, 31, 32, 33, 34, 35, 36, 37, 38, 39, 40, 41, 42, 43, 44, 45, 46, 47, 48, 49, 50, 51, 52, 53, 54, 55, 56, 57, 58, 59, 60, 61, 62, 63, 64, 65, 66, 67, 68, 69, 70, 71, 72, 73, 74, 75, 76, 77, 78, 79, 80, 81, 82, 83, 84, 85, 86, 87, 88, 89, 90, 91, 92, 93, 94, 95] ?_
  refine ce ?_
  refine sq ?_
  refine rg 10000 ?_
  refine pr [2, 3, 4, 6, 7, 17, 31, 33, 34, 35, 36, 37, 38, 39, 40, 41, 42, 43, 44, 45, 46, 47, 48, 49, 50, 51, 52, 53, 54, 55, 56, 57, 58, 59, 60, 61, 62, 63, 64, 65, 66, 67, 68, 69, 70, 71, 72, 73, 74, 75, 76, 77, 78, 79, 80, 81, 82, 83, 84, 85, 86, 87, 88, 89, 90, 91, 92, 93, 94, 95] ?_
  refine ct ?_
  refine sq ?_
  refine rc 11000 ?_
  first | refine gp 11050 ?_ | refine os ?_ | refine gt 11050 ?_
  refine os ?_
  first | refine gp 11250 ?_ | refine os ?_ | refine gt 11250 ?_
  refine oe 11300 ?_
  refine oc id (spec106 false) ?_
  refine oe 11400 ?_
  refine on ?_
  refine pr [2, 3, 6, 7, 88, 89, 90, 91, 92, 93, 94, 95] ?_
  refine k_ret ?_
  show retQ _ _ _ _ _ _ _
  simp [*]

attribute [local simp] E.av E.row_eq Val.av Val.num fitF bitV sumR in
theorem spec107_or0 (row : List Val) (hrow : row.length ≤ Flat.lim) (col : Int) (c : Val) (kids : List E) (bo bc : Int) (bv : Val) (bk : List E) (FB : Int → Val × Int) (hb : ∀ w : Int, Flat.Sp Try.prog 55 [.ptr 0 0, (E.mk bo bc bv bk).av] [(.var 0, .n 2), (.cell 0 0, .av (vv (.int .i64 w))), (.cell 0 1, .av (.p (.ps (row.map Val.row))))] (FB w).1.av [(.var 0, .n 2), (.cell 0 0, .av (vv (.int .i64 (FB w).2))), (.cell 0 1, .av (.p (.ps (row.map Val.row))))]) (hk1 : 1 < kids.length) (hkb : kids[1] = E.mk bo bc bv bk) (FE : Int → Val × Int) (n w : Int) (hw : (w != 0) = false)(hn0 : (n != 0) = false) : Flat.Sp Try.prog 107 [.ptr 0 0, (E.mk 10 col c kids).av, vv (.int .i64 n)] [(.var 0, .n 2), (.cell 0 0, .av (vv (.int .i64 w))), (.cell 0 1, .av (.p (.ps (row.map Val.row))))] ((sumR 10 n FB FE w).1.av) [(.var 0, .n 2), (.cell 0 0, .av (vv (.int .i64 (sumR 10 n FB FE w).2))), (.cell 0 1, .av (.p (.ps (row.map Val.row))))] := by
  refine sk Try.func107 ?_
  intro F G hn hG
  have hk2 : (1 : Int) < (kids.length : Int) := by omega
  refine sq ?_
  refine rg 1000 ?_
  refine pr [2, 3, 4, 6, 7, 8, 9, 10, 11, 12, 13, 14, 15, 16, 17, 18, 19, 20, 21, 22, 23, 24, 25, 26, 27, 28, 29, 30, 31, 32, 33, 34, 35, 36, 37, 38, 39, 40, 41, 42, 43, 44, 45, 46, 47, 48, 49, 50, 51, 52, 53, 54, 55, 56, 57, 58, 59, 60, 61, 62, 63, 64, 65, 66, 67, 68, 69, 70, 71, 72, 73, 74, 75, 76, 77, 78, 79, 80, 81, 82, 83, 84, 85, 86, 87, 88, 89, 90, 91, 92, 93, 94, 95] ?_
  refine sq ?_
  refine sq ?_
  refine rg 2000 ?_
  refine pr [2, 3, 4, 6, 7, 13, 14, 15, 16, 17, 18, 19, 20, 21, 22, 23, 24, 25, 26, 27, 28, 29, 30, 31, 32, 33, 34, 35, 36, 37, 38, 39, 40, 41, 42, 43, 44, 45, 46, 47, 48, 49, 50, 51, 52, 53, 54, 55, 56, 57, 58, 59, 60, 61, 62, 63, 64, 65, 66, 67, 68, 69, 70, 71, 72, 73, 74, 75, 76, 77, 78, 79, 80, 81, 82, 83, 84, 85, 86, 87, 88, 89, 90, 91, 92, 93, 94, 95] ?_
  refine ce ?_
  refine k_skip ?_
  refine sq ?_
  refine rg 4000 ?_
  refine pr [2, 3, 4, 6, 7, 16, 17, 18, 19, 20, 21, 22, 23, 24, 25, 26, 27, 28, 29, 30, 31, 32, 33, 34, 35, 36, 37, 38, 39, 40, 41, 42, 43, 44, 45, 46, 47, 48, 49, 50, 51, 52, 53, 54, 55, 56, 57, 58, 59, 60, 61, 62, 63, 64, 65, 66, 67, 68, 69, 70, 71, 72, 73, 74, 75, 76, 77, 78, 79, 80, 81, 82, 83, 84, 85, 86, 87, 88, 89, 90, 91, 92, 93, 94, 95] ?_
  refine sq ?_
  refine sq ?_
  refine rg 5000 ?_
  refine pr [2, 3, 4, 6, 7, 17, 18, 19, 20, 21, 22, 23, 24, 25, 26, 27, 28, 29, 30, 31, 32, 33, 34, 35, 36, 37, 38, 39, 40, 41, 42, 43, 44, 45, 46, 47, 48, 49, 50, 51, 52, 53, 54, 55, 56, 57, 58, 59, 60, 61, 62, 63, 64, 65, 66, 67, 68, 69, 70, 71, 72, 73, 74, 75, 76, 77, 78, 79, 80, 81, 82, 83, 84, 85, 86, 87, 88, 89, 90, 91, 92, 93, 94, 95] ?_
  refine k_block ?_
  refine sq ?_
  refine rg 6000 ?_
  refine pr [2, 3, 4, 6, 7, 17, 18, 20, 21, 22, 23, 24, 25, 26, 27, 28, 29, 30, 31, 32, 33, 34, 35, 36, 37, 38, 39, 40, 41, 42, 43, 44, 45, 46, 47, 48, 49, 50, 51, 52, 53, 54, 55, 56, 57, 58, 59, 60, 61, 62, 63, 64, 65, 66, 67, 68, 69, 70, 71, 72, 73, 74, 75, 76, 77, 78, 79, 80, 81, 82, 83, 84, 85, 86, 87, 88, 89, 90, 91, 92, 93, 94, 95] ?_
  refine ce ?_
  refine sq ?_
  refine rg 8000 ?_
  refine pr [2, 3, 4, 6, 7, 17, 23, 25, 26, 27, 28, 29, 30, 31, 32, 33, 34, 35, 36, 37, 38, 39, 40, 41, 42, 43, 44, 45, 46, 47, 48, 49, 50, 51, 52, 53, 54, 55, 56, 57, 58, 59, 60, 61, 62, 63, 64, 65, 66, 67, 68, 69, 70, 71, 72, 73, 74, 75, 76, 77, 78, 79, 80, 81, 82, 83, 84, 85, 86, 87, 88, 89, 90, 91, 92, 93, 94, 95] ?_
  refine ce ?_
  refine sq ?_
  refine rg 10000 ?_
  refine pr [2, 3, 4, 6, 7, 17, 31, 33, 34, 35, 36, 37, 38, 39, 40, 41, 42, 43, 44, 45, 46, 47, 48, 49, 50, 51, 52, 53, 54, 55, 56, 57, 58, 59, 60, 61, 62, 63, 64, 65, 66, 67, 68, 69, 70, 71, 72, 73, 74, 75, 76, 77, 78, 79, 80, 81, 82, 83, 84, 85, 86, 87, 88, 89, 90, 91, 92, 93, 94, 95] ?_
  refine ce ?_
  refine sq ?_
  refine rg 12000 ?_
  refine pr [2, 3, 4, 6, 7, 17, 41, 43, 44, 45, 46, 47, 48, 49, 50, 51, 52, 53, 54, 55, 56, 57, 58, 59, 60, 61, 62, 63, 64, 65, 66, 67, 68, 69, 70, 71, 72, 73, 74, 75, 76, 77, 78, 79, 80, 81, 82, 83, 84, 85, 86, 87, 88, 89, 90, 91, 92, 93, 94, 95] ?_
  refine ct ?_
  refine sq ?_
  refine rc 13000 ?_
  first | refine gp 13050 ?_ | refine os ?_ | refine gt 13050 ?_
  refine oc (fun k => if k = 1 then 1000 else if k = 2 then 1001 else k) (spec162 row hrow 10 col c kids bo bc bv bk FB hb hk1 hkb w) ?_
  first | refine gp 13250 ?_ | refine os ?_ | refine gt 13250 ?_
  refine oe 13300 ?_
  refine oc id (spec106 ((numF FB w).1 != 0)) ?_
  refine oe 13400 ?_
  refine on ?_
  refine pr [2, 3, 6, 7, 88, 89, 90, 91, 92, 93, 94, 95] ?_
  refine k_ret ?_
  show retQ _ _ _ _ _ _ _
  simp [*]

attribute [local simp] E.av E.row_eq Val.av Val.num fitF bitV sumR in
theorem spec107_or1 (row : List Val) (hrow : row.length ≤ Flat.lim) (col : Int) (c : Val) (kids : List E) (FB : Int → Val × Int) (FE : Int → Val × Int) (n w : Int) (hw : (w != 0) = false)(hn0 : (n != 0) = true) : Flat.Sp Try.prog 107 [.ptr 0 0, (E.mk 10 col c kids).av, vv (.int .i64 n)] [(.var 0, .n 2), (.cell 0 0, .av (vv (.int .i64 w))), (.cell 0 1, .av (.p (.ps (row.map Val.row))))] ((sumR 10 n FB FE w).1.av) [(.var 0, .n 2), (.cell 0 0, .av (vv (.int .i64 (sumR 10 n FB FE w).2))), (.cell 0 1, .av (.p (.ps (row.map Val.row))))] := by
  refine sk Try.func107 ?_
  intro F G hn hG
  refine sq ?_
  refine rg 1000 ?_
  refine pr [2, 3, 4, 6, 7, 8, 9, 10, 11, 12, 13, 14, 15, 16, 17, 18, 19, 20, 21, 22, 23, 24, 25, 26, 27, 28, 29, 30, 31, 32, 33, 34, 35, 36, 37, 38, 39, 40, 41, 42, 43, 44, 45, 46, 47, 48, 49, 50, 51, 52, 53, 54, 55, 56, 57, 58, 59, 60, 61, 62, 63, 64, 65, 66, 67, 68, 69, 70, 71, 72, 73, 74, 75, 76, 77, 78, 79, 80, 81, 82, 83, 84, 85, 86, 87, 88, 89, 90, 91, 92, 93, 94, 95] ?_
  refine sq ?_
  refine sq ?_
  refine rg 2000 ?_
  refine pr [2, 3, 4, 6, 7, 13, 14, 15, 16, 17, 18, 19, 20, 21, 22, 23, 24, 25, 26, 27, 28, 29, 30, 31, 32, 33, 34, 35, 36, 37, 38, 39, 40, 41, 42, 43, 44, 45, 46, 47, 48, 49, 50, 51, 52, 53, 54, 55, 56, 57, 58, 59, 60, 61, 62, 63, 64, 65, 66, 67, 68, 69, 70, 71, 72, 73, 74, 75, 76, 77, 78, 79, 80, 81, 82, 83, 84, 85, 86, 87, 88, 89, 90, 91, 92, 93, 94, 95] ?_
  refine ce ?_
  refine k_skip ?_
  refine sq ?_
  refine rg 4000 ?_
  refine pr [2, 3, 4, 6, 7, 16, 17, 18, 19, 20, 21, 22, 23, 24, 25, 26, 27, 28, 29, 30, 31, 32, 33, 34, 35, 36, 37, 38, 39, 40, 41, 42, 43, 44, 45, 46, 47, 48, 49, 50, 51, 52, 53, 54, 55, 56, 57, 58, 59, 60, 61, 62, 63, 64, 65, 66, 67, 68, 69, 70, 71, 72, 73, 74, 75, 76, 77, 78, 79, 80, 81, 82, 83, 84, 85, 86, 87, 88, 89, 90, 91, 92, 93, 94, 95] ?_
  refine sq ?_
  refine sq ?_
  refine rg 5000 ?_
  refine pr [2, 3, 4, 6, 7, 17, 18, 19, 20, 21, 22, 23, 24, 25, 26, 27, 28, 29, 30, 31, 32, 33, 34, 35, 36, 37, 38, 39, 40, 41, 42, 43, 44, 45, 46, 47, 48, 49, 50, 51, 52, 53, 54, 55, 56, 57, 58, 59, 60, 61, 62, 63, 64, 65, 66, 67, 68, 69, 70, 71, 72, 73, 74, 75, 76, 77, 78, 79, 80, 81, 82, 83, 84, 85, 86, 87, 88, 89, 90, 91, 92, 93, 94, 95] ?_
  refine k_block ?_
  refine sq ?_
  refine rg 6000 ?_
  refine pr [2, 3, 4, 6, 7, 17, 18, 20, 21, 22, 23, 24, 25, 26, 27, 28, 29, 30, 31, 32, 33, 34, 35, 36, 37, 38, 39, 40, 41, 42, 43, 44, 45, 46, 47, 48, 49, 50, 51, 52, 53, 54, 55, 56, 57, 58, 59, 60, 61, 62, 63, 64, 65, 66, 67, 68, 69, 70, 71, 72, 73, 74, 75, 76, 77, 78, 79, 80, 81, 82, 83, 84, 85, 86, 87, 88, 89, 90, 91, 92, 93, 94, 95] ?_
  refine ce ?_
  refine sq ?_
  refine rg 8000 ?_
  refine pr [2, 3, 4, 6, 7, 17, 23, 25, 26, 27, 28, 29, 30, 31, 32, 33, 34, 35, 36, 37, 38, 39, 40, 41, 42, 43, 44, 45, 46, 47, 48, 49, 50, 51, 52, 53, 54, 55, 56, 57, 58, 59, 60, 61, 62, 63, 64, 65, 66, 67, 68, 69, 70, 71, 72, 73, 74, 75, 76, 77, 78, 79, 80, 81, 82, 83, 84, 85, 86, 87, 88, 89, 90, 91, 92, 93, 94, 95] ?_
  refine ce ?_
  refine sq ?_
  refine rg 10000 ?_
  refine pr [2, 3, 4, 6, 7, 17, 31, 33, 34, 35, 36, 37, 38, 39, 40, 41, 42, 43, 44, 45, 46, 47, 48, 49, 50, 51, 52, 53, 54, 55, 56, 57, 58, 59, 60, 61, 62, 63, 64, 65, 66, 67, 68, 69, 70, 71, 72, 73, 74, 75, 76, 77, 78, 79, 80, 81, 82, 83, 84, 85, 86, 87, 88, 89, 90, 91, 92, 93, 94, 95] ?_
  refine ce ?_
  refine sq ?_
  refine rg 12000 ?_
  refine pr [2, 3, 4, 6, 7, 17, 41, 43, 44, 45, 46, 47, 48, 49, 50, 51, 52, 53, 54, 55, 56, 57, 58, 59, 60, 61, 62, 63, 64, 65, 66, 67, 68, 69, 70, 71, 72, 73, 74, 75, 76, 77, 78, 79, 80, 81, 82, 83, 84, 85, 86, 87, 88, 89, 90, 91, 92, 93, 94, 95] ?_
  refine ct ?_
  refine sq ?_
  refine rc 13000 ?_
  first | refine gp 13050 ?_ | refine os ?_ | refine gt 13050 ?_
  refine os ?_
  first | refine gp 13250 ?_ | refine os ?_ | refine gt 13250 ?_
  refine oe 13300 ?_
  refine oc id (spec106 true) ?_
  refine oe 13400 ?_
  refine on ?_
  refine pr [2, 3, 6, 7, 88, 89, 90, 91, 92, 93, 94, 95] ?_
  refine k_ret ?_
  show retQ _ _ _ _ _ _ _
  simp [*]

attribute [local simp] E.av E.row_eq Val.av Val.num fitF bitV sumR in
theorem spec107_if1 (row : List Val) (hrow : row.length ≤ Flat.lim) (col : Int) (c : Val) (kids : List E) (bo bc : Int) (bv : Val) (bk : List E) (FB : Int → Val × Int) (hb : ∀ w : Int, Flat.Sp Try.prog 55 [.ptr 0 0, (E.mk bo bc bv bk).av] [(.var 0, .n 2), (.cell 0 0, .av (vv (.int .i64 w))), (.cell 0 1, .av (.p (.ps (row.map Val.row))))] (FB w).1.av [(.var 0, .n 2), (.cell 0 0, .av (vv (.int .i64 (FB w).2))), (.cell 0 1, .av (.p (.ps (row.map Val.row))))]) (hk1 : 1 < kids.length) (hkb : kids[1] = E.mk bo bc bv bk) (FE : Int → Val × Int) (n w : Int) (hw : (w != 0) = false)(hn0 : (n != 0) = true) : Flat.Sp Try.prog 107 [.ptr 0 0, (E.mk 12 col c kids).av, vv (.int .i64 n)] [(.var 0, .n 2), (.cell 0 0, .av (vv (.int .i64 w))), (.cell 0 1, .av (.p (.ps (row.map Val.row))))] ((sumR 12 n FB FE w).1.av) [(.var 0, .n 2), (.cell 0 0, .av (vv (.int .i64 (sumR 12 n FB FE w).2))), (.cell 0 1, .av (.p (.ps (row.map Val.row))))] := by
  refine sk Try.func107 ?_
  intro F G hn hG
  have hk2 : (1 : Int) < (kids.length : Int) := by omega
  refine sq ?_
  refine rg 1000 ?_
  refine pr [2, 3, 4, 6, 7, 8, 9, 10, 11, 12, 13, 14, 15, 16, 17, 18, 19, 20, 21, 22, 23, 24, 25, 26, 27, 28, 29, 30, 31, 32, 33, 34, 35, 36, 37, 38, 39, 40, 41, 42, 43, 44, 45, 46, 47, 48, 49, 50, 51, 52, 53, 54, 55, 56, 57, 58, 59, 60, 61, 62, 63, 64, 65, 66, 67, 68, 69, 70, 71, 72, 73, 74, 75, 76, 77, 78, 79, 80, 81, 82, 83, 84, 85, 86, 87, 88, 89, 90, 91, 92, 93, 94, 95] ?_
  refine sq ?_
  refine sq ?_
  refine rg 2000 ?_
  refine pr [2, 3, 4, 6, 7, 13, 14, 15, 16, 17, 18, 19, 20, 21, 22, 23, 24, 25, 26, 27, 28, 29, 30, 31, 32, 33, 34, 35, 36, 37, 38, 39, 40, 41, 42, 43, 44, 45, 46, 47, 48, 49, 50, 51, 52, 53, 54, 55, 56, 57, 58, 59, 60, 61, 62, 63, 64, 65, 66, 67, 68, 69, 70, 71, 72, 73, 74, 75, 76, 77, 78, 79, 80, 81, 82, 83, 84, 85, 86, 87, 88, 89, 90, 91, 92, 93, 94, 95] ?_
  refine ce ?_
  refine k_skip ?_
  refine sq ?_
  refine rg 4000 ?_
  refine pr [2, 3, 4, 6, 7, 16, 17, 18, 19, 20, 21, 22, 23, 24, 25, 26, 27, 28, 29, 30, 31, 32, 33, 34, 35, 36, 37, 38, 39, 40, 41, 42, 43, 44, 45, 46, 47, 48, 49, 50, 51, 52, 53, 54, 55, 56, 57, 58, 59, 60, 61, 62, 63, 64, 65, 66, 67, 68, 69, 70, 71, 72, 73, 74, 75, 76, 77, 78, 79, 80, 81, 82, 83, 84, 85, 86, 87, 88, 89, 90, 91, 92, 93, 94, 95] ?_
  refine sq ?_
  refine sq ?_
  refine rg 5000 ?_
  refine pr [2, 3, 4, 6, 7, 17, 18, 19, 20, 21, 22, 23, 24, 25, 26, 27, 28, 29, 30, 31, 32, 33, 34, 35, 36, 37, 38, 39, 40, 41, 42, 43, 44, 45, 46, 47, 48, 49, 50, 51, 52, 53, 54, 55, 56, 57, 58, 59, 60, 61, 62, 63, 64, 65, 66, 67, 68, 69, 70, 71, 72, 73, 74, 75, 76, 77, 78, 79, 80, 81, 82, 83, 84, 85, 86, 87, 88, 89, 90, 91, 92, 93, 94, 95] ?_
  refine k_block ?_
  refine sq ?_
  refine rg 6000 ?_
  refine pr [2, 3, 4, 6, 7, 17, 18, 20, 21, 22, 23, 24, 25, 26, 27, 28, 29, 30, 31, 32, 33, 34, 35, 36, 37, 38, 39, 40, 41, 42, 43, 44, 45, 46, 47, 48, 49, 50, 51, 52, 53, 54, 55, 56, 57, 58, 59, 60, 61, 62, 63, 64, 65, 66, 67, 68, 69, 70, 71, 72, 73, 74, 75, 76, 77, 78, 79, 80, 81, 82, 83, 84, 85, 86, 87, 88, 89, 90, 91, 92, 93, 94, 95] ?_
  refine ce ?_
  refine sq ?_
  refine rg 8000 ?_
  refine pr [2, 3, 4, 6, 7, 17, 23, 25, 26, 27, 28, 29, 30, 31, 32, 33, 34, 35, 36, 37, 38, 39, 40, 41, 42, 43, 44, 45, 46, 47, 48, 49, 50, 51, 52, 53, 54, 55, 56, 57, 58, 59, 60, 61, 62, 63, 64, 65, 66, 67, 68, 69, 70, 71, 72, 73, 74, 75, 76, 77, 78, 79, 80, 81, 82, 83, 84, 85, 86, 87, 88, 89, 90, 91, 92, 93, 94, 95] ?_
  refine ce ?_
  refine sq ?_
  refine rg 10000 ?_
  refine pr [2, 3, 4, 6, 7, 17, 31, 33, 34, 35, 36, 37, 38, 39, 40, 41, 42, 43, 44, 45, 46, 47, 48, 49, 50, 51, 52, 53, 54, 55, 56, 57, 58, 59, 60, 61, 62, 63, 64, 65, 66, 67, 68, 69, 70, 71, 72, 73, 74, 75, 76, 77, 78, 79, 80, 81, 82, 83, 84, 85, 86, 87, 88, 89, 90, 91, 92, 93, 94, 95] ?_
  refine ce ?_
  refine sq ?_
  refine rg 12000 ?_
  refine pr [2, 3, 4, 6, 7, 17, 41, 43, 44, 45, 46, 47, 48, 49, 50, 51, 52, 53, 54, 55, 56, 57, 58, 59, 60, 61, 62, 63, 64, 65, 66, 67, 68, 69, 70, 71, 72, 73, 74, 75, 76, 77, 78, 79, 80, 81, 82, 83, 84, 85, 86, 87, 88, 89, 90, 91, 92, 93, 94, 95] ?_
  refine ce ?_
  refine sq ?_
  refine rg 14000 ?_
  refine pr [2, 3, 4, 6, 7, 17, 51, 53, 54, 55, 56, 57, 58, 59, 60, 61, 62, 63, 64, 65, 66, 67, 68, 69, 70, 71, 72, 73, 74, 75, 76, 77, 78, 79, 80, 81, 82, 83, 84, 85, 86, 87, 88, 89, 90, 91, 92, 93, 94, 95] ?_
  refine ct ?_
  refine sq ?_
  refine sq ?_
  refine rg 15000 ?_
  refine pr [2, 3, 4, 6, 7, 54, 55, 56, 57, 58, 59, 60, 61, 62, 63, 64, 65, 66, 88, 89, 90, 91, 92, 93, 94, 95] ?_
  refine ct ?_
  refine sq ?_
  refine dr ?_
  refine de 16000 ?_
  refine dc id (hb w) ?_
  refine de 16100 ?_
  refine dn ?_
  refine pr [2, 3, 4, 6, 7, 61, 62, 63, 64, 65, 66, 88, 89, 90, 91, 92, 93, 94, 95] ?_
  refine k_ret ?_
  show retQ _ _ _ _ _ _ _
  simp [*]

attribute [local simp] E.av E.row_eq Val.av Val.num fitF bitV sumR in
theorem spec107_if0 (row : List Val) (hrow : row.length ≤ Flat.lim) (col : Int) (c : Val) (kids : List E) (eo ec : Int) (ev : Val) (ek : List E) (FE : Int → Val × Int) (he : ∀ w : Int, Flat.Sp Try.prog 55 [.ptr 0 0, (E.mk eo ec ev ek).av] [(.var 0, .n 2), (.cell 0 0, .av (vv (.int .i64 w))), (.cell 0 1, .av (.p (.ps (row.map Val.row))))] (FE w).1.av [(.var 0, .n 2), (.cell 0 0, .av (vv (.int .i64 (FE w).2))), (.cell 0 1, .av (.p (.ps (row.map Val.row))))]) (hk3 : 2 < kids.length) (hke : kids[2] = E.mk eo ec ev ek) (FB : Int → Val × Int) (n w : Int) (hw : (w != 0) = false)(hn0 : (n != 0) = false) : Flat.Sp Try.prog 107 [.ptr 0 0, (E.mk 12 col c kids).av, vv (.int .i64 n)] [(.var 0, .n 2), (.cell 0 0, .av (vv (.int .i64 w))), (.cell 0 1, .av (.p (.ps (row.map Val.row))))] ((sumR 12 n FB FE w).1.av) [(.var 0, .n 2), (.cell 0 0, .av (vv (.int .i64 (sumR 12 n FB FE w).2))), (.cell 0 1, .av (.p (.ps (row.map Val.row))))] := by
  refine sk Try.func107 ?_
  intro F G hn hG
  have hk4 : (2 : Int) < (kids.length : Int) := by omega
  refine sq ?_
  refine rg 1000 ?_
  refine pr [2, 3, 4, 6, 7, 8, 9, 10, 11, 12, 13, 14, 15, 16, 17, 18, 19, 20, 21, 22, 23, 24, 25, 26, 27, 28, 29, 30, 31, 32, 33, 34, 35, 36, 37, 38, 39, 40, 41, 42, 43, 44, 45, 46, 47, 48, 49, 50, 51, 52, 53, 54, 55, 56, 57, 58, 59, 60, 61, 62, 63, 64, 65, 66, 67, 68, 69, 70, 71, 72, 73, 74, 75, 76, 77, 78, 79, 80, 81, 82, 83, 84, 85, 86, 87, 88, 89, 90, 91, 92, 93, 94, 95] ?_
  refine sq ?_
  refine sq ?_
  refine rg 2000 ?_
  refine pr [2, 3, 4, 6, 7, 13, 14, 15, 16, 17, 18, 19, 20, 21, 22, 23, 24, 25, 26, 27, 28, 29, 30, 31, 32, 33, 34, 35, 36, 37, 38, 39, 40, 41, 42, 43, 44, 45, 46, 47, 48, 49, 50, 51, 52, 53, 54, 55, 56, 57, 58, 59, 60, 61, 62, 63, 64, 65, 66, 67, 68, 69, 70, 71, 72, 73, 74, 75, 76, 77, 78, 79, 80, 81, 82, 83, 84, 85, 86, 87, 88, 89, 90, 91, 92, 93, 94, 95] ?_
  refine ce ?_
  refine k_skip ?_
  refine sq ?_
  refine rg 4000 ?_
  refine pr [2, 3, 4, 6, 7, 16, 17, 18, 19, 20, 21, 22, 23, 24, 25, 26, 27, 28, 29, 30, 31, 32, 33, 34, 35, 36, 37, 38, 39, 40, 41, 42, 43, 44, 45, 46, 47, 48, 49, 50, 51, 52, 53, 54, 55, 56, 57, 58, 59, 60, 61, 62, 63, 64, 65, 66, 67, 68, 69, 70, 71, 72, 73, 74, 75, 76, 77, 78, 79, 80, 81, 82, 83, 84, 85, 86, 87, 88, 89, 90, 91, 92, 93, 94, 95] ?_
  refine sq ?_
  refine sq ?_
  refine rg 5000 ?_
  refine pr [2, 3, 4, 6, 7, 17, 18, 19, 20, 21, 22, 23, 24, 25, 26, 27, 28, 29, 30, 31, 32, 33, 34, 35, 36, 37, 38, 39, 40, 41, 42, 43, 44, 45, 46, 47, 48, 49, 50, 51, 52, 53, 54, 55, 56, 57, 58, 59, 60, 61, 62, 63, 64, 65, 66, 67, 68, 69, 70, 71, 72, 73, 74, 75, 76, 77, 78, 79, 80, 81, 82, 83, 84, 85, 86, 87, 88, 89, 90, 91, 92, 93, 94, 95] ?_
  refine k_block ?_
  refine sq ?_
  refine rg 6000 ?_
  refine pr [2, 3, 4, 6, 7, 17, 18, 20, 21, 22, 23, 24, 25, 26, 27, 28, 29, 30, 31, 32, 33, 34, 35, 36, 37, 38, 39, 40, 41, 42, 43, 44, 45, 46, 47, 48, 49, 50, 51, 52, 53, 54, 55, 56, 57, 58, 59, 60, 61, 62, 63, 64, 65, 66, 67, 68, 69, 70, 71, 72, 73, 74, 75, 76, 77, 78, 79, 80, 81, 82, 83, 84, 85, 86, 87, 88, 89, 90, 91, 92, 93, 94, 95] ?_
  refine ce ?_
  refine sq ?_
  refine rg 8000 ?_
  refine pr [2, 3, 4, 6, 7, 17, 23, 25, 26, 27, 28, 29, 30, 31, 32, 33, 34, 35, 36, 37, 38, 39, 40, 41, 42, 43, 44, 45, 46, 47, 48, 49, 50, 51, 52, 53, 54, 55, 56, 57, 58, 59, 60, 61, 62, 63, 64, 65, 66, 67, 68, 69, 70, 71, 72, 73, 74, 75, 76, 77, 78, 79, 80, 81, 82, 83, 84, 85, 86, 87, 88, 89, 90, 91, 92, 93, 94, 95] ?_
  refine ce ?_
  refine sq ?_
  refine rg 10000 ?_
  refine pr [2, 3, 4, 6, 7, 17, 31, 33, 34, 35, 36, 37, 38, 39, 40, 41, 42, 43, 44, 45, 46, 47, 48, 49, 50, 51, 52, 53, 54, 55, 56, 57, 58, 59, 60, 61, 62, 63, 64, 65, 66, 67, 68, 69, 70, 71, 72, 73, 74, 75, 76, 77, 78, 79, 80, 81, 82, 83, 84, 85, 86, 87, 88, 89, 90, 91, 92, 93, 94, 95] ?_
  refine ce ?_
  refine sq ?_
  refine rg 12000 ?_
  refine pr [2, 3, 4, 6, 7, 17, 41, 43, 44, 45, 46, 47, 48, 49, 50, 51, 52, 53, 54, 55, 56, 57, 58, 59, 60, 61, 62, 63, 64, 65, 66, 67, 68, 69, 70, 71, 72, 73, 74, 75, 76, 77, 78, 79, 80, 81, 82, 83, 84, 85, 86, 87, 88, 89, 90, 91, 92, 93, 94, 95] ?_
  refine ce ?_
  refine sq ?_
  refine rg 14000 ?_
  refine pr [2, 3, 4, 6, 7, 17, 51, 53, 54, 55, 56, 57, 58, 59, 60, 61, 62, 63, 64, 65, 66, 67, 68, 69, 70, 71, 72, 73, 74, 75, 76, 77, 78, 79, 80, 81, 82, 83, 84, 85, 86, 87, 88, 89, 90, 91, 92, 93, 94, 95] ?_
  refine ct ?_
  refine sq ?_
  refine sq ?_
  refine rg 15000 ?_
  refine pr [2, 3, 4, 6, 7, 54, 55, 56, 57, 58, 59, 60, 61, 62, 63, 64, 65, 66, 88, 89, 90, 91, 92, 93, 94, 95] ?_
  refine ce ?_
  refine k_skip ?_
  refine sq ?_
  refine dr ?_
  refine de 17000 ?_
  refine dc id (he w) ?_
  refine de 17100 ?_
  refine dn ?_
  refine pr [2, 3, 6, 7, 88, 89, 90, 91, 92, 93, 94, 95] ?_
  refine k_ret ?_
  show retQ _ _ _ _ _ _ _
  simp [*]

attribute [local simp] E.av E.row_eq Val.av Val.num fitF bitV sumR in
theorem spec107_add (row : List Val) (hrow : row.length ≤ Flat.lim) (col : Int) (c : Val) (kids : List E) (bo bc : Int) (bv : Val) (bk : List E) (FB : Int → Val × Int) (hb : ∀ w : Int, Flat.Sp Try.prog 55 [.ptr 0 0, (E.mk bo bc bv bk).av] [(.var 0, .n 2), (.cell 0 0, .av (vv (.int .i64 w))), (.cell 0 1, .av (.p (.ps (row.map Val.row))))] (FB w).1.av [(.var 0, .n 2), (.cell 0 0, .av (vv (.int .i64 (FB w).2))), (.cell 0 1, .av (.p (.ps (row.map Val.row))))]) (hk1 : 1 < kids.length) (hkb : kids[1] = E.mk bo bc bv bk) (FE : Int → Val × Int) (n w : Int) (hw : (w != 0) = false) : Flat.Sp Try.prog 107 [.ptr 0 0, (E.mk 3 col c kids).av, vv (.int .i64 n)] [(.var 0, .n 2), (.cell 0 0, .av (vv (.int .i64 w))), (.cell 0 1, .av (.p (.ps (row.map Val.row))))] ((sumR 3 n FB FE w).1.av) [(.var 0, .n 2), (.cell 0 0, .av (vv (.int .i64 (sumR 3 n FB FE w).2))), (.cell 0 1, .av (.p (.ps (row.map Val.row))))] := by
  refine sk Try.func107 ?_
  intro F G hn hG
  have hk2 : (1 : Int) < (kids.length : Int) := by omega
  refine sq ?_
  refine rg 1000 ?_
  refine pr [2, 3, 4, 6, 7, 8, 9, 10, 11, 12, 13, 14, 15, 16, 17, 18, 19, 20, 21, 22, 23, 24, 25, 26, 27, 28, 29, 30, 31, 32, 33, 34, 35, 36, 37, 38, 39, 40, 41, 42, 43, 44, 45, 46, 47, 48, 49, 50, 51, 52, 53, 54, 55, 56, 57, 58, 59, 60, 61, 62, 63, 64, 65, 66, 67, 68, 69, 70, 71, 72, 73, 74, 75, 76, 77, 78, 79, 80, 81, 82, 83, 84, 85, 86, 87, 88, 89, 90, 91, 92, 93, 94, 95] ?_
  refine sq ?_
  refine sq ?_
  refine rg 2000 ?_
  refine pr [2, 3, 4, 6, 7, 13, 14, 15, 16, 17, 18, 19, 20, 21, 22, 23, 24, 25, 26, 27, 28, 29, 30, 31, 32, 33, 34, 35, 36, 37, 38, 39, 40, 41, 42, 43, 44, 45, 46, 47, 48, 49, 50, 51, 52, 53, 54, 55, 56, 57, 58, 59, 60, 61, 62, 63, 64, 65, 66, 67, 68, 69, 70, 71, 72, 73, 74, 75, 76, 77, 78, 79, 80, 81, 82, 83, 84, 85, 86, 87, 88, 89, 90, 91, 92, 93, 94, 95] ?_
  refine ce ?_
  refine k_skip ?_
  refine sq ?_
  refine rg 4000 ?_
  refine pr [2, 3, 4, 6, 7, 16, 17, 18, 19, 20, 21, 22, 23, 24, 25, 26, 27, 28, 29, 30, 31, 32, 33, 34, 35, 36, 37, 38, 39, 40, 41, 42, 43, 44, 45, 46, 47, 48, 49, 50, 51, 52, 53, 54, 55, 56, 57, 58, 59, 60, 61, 62, 63, 64, 65, 66, 67, 68, 69, 70, 71, 72, 73, 74, 75, 76, 77, 78, 79, 80, 81, 82, 83, 84, 85, 86, 87, 88, 89, 90, 91, 92, 93, 94, 95] ?_
  refine sq ?_
  refine sq ?_
  refine rg 5000 ?_
  refine pr [2, 3, 4, 6, 7, 17, 18, 19, 20, 21, 22, 23, 24, 25, 26, 27, 28, 29, 30, 31, 32, 33, 34, 35, 36, 37, 38, 39, 40, 41, 42, 43, 44, 45, 46, 47, 48, 49, 50, 51, 52, 53, 54, 55, 56, 57, 58, 59, 60, 61, 62, 63, 64, 65, 66, 67, 68, 69, 70, 71, 72, 73, 74, 75, 76, 77, 78, 79, 80, 81, 82, 83, 84, 85, 86, 87, 88, 89, 90, 91, 92, 93, 94, 95] ?_
  refine k_block ?_
  refine sq ?_
  refine rg 6000 ?_
  refine pr [2, 3, 4, 6, 7, 17, 18, 20, 21, 22, 23, 24, 25, 26, 27, 28, 29, 30, 31, 32, 33, 34, 35, 36, 37, 38, 39, 40, 41, 42, 43, 44, 45, 46, 47, 48, 49, 50, 51, 52, 53, 54, 55, 56, 57, 58, 59, 60, 61, 62, 63, 64, 65, 66, 67, 68, 69, 70, 71, 72, 73, 74, 75, 76, 77, 78, 79, 80, 81, 82, 83, 84, 85, 86, 87, 88, 89, 90, 91, 92, 93, 94, 95] ?_
  refine ce ?_
  refine sq ?_
  refine rg 8000 ?_
  refine pr [2, 3, 4, 6, 7, 17, 23, 25, 26, 27, 28, 29, 30, 31, 32, 33, 34, 35, 36, 37, 38, 39, 40, 41, 42, 43, 44, 45, 46, 47, 48, 49, 50, 51, 52, 53, 54, 55, 56, 57, 58, 59, 60, 61, 62, 63, 64, 65, 66, 67, 68, 69, 70, 71, 72, 73, 74, 75, 76, 77, 78, 79, 80, 81, 82, 83, 84, 85, 86, 87, 88, 89, 90, 91, 92, 93, 94, 95] ?_
  refine ce ?_
  refine sq ?_
  refine rg 10000 ?_
  refine pr [2, 3, 4, 6, 7, 17, 31, 33, 34, 35, 36, 37, 38, 39, 40, 41, 42, 43, 44, 45, 46, 47, 48, 49, 50, 51, 52, 53, 54, 55, 56, 57, 58, 59, 60, 61, 62, 63, 64, 65, 66, 67, 68, 69, 70, 71, 72, 73, 74, 75, 76, 77, 78, 79, 80, 81, 82, 83, 84, 85, 86, 87, 88, 89, 90, 91, 92, 93, 94, 95] ?_
  refine ce ?_
  refine sq ?_
  refine rg 12000 ?_
  refine pr [2, 3, 4, 6, 7, 17, 41, 43, 44, 45, 46, 47, 48, 49, 50, 51, 52, 53, 54, 55, 56, 57, 58, 59, 60, 61, 62, 63, 64, 65, 66, 67, 68, 69, 70, 71, 72, 73, 74, 75, 76, 77, 78, 79, 80, 81, 82, 83, 84, 85, 86, 87, 88, 89, 90, 91, 92, 93, 94, 95] ?_
  refine ce ?_
  refine sq ?_
  refine rg 14000 ?_
  refine pr [2, 3, 4, 6, 7, 17, 51, 53, 54, 55, 56, 57, 58, 59, 60, 61, 62, 63, 64, 65, 66, 67, 68, 69, 70, 71, 72, 73, 74, 75, 76, 77, 78, 79, 80, 81, 82, 83, 84, 85, 86, 87, 88, 89, 90, 91, 92, 93, 94, 95] ?_
  refine ce ?_
  refine sq ?_
  refine rg 18000 ?_
  refine pr [2, 3, 6, 7, 17, 67, 69, 70, 71, 72, 73, 74, 75, 76, 77, 78, 79, 80, 81, 82, 83, 84, 85, 86, 87, 88, 89, 90, 91, 92, 93, 94, 95] ?_
  refine ct ?_
  refine sq ?_
  refine dr ?_
  refine de 19000 ?_
  refine dk [1000, 1001] (fun k => if k = 1 then 1000 else if k = 2 then 1001 else k) (spec162 row hrow 3 col c kids bo bc bv bk FB hb hk1 hkb w) ?_
  refine de 19100 ?_
  refine dc id (spec165 [n, (numF FB w).1] (by simp [Flat.lim])) ?_ (hg := by simp [*, irow]) (hf := by simp [*, irow]; exact is_rfl _) (hx := by simp [*, irow]; exact is_rfl _) (hargs := by simp [*, irow]) (hB := by simp [*, irow]) (hL := by simp [*, irow]) (hd := by simp [*, irow]; exact is_rfl _)
  refine de 19200 ?_
  refine dc id (spec163 (numF FB w).2 (.ps (row.map Val.row)) (tfit (tsum [n, (numF FB w).1])).1 (tfit (tsum [n, (numF FB w).1])).2) ?_
  refine de 19300 ?_
  refine dn ?_
  refine pr [2, 3, 6, 7, 88, 89, 90, 91, 92, 93, 94, 95] ?_
  refine k_ret ?_
  show retQ _ _ _ _ _ _ _
  simp [*]

attribute [local simp] E.av E.row_eq Val.av Val.num fitF bitV sumR in
theorem spec107_sub (row : List Val) (hrow : row.length ≤ Flat.lim) (col : Int) (c : Val) (kids : List E) (bo bc : Int) (bv : Val) (bk : List E) (FB : Int → Val × Int) (hb : ∀ w : Int, Flat.Sp Try.prog 55 [.ptr 0 0, (E.mk bo bc bv bk).av] [(.var 0, .n 2), (.cell 0 0, .av (vv (.int .i64 w))), (.cell 0 1, .av (.p (.ps (row.map Val.row))))] (FB w).1.av [(.var 0, .n 2), (.cell 0 0, .av (vv (.int .i64 (FB w).2))), (.cell 0 1, .av (.p (.ps (row.map Val.row))))]) (hk1 : 1 < kids.length) (hkb : kids[1] = E.mk bo bc bv bk) (FE : Int → Val × Int) (n w : Int) (hw : (w != 0) = false) : Flat.Sp Try.prog 107 [.ptr 0 0, (E.mk 4 col c kids).av, vv (.int .i64 n)] [(.var 0, .n 2), (.cell 0 0, .av (vv (.int .i64 w))), (.cell 0 1, .av (.p (.ps (row.map Val.row))))] ((sumR 4 n FB FE w).1.av) [(.var 0, .n 2), (.cell 0 0, .av (vv (.int .i64 (sumR 4 n FB FE w).2))), (.cell 0 1, .av (.p (.ps (row.map Val.row))))] := by
  refine sk Try.func107 ?_
  intro F G hn hG
  have hk2 : (1 : Int) < (kids.length : Int) := by omega
  refine sq ?_
  refine rg 1000 ?_
  refine pr [2, 3, 4, 6, 7, 8, 9, 10, 11, 12, 13, 14, 15, 16, 17, 18, 19, 20, 21, 22, 23, 24, 25, 26, 27, 28, 29, 30, 31, 32, 33, 34, 35, 36, 37, 38, 39, 40, 41, 42, 43, 44, 45, 46, 47, 48, 49, 50, 51, 52, 53, 54, 55, 56, 57, 58, 59, 60, 61, 62, 63, 64, 65, 66, 67, 68, 69, 70, 71, 72, 73, 74, 75, 76, 77, 78, 79, 80, 81, 82, 83, 84, 85, 86, 87, 88, 89, 90, 91, 92, 93, 94, 95] ?_
  refine sq ?_
  refine sq ?_
  refine rg 2000 ?_
  refine pr [2, 3, 4, 6, 7, 13, 14, 15, 16, 17, 18, 19, 20, 21, 22, 23, 24, 25, 26, 27, 28, 29, 30, 31, 32, 33, 34, 35, 36, 37, 38, 39, 40, 41, 42, 43, 44, 45, 46, 47, 48, 49, 50, 51, 52, 53, 54, 55, 56, 57, 58, 59, 60, 61, 62, 63, 64, 65, 66, 67, 68, 69, 70, 71, 72, 73, 74, 75, 76, 77, 78, 79, 80, 81, 82, 83, 84, 85, 86, 87, 88, 89, 90, 91, 92, 93, 94, 95] ?_
  refine ce ?_
  refine k_skip ?_
  refine sq ?_
  refine rg 4000 ?_
  refine pr [2, 3, 4, 6, 7, 16, 17, 18, 19, 20, 21, 22, 23, 24, 25, 26, 27, 28, 29, 30, 31, 32, 33, 34, 35, 36, 37, 38, 39, 40, 41, 42, 43, 44, 45, 46, 47, 48, 49, 50, 51, 52, 53, 54, 55, 56, 57, 58, 59, 60, 61, 62, 63, 64, 65, 66, 67, 68, 69, 70, 71, 72, 73, 74, 75, 76, 77, 78, 79, 80, 81, 82, 83, 84, 85, 86, 87, 88, 89, 90, 91, 92, 93, 94, 95] ?_
  refine sq ?_
  refine sq ?_
  refine rg 5000 ?_
  refine pr [2, 3, 4, 6, 7, 17, 18, 19, 20, 21, 22, 23, 24, 25, 26, 27, 28, 29, 30, 31, 32, 33, 34, 35, 36, 37, 38, 39, 40, 41, 42, 43, 44, 45, 46, 47, 48, 49, 50, 51, 52, 53, 54, 55, 56, 57, 58, 59, 60, 61, 62, 63, 64, 65, 66, 67, 68, 69, 70, 71, 72, 73, 74, 75, 76, 77, 78, 79, 80, 81, 82, 83, 84, 85, 86, 87, 88, 89, 90, 91, 92, 93, 94, 95] ?_
  refine k_block ?_
  refine sq ?_
  refine rg 6000 ?_
  refine pr [2, 3, 4, 6, 7, 17, 18, 20, 21, 22, 23, 24, 25, 26, 27, 28, 29, 30, 31, 32, 33, 34, 35, 36, 37, 38, 39, 40, 41, 42, 43, 44, 45, 46, 47, 48, 49, 50, 51, 52, 53, 54, 55, 56, 57, 58, 59, 60, 61, 62, 63, 64, 65, 66, 67, 68, 69, 70, 71, 72, 73, 74, 75, 76, 77, 78, 79, 80, 81, 82, 83, 84, 85, 86, 87, 88, 89, 90, 91, 92, 93, 94, 95] ?_
  refine ce ?_
  refine sq ?_
  refine rg 8000 ?_
  refine pr [2, 3, 4, 6, 7, 17, 23, 25, 26, 27, 28, 29, 30, 31, 32, 33, 34, 35, 36, 37, 38, 39, 40, 41, 42, 43, 44, 45, 46, 47, 48, 49, 50, 51, 52, 53, 54, 55, 56, 57, 58, 59, 60, 61, 62, 63, 64, 65, 66, 67, 68, 69, 70, 71, 72, 73, 74, 75, 76, 77, 78, 79, 80, 81, 82, 83, 84, 85, 86, 87, 88, 89, 90, 91, 92, 93, 94, 95] ?_
  refine ce ?_
  refine sq ?_
  refine rg 10000 ?_
  refine pr [2, 3, 4, 6, 7, 17, 31, 33, 34, 35, 36, 37, 38, 39, 40, 41, 42, 43, 44, 45, 46, 47, 48, 49, 50, 51, 52, 53, 54, 55, 56, 57, 58, 59, 60, 61, 62, 63, 64, 65, 66, 67, 68, 69, 70, 71, 72, 73, 74, 75, 76, 77, 78, 79, 80, 81, 82, 83, 84, 85, 86, 87, 88, 89, 90, 91, 92, 93, 94, 95] ?_
  refine ce ?_
  refine sq ?_
  refine rg 12000 ?_
  refine pr [2, 3, 4, 6, 7, 17, 41, 43, 44, 45, 46, 47, 48, 49, 50, 51, 52, 53, 54, 55, 56, 57, 58, 59, 60, 61, 62, 63, 64, 65, 66, 67, 68, 69, 70, 71, 72, 73, 74, 75, 76, 77, 78, 79, 80, 81, 82, 83, 84, 85, 86, 87, 88, 89, 90, 91, 92, 93, 94, 95] ?_
  refine ce ?_
  refine sq ?_
  refine rg 14000 ?_
  refine pr [2, 3, 4, 6, 7, 17, 51, 53, 54, 55, 56, 57, 58, 59, 60, 61, 62, 63, 64, 65, 66, 67, 68, 69, 70, 71, 72, 73, 74, 75, 76, 77, 78, 79, 80, 81, 82, 83, 84, 85, 86, 87, 88, 89, 90, 91, 92, 93, 94, 95] ?_
  refine ce ?_
  refine sq ?_
  refine rg 18000 ?_
  refine pr [2, 3, 6, 7, 17, 67, 69, 70, 71, 72, 73, 74, 75, 76, 77, 78, 79, 80, 81, 82, 83, 84, 85, 86, 87, 88, 89, 90, 91, 92, 93, 94, 95] ?_
  refine ce ?_
  refine sq ?_
  refine rg 20000 ?_
  refine pr [2, 3, 6, 7, 78, 80, 81, 82, 83, 84, 85, 86, 87, 88, 89, 90, 91, 92, 93, 94, 95] ?_
  refine ct ?_
  refine sq ?_
  refine dr ?_
  refine de 21000 ?_
  refine dk [1000, 1001] (fun k => if k = 1 then 1000 else if k = 2 then 1001 else k) (spec162 row hrow 4 col c kids bo bc bv bk FB hb hk1 hkb w) ?_
  refine dc id (spec164 n (numF FB w).1) ?_
  refine de 21200 ?_
  refine dc id (spec163 (numF FB w).2 (.ps (row.map Val.row)) (lessR n (numF FB w).1).1 (lessR n (numF FB w).1).2) ?_
  refine de 21300 ?_
  refine dn ?_
  refine pr [2, 3, 6, 7, 88, 89, 90, 91, 92, 93, 94, 95] ?_
  refine k_ret ?_
  show retQ _ _ _ _ _ _ _
  simp [*]

attribute [local simp] E.av E.row_eq Val.av Val.num fitF bitV sumR in
theorem spec107_mul (row : List Val) (hrow : row.length ≤ Flat.lim) (col : Int) (c : Val) (kids : List E) (bo bc : Int) (bv : Val) (bk : List E) (FB : Int → Val × Int) (hb : ∀ w : Int, Flat.Sp Try.prog 55 [.ptr 0 0, (E.mk bo bc bv bk).av] [(.var 0, .n 2), (.cell 0 0, .av (vv (.int .i64 w))), (.cell 0 1, .av (.p (.ps (row.map Val.row))))] (FB w).1.av [(.var 0, .n 2), (.cell 0 0, .av (vv (.int .i64 (FB w).2))), (.cell 0 1, .av (.p (.ps (row.map Val.row))))]) (hk1 : 1 < kids.length) (hkb : kids[1] = E.mk bo bc bv bk) (FE : Int → Val × Int) (n w : Int) (hw : (w != 0) = false) : Flat.Sp Try.prog 107 [.ptr 0 0, (E.mk 5 col c kids).av, vv (.int .i64 n)] [(.var 0, .n 2), (.cell 0 0, .av (vv (.int .i64 w))), (.cell 0 1, .av (.p (.ps (row.map Val.row))))] ((sumR 5 n FB FE w).1.av) [(.var 0, .n 2), (.cell 0 0, .av (vv (.int .i64 (sumR 5 n FB FE w).2))), (.cell 0 1, .av (.p (.ps (row.map Val.row))))] := by
  refine sk Try.func107 ?_
  intro F G hn hG
  have hk2 : (1 : Int) < (kids.length : Int) := by omega
  refine sq ?_
  refine rg 1000 ?_
  refine pr [2, 3, 4, 6, 7, 8, 9, 10, 11, 12, 13, 14, 15, 16, 17, 18, 19, 20, 21, 22, 23, 24, 25, 26, 27, 28, 29, 30, 31, 32, 33, 34, 35, 36, 37, 38, 39, 40, 41, 42, 43, 44, 45, 46, 47, 48, 49, 50, 51, 52, 53, 54, 55, 56, 57, 58, 59, 60, 61, 62, 63, 64, 65, 66, 67, 68, 69, 70, 71, 72, 73, 74, 75, 76, 77, 78, 79, 80, 81, 82, 83, 84, 85, 86, 87, 88, 89, 90, 91, 92, 93, 94, 95] ?_
  refine sq ?_
  refine sq ?_
  refine rg 2000 ?_
  refine pr [2, 3, 4, 6, 7, 13, 14, 15, 16, 17, 18, 19, 20, 21, 22, 23, 24, 25, 26, 27, 28, 29, 30, 31, 32, 33, 34, 35, 36, 37, 38, 39, 40, 41, 42, 43, 44, 45, 46, 47, 48, 49, 50, 51, 52, 53, 54, 55, 56, 57, 58, 59, 60, 61, 62, 63, 64, 65, 66, 67, 68, 69, 70, 71, 72, 73, 74, 75, 76, 77, 78, 79, 80, 81, 82, 83, 84, 85, 86, 87, 88, 89, 90, 91, 92, 93, 94, 95] ?_
  refine ce ?_
  refine k_skip ?_
  refine sq ?_
  refine rg 4000 ?_
  refine pr [2, 3, 4, 6, 7, 16, 17, 18, 19, 20, 21, 22, 23, 24, 25, 26, 27, 28, 29, 30, 31, 32, 33, 34, 35, 36, 37, 38, 39, 40, 41, 42, 43, 44, 45, 46, 47, 48, 49, 50, 51, 52, 53, 54, 55, 56, 57, 58, 59, 60, 61, 62, 63, 64, 65, 66, 67, 68, 69, 70, 71, 72, 73, 74, 75, 76, 77, 78, 79, 80, 81, 82, 83, 84, 85, 86, 87, 88, 89, 90, 91, 92, 93, 94, 95] ?_
  refine sq ?_
  refine sq ?_
  refine rg 5000 ?_
  refine pr [2, 3, 4, 6, 7, 17, 18, 19, 20, 21, 22, 23, 24, 25, 26, 27, 28, 29, 30, 31, 32, 33, 34, 35, 36, 37, 38, 39, 40, 41, 42, 43, 44, 45, 46, 47, 48, 49, 50, 51, 52, 53, 54, 55, 56, 57, 58, 59, 60, 61, 62, 63, 64, 65, 66, 67, 68, 69, 70, 71, 72, 73, 74, 75, 76, 77, 78, 79, 80, 81, 82, 83, 84, 85, 86, 87, 88, 89, 90, 91, 92, 93, 94, 95] ?_
  refine k_block ?_
  refine sq ?_
  refine rg 6000 ?_
  refine pr [2, 3, 4, 6, 7, 17, 18, 20, 21, 22, 23, 24, 25, 26, 27, 28, 29, 30, 31, 32, 33, 34, 35, 36, 37, 38, 39, 40, 41, 42, 43, 44, 45, 46, 47, 48, 49, 50, 51, 52, 53, 54, 55, 56, 57, 58, 59, 60, 61, 62, 63, 64, 65, 66, 67, 68, 69, 70, 71, 72, 73, 74, 75, 76, 77, 78, 79, 80, 81, 82, 83, 84, 85, 86, 87, 88, 89, 90, 91, 92, 93, 94, 95] ?_
  refine ce ?_
  refine sq ?_
  refine rg 8000 ?_
  refine pr [2, 3, 4, 6, 7, 17, 23, 25, 26, 27, 28, 29, 30, 31, 32, 33, 34, 35, 36, 37, 38, 39, 40, 41, 42, 43, 44, 45, 46, 47, 48, 49, 50, 51, 52, 53, 54, 55, 56, 57, 58, 59, 60, 61, 62, 63, 64, 65, 66, 67, 68, 69, 70, 71, 72, 73, 74, 75, 76, 77, 78, 79, 80, 81, 82, 83, 84, 85, 86, 87, 88, 89, 90, 91, 92, 93, 94, 95] ?_
  refine ce ?_
  refine sq ?_
  refine rg 10000 ?_
  refine pr [2, 3, 4, 6, 7, 17, 31, 33, 34, 35, 36, 37, 38, 39, 40, 41, 42, 43, 44, 45, 46, 47, 48, 49, 50, 51, 52, 53, 54, 55, 56, 57, 58, 59, 60, 61, 62, 63, 64, 65, 66, 67, 68, 69, 70, 71, 72, 73, 74, 75, 76, 77, 78, 79, 80, 81, 82, 83, 84, 85, 86, 87, 88, 89, 90, 91, 92, 93, 94, 95] ?_
  refine ce ?_
  refine sq ?_
  refine rg 12000 ?_
  refine pr [2, 3, 4, 6, 7, 17, 41, 43, 44, 45, 46, 47, 48, 49, 50, 51, 52, 53, 54, 55, 56, 57, 58, 59, 60, 61, 62, 63, 64, 65, 66, 67, 68, 69, 70, 71, 72, 73, 74, 75, 76, 77, 78, 79, 80, 81, 82, 83, 84, 85, 86, 87, 88, 89, 90, 91, 92, 93, 94, 95] ?_
  refine ce ?_
  refine sq ?_
  refine rg 14000 ?_
  refine pr [2, 3, 4, 6, 7, 17, 51, 53, 54, 55, 56, 57, 58, 59, 60, 61, 62, 63, 64, 65, 66, 67, 68, 69, 70, 71, 72, 73, 74, 75, 76, 77, 78, 79, 80, 81, 82, 83, 84, 85, 86, 87, 88, 89, 90, 91, 92, 93, 94, 95] ?_
  refine ce ?_
  refine sq ?_
  refine rg 18000 ?_
  refine pr [2, 3, 6, 7, 17, 67, 69, 70, 71, 72, 73, 74, 75, 76, 77, 78, 79, 80, 81, 82, 83, 84, 85, 86, 87, 88, 89, 90, 91, 92, 93, 94, 95] ?_
  refine ce ?_
  refine sq ?_
  refine rg 20000 ?_
  refine pr [2, 3, 6, 7, 78, 80, 81, 82, 83, 84, 85, 86, 87, 88, 89, 90, 91, 92, 93, 94, 95] ?_
  refine ce ?_
  refine k_skip ?_
  refine k_nil ?_
  show AK _ _ _ _ _ _
  refine sq ?_
  refine dr ?_
  refine de 22000 ?_
  refine dk [1000, 1001] (fun k => if k = 1 then 1000 else if k = 2 then 1001 else k) (spec162 row hrow 5 col c kids bo bc bv bk FB hb hk1 hkb w) ?_
  refine dc id (spec95 n (numF FB w).1) ?_
  refine de 22200 ?_
  refine dc id (spec163 (numF FB w).2 (.ps (row.map Val.row)) (timesR n (numF FB w).1).1 (timesR n (numF FB w).1).2) ?_
  refine de 22300 ?_
  refine dn ?_
  refine pr [6] ?_
  refine k_ret ?_
  show retQ _ _ _ _ _ _ _
  simp [*]

/-- What is left of an expression's sum, of whatever shape. -/
theorem spec107_one (row : List Val) (hrow : row.length ≤ Flat.lim) (op col : Int) (c : Val) (kids : List E) (hop : op = 6 ∨ op = 11) (FB FE : Int → Val × Int) (n w : Int) : Flat.Sp Try.prog 107 [.ptr 0 0, (E.mk op col c kids).av, vv (.int .i64 n)] [(.var 0, .n 2), (.cell 0 0, .av (vv (.int .i64 w))), (.cell 0 1, .av (.p (.ps (row.map Val.row))))] ((sumR op n FB FE w).1.av) [(.var 0, .n 2), (.cell 0 0, .av (vv (.int .i64 (sumR op n FB FE w).2))), (.cell 0 1, .av (.p (.ps (row.map Val.row))))] := by
  cases hw : (w != 0) with
  | true => exact spec107_err row hrow op col c kids FB FE n w hw
  | false =>
    rcases hop with rfl | rfl
    · exact spec107_neg row hrow col c kids FB FE n w hw
    · exact spec107_not row hrow col c kids FB FE n w hw

theorem spec107_two (row : List Val) (hrow : row.length ≤ Flat.lim) (op col : Int) (c : Val) (kids : List E) (hop : op = 3 ∨ op = 4 ∨ op = 5 ∨ op = 9 ∨ op = 10) (bo bc : Int) (bv : Val) (bk : List E) (FB : Int → Val × Int) (hb : ∀ w : Int, Flat.Sp Try.prog 55 [.ptr 0 0, (E.mk bo bc bv bk).av] [(.var 0, .n 2), (.cell 0 0, .av (vv (.int .i64 w))), (.cell 0 1, .av (.p (.ps (row.map Val.row))))] (FB w).1.av [(.var 0, .n 2), (.cell 0 0, .av (vv (.int .i64 (FB w).2))), (.cell 0 1, .av (.p (.ps (row.map Val.row))))]) (hk1 : 1 < kids.length) (hkb : kids[1] = E.mk bo bc bv bk) (FE : Int → Val × Int) (n w : Int) : Flat.Sp Try.prog 107 [.ptr 0 0, (E.mk op col c kids).av, vv (.int .i64 n)] [(.var 0, .n 2), (.cell 0 0, .av (vv (.int .i64 w))), (.cell 0 1, .av (.p (.ps (row.map Val.row))))] ((sumR op n FB FE w).1.av) [(.var 0, .n 2), (.cell 0 0, .av (vv (.int .i64 (sumR op n FB FE w).2))), (.cell 0 1, .av (.p (.ps (row.map Val.row))))] := by
  cases hw : (w != 0) with
  | true => exact spec107_err row hrow op col c kids FB FE n w hw
  | false =>
    rcases hop with rfl | rfl | rfl | rfl | rfl
    · exact spec107_add row hrow col c kids bo bc bv bk FB hb hk1 hkb FE n w hw
    · exact spec107_sub row hrow col c kids bo bc bv bk FB hb hk1 hkb FE n w hw
    · exact spec107_mul row hrow col c kids bo bc bv bk FB hb hk1 hkb FE n w hw
    · cases hn0 : (n != 0) with
      | true => exact spec107_and1 row hrow col c kids bo bc bv bk FB hb hk1 hkb FE n w hw hn0
      | false => exact spec107_and0 row hrow col c kids FB FE n w hw hn0
    · cases hn0 : (n != 0) with
      | true => exact spec107_or1 row hrow col c kids FB FE n w hw hn0
      | false => exact spec107_or0 row hrow col c kids bo bc bv bk FB hb hk1 hkb FE n w hw hn0

theorem spec107_if (row : List Val) (hrow : row.length ≤ Flat.lim) (col : Int) (c : Val) (kids : List E) (bo bc : Int) (bv : Val) (bk : List E) (FB : Int → Val × Int) (hb : ∀ w : Int, Flat.Sp Try.prog 55 [.ptr 0 0, (E.mk bo bc bv bk).av] [(.var 0, .n 2), (.cell 0 0, .av (vv (.int .i64 w))), (.cell 0 1, .av (.p (.ps (row.map Val.row))))] (FB w).1.av [(.var 0, .n 2), (.cell 0 0, .av (vv (.int .i64 (FB w).2))), (.cell 0 1, .av (.p (.ps (row.map Val.row))))]) (hk1 : 1 < kids.length) (hkb : kids[1] = E.mk bo bc bv bk) (eo ec : Int) (ev : Val) (ek : List E) (FE : Int → Val × Int) (he : ∀ w : Int, Flat.Sp Try.prog 55 [.ptr 0 0, (E.mk eo ec ev ek).av] [(.var 0, .n 2), (.cell 0 0, .av (vv (.int .i64 w))), (.cell 0 1, .av (.p (.ps (row.map Val.row))))] (FE w).1.av [(.var 0, .n 2), (.cell 0 0, .av (vv (.int .i64 (FE w).2))), (.cell 0 1, .av (.p (.ps (row.map Val.row))))]) (hk3 : 2 < kids.length) (hke : kids[2] = E.mk eo ec ev ek) (n w : Int) : Flat.Sp Try.prog 107 [.ptr 0 0, (E.mk 12 col c kids).av, vv (.int .i64 n)] [(.var 0, .n 2), (.cell 0 0, .av (vv (.int .i64 w))), (.cell 0 1, .av (.p (.ps (row.map Val.row))))] ((sumR 12 n FB FE w).1.av) [(.var 0, .n 2), (.cell 0 0, .av (vv (.int .i64 (sumR 12 n FB FE w).2))), (.cell 0 1, .av (.p (.ps (row.map Val.row))))] := by
  cases hw : (w != 0) with
  | true => exact spec107_err row hrow 12 col c kids FB FE n w hw
  | false =>
    cases hn0 : (n != 0) with
    | true => exact spec107_if1 row hrow col c kids bo bc bv bk FB hb hk1 hkb FE n w hw hn0
    | false => exact spec107_if0 row hrow col c kids eo ec ev ek FE he hk3 hke FB n w hw hn0

end Go.Proofs
end
section
set_option linter.unusedVariables false
set_option linter.unusedSimpArgs false
namespace Go.Proofs
open Go.Flat
set_option maxRecDepth 100000
set_option linter.unusedSimpArgs false
set_option linter.unusedVariables false
attribute [local simp] Bool.and_assoc Bool.or_assoc evalG evalX efD skF guardG guardL isCall stepL evalOp ev evs lk tmpsL app AV.ok fresh vv putCells insV ins del putL place Go.Flat.look fillC fillR getCells loadF storeF binF scalarBin intBin strBin isShift shiftBin unF lenF maxF minF rowsF appendF builtinF idxF natOf sliceP sliceF optEv Flat.cut overwrite toPV toPVs constAV scalarC scalarCs AV.cells TI.isAgg allSome andAll scalarEq buildable Go.Flat.lim retQ resL resAll resOne PartOf noTmp closedIn refs refs.refsL isSomeV hasB ids leA leA.leL renA renA.renL callB refsAll backL dropIds renS LiesAt injB ownB freshB memN locId insAll leA_refl leL_refl okS frzS frzA frzA.frzL evalD feet fine updCells cellsFrom memP footRf footWf noTmpU updIds opOps opIds idsA footR footW guardTs opTs dstTs callR callW renLoc renC inBlockQ thenQ Value.oneCell' IntKind.bits IntKind.signed callWk without

attribute [local simp] E.av E.row_eq Val.av in
theorem spec55_one (row : List Val) (hrow : row.length ≤ Flat.lim) (op : Int) (col : Int) (c : Val) (ao ac : Int) (av : Val) (ak : List E) (hop : op = 6 ∨ op = 11) (ha : ∀ w : Int, Flat.Sp Try.prog 55 [.ptr 0 0, (E.mk ao ac av ak).av] [(.var 0, .n 2), (.cell 0 0, .av (vv (.int .i64 w))), (.cell 0 1, .av (.p (.ps (row.map Val.row))))] (reck row (E.mk ao ac av ak) w).1.av [(.var 0, .n 2), (.cell 0 0, .av (vv (.int .i64 (reck row (E.mk ao ac av ak) w).2))), (.cell 0 1, .av (.p (.ps (row.map Val.row))))]) (w : Int) (hw : (w != 0) = false) : Flat.Sp Try.prog 55 [.ptr 0 0, (E.mk op col c [E.mk ao ac av ak]).av] [(.var 0, .n 2), (.cell 0 0, .av (vv (.int .i64 w))), (.cell 0 1, .av (.p (.ps (row.map Val.row))))] ((reck row (E.mk op col c [E.mk ao ac av ak]) w).1.av) [(.var 0, .n 2), (.cell 0 0, .av (vv (.int .i64 (reck row (E.mk op col c [E.mk ao ac av ak]) w).2))), (.cell 0 1, .av (.p (.ps (row.map Val.row))))] := by
  refine sk Try.func55 ?_
  intro F G hn hG
  have ho1 : (op == 1) = false := by rcases hop with rfl | rfl <;> rfl
  have ho2 : (op == 2) = false := by rcases hop with rfl | rfl <;> rfl
  have ho7 : (op == 7) = false := by rcases hop with rfl | rfl <;> rfl
  have ho8 : (op == 8) = false := by rcases hop with rfl | rfl <;> rfl
  refine sq ?_
  refine rg 1000 ?_
  refine pr [0, 3, 4, 5, 6, 7, 8, 9, 10, 11, 12, 13, 14, 15, 16, 17, 18, 19, 20, 21, 22, 23, 24, 25, 26, 27, 28, 29, 30, 31, 32, 33, 34, 35, 36, 37, 38, 39, 40, 41, 43, 44, 45, 46, 47, 48, 49, 50, 51, 52, 53, 54, 55, 56, 57, 58, 59, 60, 61, 62, 63, 64, 65, 66, 67, 68, 69, 70, 71, 72, 73, 74, 75, 76, 77, 78, 80, 81, 82, 83, 84, 85, 86, 87, 88, 89, 90, 91, 92, 93, 94, 95, 96, 97, 98, 99, 100, 101, 102, 103, 104, 105, 106, 107, 108] ?_
  refine sq ?_
  refine k_block ?_
  refine sq ?_
  refine rg 2000 ?_
  refine pr [0, 3, 4, 5, 6, 7, 8, 15, 16, 17, 18, 19, 20, 21, 22, 23, 24, 25, 26, 27, 28, 29, 30, 31, 32, 33, 34, 35, 36, 37, 38, 39, 40, 41, 43, 44, 45, 46, 47, 48, 49, 50, 51, 52, 53, 54, 55, 56, 57, 58, 59, 60, 61, 62, 63, 64, 65, 66, 67, 68, 69, 70, 71, 72, 73, 74, 75, 76, 77, 78, 80, 81, 82, 83, 84, 85, 86, 87, 88, 89, 90, 91, 92, 93, 94, 95, 96, 97, 98, 99, 100, 101, 102, 103, 104, 105, 106, 107, 108] ?_
  refine ce ?_
  refine sq ?_
  refine rg 4000 ?_
  refine pr [0, 3, 4, 5, 6, 7, 16, 20, 21, 22, 23, 24, 25, 26, 27, 28, 29, 30, 31, 32, 33, 34, 35, 36, 37, 38, 39, 40, 41, 43, 44, 45, 46, 47, 48, 49, 50, 51, 52, 53, 54, 55, 56, 57, 58, 59, 60, 61, 62, 63, 64, 65, 66, 67, 68, 69, 70, 71, 72, 73, 74, 75, 76, 77, 78, 80, 81, 82, 83, 84, 85, 86, 87, 88, 89, 90, 91, 92, 93, 94, 95, 96, 97, 98, 99, 100, 101, 102, 103, 104, 105, 106, 107, 108] ?_
  refine ce ?_
  refine sq ?_
  refine rg 6000 ?_
  refine pr [0, 3, 4, 5, 6, 7, 22, 26, 27, 28, 29, 30, 31, 32, 33, 34, 35, 36, 37, 38, 39, 40, 41, 43, 44, 45, 46, 47, 48, 49, 50, 51, 52, 53, 54, 55, 56, 57, 58, 59, 60, 61, 62, 63, 64, 65, 66, 67, 68, 69, 70, 71, 72, 73, 74, 75, 76, 77, 78, 80, 81, 82, 83, 84, 85, 86, 87, 88, 89, 90, 91, 92, 93, 94, 95, 96, 97, 98, 99, 100, 101, 102, 103, 104, 105, 106, 107, 108] ?_
  refine ce ?_
  refine sq ?_
  refine sq ?_
  refine rg 11000 ?_
  refine pr [0, 3, 4, 5, 6, 7, 52, 56, 57, 58, 59, 60, 61, 62, 63, 64, 65, 66, 67, 68, 69, 70, 71, 72, 73, 74, 75, 76, 77, 78, 80, 81, 82, 83, 84, 85, 86, 87, 88, 89, 90, 91, 92, 93, 94, 95, 96, 97, 98, 99, 100, 101, 102, 103, 104, 105, 106, 107, 108] ?_
  refine ce ?_
  refine rg 12000 ?_
  refine pr [0, 3, 4, 5, 6, 7, 52, 59, 60, 61, 62, 63, 64, 65, 66, 67, 68, 69, 70, 71, 72, 73, 74, 75, 76, 77, 78, 80, 81, 82, 83, 84, 85, 86, 87, 88, 89, 90, 91, 92, 93, 94, 95, 96, 97, 98, 99, 100, 101, 102, 103, 104, 105, 106, 107, 108] ?_
  refine ce ?_
  refine k_skip ?_
  refine k_nil ?_
  show AK _ _ _ _ _ _
  refine sq ?_
  refine dr ?_
  refine de 17000 ?_
  refine dc id (spec108 row hrow ao ac av ak (reck row (E.mk ao ac av ak)) ha w) ?_
  refine dc id (spec107_one row hrow op col c [E.mk ao ac av ak] hop noF noF (numF (reck row (E.mk ao ac av ak)) w).1 (numF (reck row (E.mk ao ac av ak)) w).2) ?_
  refine de 17200 ?_
  refine dn ?_
  refine pr [4] ?_
  refine k_ret ?_
  show retQ _ _ _ _ _ _ _
  simp [*, reck, recks, stepR, Val.av]

attribute [local simp] E.av E.row_eq Val.av in
theorem spec55_two (row : List Val) (hrow : row.length ≤ Flat.lim) (op : Int) (col : Int) (c : Val) (ao ac : Int) (av : Val) (ak : List E) (bo bc : Int) (bv : Val) (bk : List E) (hop : op = 3 ∨ op = 4 ∨ op = 5 ∨ op = 9 ∨ op = 10) (ha : ∀ w : Int, Flat.Sp Try.prog 55 [.ptr 0 0, (E.mk ao ac av ak).av] [(.var 0, .n 2), (.cell 0 0, .av (vv (.int .i64 w))), (.cell 0 1, .av (.p (.ps (row.map Val.row))))] (reck row (E.mk ao ac av ak) w).1.av [(.var 0, .n 2), (.cell 0 0, .av (vv (.int .i64 (reck row (E.mk ao ac av ak) w).2))), (.cell 0 1, .av (.p (.ps (row.map Val.row))))]) (hb : ∀ w : Int, Flat.Sp Try.prog 55 [.ptr 0 0, (E.mk bo bc bv bk).av] [(.var 0, .n 2), (.cell 0 0, .av (vv (.int .i64 w))), (.cell 0 1, .av (.p (.ps (row.map Val.row))))] (reck row (E.mk bo bc bv bk) w).1.av [(.var 0, .n 2), (.cell 0 0, .av (vv (.int .i64 (reck row (E.mk bo bc bv bk) w).2))), (.cell 0 1, .av (.p (.ps (row.map Val.row))))]) (w : Int) (hw : (w != 0) = false) : Flat.Sp Try.prog 55 [.ptr 0 0, (E.mk op col c [E.mk ao ac av ak, E.mk bo bc bv bk]).av] [(.var 0, .n 2), (.cell 0 0, .av (vv (.int .i64 w))), (.cell 0 1, .av (.p (.ps (row.map Val.row))))] ((reck row (E.mk op col c [E.mk ao ac av ak, E.mk bo bc bv bk]) w).1.av) [(.var 0, .n 2), (.cell 0 0, .av (vv (.int .i64 (reck row (E.mk op col c [E.mk ao ac av ak, E.mk bo bc bv bk]) w).2))), (.cell 0 1, .av (.p (.ps (row.map Val.row))))] := by
  refine sk Try.func55 ?_
  intro F G hn hG
  have ho1 : (op == 1) = false := by rcases hop with rfl | rfl | rfl | rfl | rfl <;> rfl
  have ho2 : (op == 2) = false := by rcases hop with rfl | rfl | rfl | rfl | rfl <;> rfl
  have ho7 : (op == 7) = false := by rcases hop with rfl | rfl | rfl | rfl | rfl <;> rfl
  have ho8 : (op == 8) = false := by rcases hop with rfl | rfl | rfl | rfl | rfl <;> rfl
  refine sq ?_
  refine rg 1000 ?_
  refine pr [0, 3, 4, 5, 6, 7, 8, 9, 10, 11, 12, 13, 14, 15, 16, 17, 18, 19, 20, 21, 22, 23, 24, 25, 26, 27, 28, 29, 30, 31, 32, 33, 34, 35, 36, 37, 38, 39, 40, 41, 43, 44, 45, 46, 47, 48, 49, 50, 51, 52, 53, 54, 55, 56, 57, 58, 59, 60, 61, 62, 63, 64, 65, 66, 67, 68, 69, 70, 71, 72, 73, 74, 75, 76, 77, 78, 80, 81, 82, 83, 84, 85, 86, 87, 88, 89, 90, 91, 92, 93, 94, 95, 96, 97, 98, 99, 100, 101, 102, 103, 104, 105, 106, 107, 108] ?_
  refine sq ?_
  refine k_block ?_
  refine sq ?_
  refine rg 2000 ?_
  refine pr [0, 3, 4, 5, 6, 7, 8, 15, 16, 17, 18, 19, 20, 21, 22, 23, 24, 25, 26, 27, 28, 29, 30, 31, 32, 33, 34, 35, 36, 37, 38, 39, 40, 41, 43, 44, 45, 46, 47, 48, 49, 50, 51, 52, 53, 54, 55, 56, 57, 58, 59, 60, 61, 62, 63, 64, 65, 66, 67, 68, 69, 70, 71, 72, 73, 74, 75, 76, 77, 78, 80, 81, 82, 83, 84, 85, 86, 87, 88, 89, 90, 91, 92, 93, 94, 95, 96, 97, 98, 99, 100, 101, 102, 103, 104, 105, 106, 107, 108] ?_
  refine ce ?_
  refine sq ?_
  refine rg 4000 ?_
  refine pr [0, 3, 4, 5, 6, 7, 16, 20, 21, 22, 23, 24, 25, 26, 27, 28, 29, 30, 31, 32, 33, 34, 35, 36, 37, 38, 39, 40, 41, 43, 44, 45, 46, 47, 48, 49, 50, 51, 52, 53, 54, 55, 56, 57, 58, 59, 60, 61, 62, 63, 64, 65, 66, 67, 68, 69, 70, 71, 72, 73, 74, 75, 76, 77, 78, 80, 81, 82, 83, 84, 85, 86, 87, 88, 89, 90, 91, 92, 93, 94, 95, 96, 97, 98, 99, 100, 101, 102, 103, 104, 105, 106, 107, 108] ?_
  refine ce ?_
  refine sq ?_
  refine rg 6000 ?_
  refine pr [0, 3, 4, 5, 6, 7, 22, 26, 27, 28, 29, 30, 31, 32, 33, 34, 35, 36, 37, 38, 39, 40, 41, 43, 44, 45, 46, 47, 48, 49, 50, 51, 52, 53, 54, 55, 56, 57, 58, 59, 60, 61, 62, 63, 64, 65, 66, 67, 68, 69, 70, 71, 72, 73, 74, 75, 76, 77, 78, 80, 81, 82, 83, 84, 85, 86, 87, 88, 89, 90, 91, 92, 93, 94, 95, 96, 97, 98, 99, 100, 101, 102, 103, 104, 105, 106, 107, 108] ?_
  refine ce ?_
  refine sq ?_
  refine sq ?_
  refine rg 11000 ?_
  refine pr [0, 3, 4, 5, 6, 7, 52, 56, 57, 58, 59, 60, 61, 62, 63, 64, 65, 66, 67, 68, 69, 70, 71, 72, 73, 74, 75, 76, 77, 78, 80, 81, 82, 83, 84, 85, 86, 87, 88, 89, 90, 91, 92, 93, 94, 95, 96, 97, 98, 99, 100, 101, 102, 103, 104, 105, 106, 107, 108] ?_
  refine ce ?_
  refine rg 12000 ?_
  refine pr [0, 3, 4, 5, 6, 7, 52, 59, 60, 61, 62, 63, 64, 65, 66, 67, 68, 69, 70, 71, 72, 73, 74, 75, 76, 77, 78, 80, 81, 82, 83, 84, 85, 86, 87, 88, 89, 90, 91, 92, 93, 94, 95, 96, 97, 98, 99, 100, 101, 102, 103, 104, 105, 106, 107, 108] ?_
  refine ce ?_
  refine k_skip ?_
  refine k_nil ?_
  show AK _ _ _ _ _ _
  refine sq ?_
  refine dr ?_
  refine de 17000 ?_
  refine dc id (spec108 row hrow ao ac av ak (reck row (E.mk ao ac av ak)) ha w) ?_
  refine dc id (spec107_two row hrow op col c [E.mk ao ac av ak, E.mk bo bc bv bk] hop bo bc bv bk (reck row (E.mk bo bc bv bk)) hb (by simp) rfl noF (numF (reck row (E.mk ao ac av ak)) w).1 (numF (reck row (E.mk ao ac av ak)) w).2) ?_
  refine de 17200 ?_
  refine dn ?_
  refine pr [4] ?_
  refine k_ret ?_
  show retQ _ _ _ _ _ _ _
  simp [*, reck, recks, stepR, Val.av]

attribute [local simp] E.av E.row_eq Val.av in
theorem spec55_if (row : List Val) (hrow : row.length ≤ Flat.lim) (col : Int) (c : Val) (ao ac : Int) (av : Val) (ak : List E) (bo bc : Int) (bv : Val) (bk : List E) (eo ec : Int) (ev : Val) (ek : List E) (ha : ∀ w : Int, Flat.Sp Try.prog 55 [.ptr 0 0, (E.mk ao ac av ak).av] [(.var 0, .n 2), (.cell 0 0, .av (vv (.int .i64 w))), (.cell 0 1, .av (.p (.ps (row.map Val.row))))] (reck row (E.mk ao ac av ak) w).1.av [(.var 0, .n 2), (.cell 0 0, .av (vv (.int .i64 (reck row (E.mk ao ac av ak) w).2))), (.cell 0 1, .av (.p (.ps (row.map Val.row))))]) (hb : ∀ w : Int, Flat.Sp Try.prog 55 [.ptr 0 0, (E.mk bo bc bv bk).av] [(.var 0, .n 2), (.cell 0 0, .av (vv (.int .i64 w))), (.cell 0 1, .av (.p (.ps (row.map Val.row))))] (reck row (E.mk bo bc bv bk) w).1.av [(.var 0, .n 2), (.cell 0 0, .av (vv (.int .i64 (reck row (E.mk bo bc bv bk) w).2))), (.cell 0 1, .av (.p (.ps (row.map Val.row))))]) (he : ∀ w : Int, Flat.Sp Try.prog 55 [.ptr 0 0, (E.mk eo ec ev ek).av] [(.var 0, .n 2), (.cell 0 0, .av (vv (.int .i64 w))), (.cell 0 1, .av (.p (.ps (row.map Val.row))))] (reck row (E.mk eo ec ev ek) w).1.av [(.var 0, .n 2), (.cell 0 0, .av (vv (.int .i64 (reck row (E.mk eo ec ev ek) w).2))), (.cell 0 1, .av (.p (.ps (row.map Val.row))))]) (w : Int) (hw : (w != 0) = false) : Flat.Sp Try.prog 55 [.ptr 0 0, (E.mk 12 col c [E.mk ao ac av ak, E.mk bo bc bv bk, E.mk eo ec ev ek]).av] [(.var 0, .n 2), (.cell 0 0, .av (vv (.int .i64 w))), (.cell 0 1, .av (.p (.ps (row.map Val.row))))] ((reck row (E.mk 12 col c [E.mk ao ac av ak, E.mk bo bc bv bk, E.mk eo ec ev ek]) w).1.av) [(.var 0, .n 2), (.cell 0 0, .av (vv (.int .i64 (reck row (E.mk 12 col c [E.mk ao ac av ak, E.mk bo bc bv bk, E.mk eo ec ev ek]) w).2))), (.cell 0 1, .av (.p (.ps (row.map Val.row))))] := by
  refine sk Try.func55 ?_
  intro F G hn hG
  refine sq ?_
  refine rg 1000 ?_
  refine pr [0, 3, 4, 5, 6, 7, 8, 9, 10, 11, 12, 13, 14, 15, 16, 17, 18, 19, 20, 21, 22, 23, 24, 25, 26, 27, 28, 29, 30, 31, 32, 33, 34, 35, 36, 37, 38, 39, 40, 41, 43, 44, 45, 46, 47, 48, 49, 50, 51, 52, 53, 54, 55, 56, 57, 58, 59, 60, 61, 62, 63, 64, 65, 66, 67, 68, 69, 70, 71, 72, 73, 74, 75, 76, 77, 78, 80, 81, 82, 83, 84, 85, 86, 87, 88, 89, 90, 91, 92, 93, 94, 95, 96, 97, 98, 99, 100, 101, 102, 103, 104, 105, 106, 107, 108] ?_
  refine sq ?_
  refine k_block ?_
  refine sq ?_
  refine rg 2000 ?_
  refine pr [0, 3, 4, 5, 6, 7, 8, 15, 16, 17, 18, 19, 20, 21, 22, 23, 24, 25, 26, 27, 28, 29, 30, 31, 32, 33, 34, 35, 36, 37, 38, 39, 40, 41, 43, 44, 45, 46, 47, 48, 49, 50, 51, 52, 53, 54, 55, 56, 57, 58, 59, 60, 61, 62, 63, 64, 65, 66, 67, 68, 69, 70, 71, 72, 73, 74, 75, 76, 77, 78, 80, 81, 82, 83, 84, 85, 86, 87, 88, 89, 90, 91, 92, 93, 94, 95, 96, 97, 98, 99, 100, 101, 102, 103, 104, 105, 106, 107, 108] ?_
  refine ce ?_
  refine sq ?_
  refine rg 4000 ?_
  refine pr [0, 3, 4, 5, 6, 7, 16, 20, 21, 22, 23, 24, 25, 26, 27, 28, 29, 30, 31, 32, 33, 34, 35, 36, 37, 38, 39, 40, 41, 43, 44, 45, 46, 47, 48, 49, 50, 51, 52, 53, 54, 55, 56, 57, 58, 59, 60, 61, 62, 63, 64, 65, 66, 67, 68, 69, 70, 71, 72, 73, 74, 75, 76, 77, 78, 80, 81, 82, 83, 84, 85, 86, 87, 88, 89, 90, 91, 92, 93, 94, 95, 96, 97, 98, 99, 100, 101, 102, 103, 104, 105, 106, 107, 108] ?_
  refine ce ?_
  refine sq ?_
  refine rg 6000 ?_
  refine pr [0, 3, 4, 5, 6, 7, 22, 26, 27, 28, 29, 30, 31, 32, 33, 34, 35, 36, 37, 38, 39, 40, 41, 43, 44, 45, 46, 47, 48, 49, 50, 51, 52, 53, 54, 55, 56, 57, 58, 59, 60, 61, 62, 63, 64, 65, 66, 67, 68, 69, 70, 71, 72, 73, 74, 75, 76, 77, 78, 80, 81, 82, 83, 84, 85, 86, 87, 88, 89, 90, 91, 92, 93, 94, 95, 96, 97, 98, 99, 100, 101, 102, 103, 104, 105, 106, 107, 108] ?_
  refine ce ?_
  refine sq ?_
  refine sq ?_
  refine rg 11000 ?_
  refine pr [0, 3, 4, 5, 6, 7, 52, 56, 57, 58, 59, 60, 61, 62, 63, 64, 65, 66, 67, 68, 69, 70, 71, 72, 73, 74, 75, 76, 77, 78, 80, 81, 82, 83, 84, 85, 86, 87, 88, 89, 90, 91, 92, 93, 94, 95, 96, 97, 98, 99, 100, 101, 102, 103, 104, 105, 106, 107, 108] ?_
  refine ce ?_
  refine rg 12000 ?_
  refine pr [0, 3, 4, 5, 6, 7, 52, 59, 60, 61, 62, 63, 64, 65, 66, 67, 68, 69, 70, 71, 72, 73, 74, 75, 76, 77, 78, 80, 81, 82, 83, 84, 85, 86, 87, 88, 89, 90, 91, 92, 93, 94, 95, 96, 97, 98, 99, 100, 101, 102, 103, 104, 105, 106, 107, 108] ?_
  refine ce ?_
  refine k_skip ?_
  refine k_nil ?_
  show AK _ _ _ _ _ _
  refine sq ?_
  refine dr ?_
  refine de 17000 ?_
  refine dc id (spec108 row hrow ao ac av ak (reck row (E.mk ao ac av ak)) ha w) ?_
  refine dc id (spec107_if row hrow col c [E.mk ao ac av ak, E.mk bo bc bv bk, E.mk eo ec ev ek] bo bc bv bk (reck row (E.mk bo bc bv bk)) hb (by simp) rfl eo ec ev ek (reck row (E.mk eo ec ev ek)) he (by simp) rfl (numF (reck row (E.mk ao ac av ak)) w).1 (numF (reck row (E.mk ao ac av ak)) w).2) ?_
  refine de 17200 ?_
  refine dn ?_
  refine pr [4] ?_
  refine k_ret ?_
  show retQ _ _ _ _ _ _ _
  simp [*, reck, recks, stepR, Val.av]

attribute [local simp] E.av E.row_eq Val.av bitV Val.num in
theorem spec55_cmp7 (row : List Val) (hrow : row.length ≤ Flat.lim) (col : Int) (c : Val) (ao ac : Int) (av : Val) (ak : List E) (bo bc : Int) (bv : Val) (bk : List E) (ha : ∀ w : Int, Flat.Sp Try.prog 55 [.ptr 0 0, (E.mk ao ac av ak).av] [(.var 0, .n 2), (.cell 0 0, .av (vv (.int .i64 w))), (.cell 0 1, .av (.p (.ps (row.map Val.row))))] (reck row (E.mk ao ac av ak) w).1.av [(.var 0, .n 2), (.cell 0 0, .av (vv (.int .i64 (reck row (E.mk ao ac av ak) w).2))), (.cell 0 1, .av (.p (.ps (row.map Val.row))))]) (hb : ∀ w : Int, Flat.Sp Try.prog 55 [.ptr 0 0, (E.mk bo bc bv bk).av] [(.var 0, .n 2), (.cell 0 0, .av (vv (.int .i64 w))), (.cell 0 1, .av (.p (.ps (row.map Val.row))))] (reck row (E.mk bo bc bv bk) w).1.av [(.var 0, .n 2), (.cell 0 0, .av (vv (.int .i64 (reck row (E.mk bo bc bv bk) w).2))), (.cell 0 1, .av (.p (.ps (row.map Val.row))))]) (w : Int) (hw : (w != 0) = false) : Flat.Sp Try.prog 55 [.ptr 0 0, (E.mk 7 col c [E.mk ao ac av ak, E.mk bo bc bv bk]).av] [(.var 0, .n 2), (.cell 0 0, .av (vv (.int .i64 w))), (.cell 0 1, .av (.p (.ps (row.map Val.row))))] ((reck row (E.mk 7 col c [E.mk ao ac av ak, E.mk bo bc bv bk]) w).1.av) [(.var 0, .n 2), (.cell 0 0, .av (vv (.int .i64 (reck row (E.mk 7 col c [E.mk ao ac av ak, E.mk bo bc bv bk]) w).2))), (.cell 0 1, .av (.p (.ps (row.map Val.row))))] := by
  refine sk Try.func55 ?_
  intro F G hn hG
  refine sq ?_
  refine rg 1000 ?_
  refine pr [0, 3, 4, 5, 6, 7, 8, 9, 10, 11, 12, 13, 14, 15, 16, 17, 18, 19, 20, 21, 22, 23, 24, 25, 26, 27, 28, 29, 30, 31, 32, 33, 34, 35, 36, 37, 38, 39, 40, 41, 43, 44, 45, 46, 47, 48, 49, 50, 51, 52, 53, 54, 55, 56, 57, 58, 59, 60, 61, 62, 63, 64, 65, 66, 67, 68, 69, 70, 71, 72, 73, 74, 75, 76, 77, 78, 80, 81, 82, 83, 84, 85, 86, 87, 88, 89, 90, 91, 92, 93, 94, 95, 96, 97, 98, 99, 100, 101, 102, 103, 104, 105, 106, 107, 108] ?_
  refine sq ?_
  refine k_block ?_
  refine sq ?_
  refine rg 2000 ?_
  refine pr [0, 3, 4, 5, 6, 7, 8, 15, 16, 17, 18, 19, 20, 21, 22, 23, 24, 25, 26, 27, 28, 29, 30, 31, 32, 33, 34, 35, 36, 37, 38, 39, 40, 41, 43, 44, 45, 46, 47, 48, 49, 50, 51, 52, 53, 54, 55, 56, 57, 58, 59, 60, 61, 62, 63, 64, 65, 66, 67, 68, 69, 70, 71, 72, 73, 74, 75, 76, 77, 78, 80, 81, 82, 83, 84, 85, 86, 87, 88, 89, 90, 91, 92, 93, 94, 95, 96, 97, 98, 99, 100, 101, 102, 103, 104, 105, 106, 107, 108] ?_
  refine ce ?_
  refine sq ?_
  refine rg 4000 ?_
  refine pr [0, 3, 4, 5, 6, 7, 16, 20, 21, 22, 23, 24, 25, 26, 27, 28, 29, 30, 31, 32, 33, 34, 35, 36, 37, 38, 39, 40, 41, 43, 44, 45, 46, 47, 48, 49, 50, 51, 52, 53, 54, 55, 56, 57, 58, 59, 60, 61, 62, 63, 64, 65, 66, 67, 68, 69, 70, 71, 72, 73, 74, 75, 76, 77, 78, 80, 81, 82, 83, 84, 85, 86, 87, 88, 89, 90, 91, 92, 93, 94, 95, 96, 97, 98, 99, 100, 101, 102, 103, 104, 105, 106, 107, 108] ?_
  refine ce ?_
  refine sq ?_
  refine rg 6000 ?_
  refine pr [0, 3, 4, 5, 6, 7, 22, 26, 27, 28, 29, 30, 31, 32, 33, 34, 35, 36, 37, 38, 39, 40, 41, 43, 44, 45, 46, 47, 48, 49, 50, 51, 52, 53, 54, 55, 56, 57, 58, 59, 60, 61, 62, 63, 64, 65, 66, 67, 68, 69, 70, 71, 72, 73, 74, 75, 76, 77, 78, 80, 81, 82, 83, 84, 85, 86, 87, 88, 89, 90, 91, 92, 93, 94, 95, 96, 97, 98, 99, 100, 101, 102, 103, 104, 105, 106, 107, 108] ?_
  refine ce ?_
  refine sq ?_
  refine sq ?_
  refine rg 11000 ?_
  refine pr [0, 3, 4, 5, 6, 7, 52, 56, 57, 58, 59, 60, 61, 62, 63, 64, 65, 66, 67, 68, 69, 70, 71, 72, 73, 74, 75, 76, 77, 78, 80, 81, 82, 83, 84, 85, 86, 87, 88, 89, 90, 91, 92, 93, 94, 95, 96, 97, 98, 99, 100, 101, 102, 103, 104, 105, 106, 107, 108] ?_
  refine ct ?_
  refine k_skip ?_
  refine ct ?_
  refine sq ?_
  refine dr ?_
  refine de 13000 ?_
  refine dc id (ha w) ?_
  refine de 13100 ?_
  refine dc id (hb ((reck row (E.mk ao ac av ak)) w).2) ?_
  refine de 13200 ?_
  refine dn ?_
  refine pr [0, 3, 4, 5, 6, 7, 71, 72, 73, 74, 75, 76, 77, 78, 80, 81, 82, 83, 84, 85, 86, 87, 88, 89, 90, 91, 92, 93, 94, 95, 96, 97, 98, 99, 100, 101, 102, 103, 104, 105, 106, 107, 108] ?_
  refine sq ?_
  refine dr ?_
  refine de 14000 ?_
  refine dc id (spec104 ((reck row (E.mk bo bc bv bk)) ((reck row (E.mk ao ac av ak)) w).2).2 (.ps (row.map Val.row)) (((reck row (E.mk ao ac av ak)) w).1.t == ((reck row (E.mk bo bc bv bk)) ((reck row (E.mk ao ac av ak)) w).2).1.t) 11) ?_
  refine dn ?_
  refine pr [0, 3, 4, 5, 6, 7, 80, 81, 82, 83, 84, 85, 86, 87, 88, 89, 90, 91, 92, 93, 94, 95, 96, 97, 98, 99, 100, 101, 102, 103, 104, 105, 106, 107, 108] ?_
  refine sq ?_
  refine rc 15000 ?_
  refine oc id (spec105 ((reck row (E.mk ao ac av ak)) w).1 ((reck row (E.mk bo bc bv bk)) ((reck row (E.mk ao ac av ak)) w).2).1) ?_
  refine oe 15100 ?_
  refine on ?_
  refine pr [0, 3, 4, 7, 83, 84, 85, 86, 87, 88, 89, 90, 91, 92, 93, 94, 95, 96, 97, 98, 99, 100, 101, 102, 103, 104, 105, 106, 107, 108] ?_
  refine sq ?_
  refine rc 16000 ?_
  iterate 3 (first | refine gp 16250 ?_ | refine os ?_ | refine gt 16250 ?_)
  refine oe 16300 ?_
  iterate 7 (first | refine gp 16950 ?_ | refine os ?_ | refine gt 16950 ?_)
  refine oe 17000 ?_
  refine oc id (spec106 ((decide ((((reck row (E.mk ao ac av ak)) w).1.cmp ((reck row (E.mk bo bc bv bk)) ((reck row (E.mk ao ac av ak)) w).2).1) < 0) && (7 : Int) == 7) || ((((reck row (E.mk ao ac av ak)) w).1.cmp ((reck row (E.mk bo bc bv bk)) ((reck row (E.mk ao ac av ak)) w).2).1) == 0 && (7 : Int) == 8))) ?_
  refine oe 17100 ?_
  refine on ?_
  refine pr [0, 3, 4, 100, 101, 102, 103, 104, 105, 106, 107, 108] ?_
  refine k_ret ?_
  show retQ _ _ _ _ _ _ _
  simp [*, reck, recks, stepR, Val.av]

attribute [local simp] E.av E.row_eq Val.av bitV Val.num in
theorem spec55_cmp8 (row : List Val) (hrow : row.length ≤ Flat.lim) (col : Int) (c : Val) (ao ac : Int) (av : Val) (ak : List E) (bo bc : Int) (bv : Val) (bk : List E) (ha : ∀ w : Int, Flat.Sp Try.prog 55 [.ptr 0 0, (E.mk ao ac av ak).av] [(.var 0, .n 2), (.cell 0 0, .av (vv (.int .i64 w))), (.cell 0 1, .av (.p (.ps (row.map Val.row))))] (reck row (E.mk ao ac av ak) w).1.av [(.var 0, .n 2), (.cell 0 0, .av (vv (.int .i64 (reck row (E.mk ao ac av ak) w).2))), (.cell 0 1, .av (.p (.ps (row.map Val.row))))]) (hb : ∀ w : Int, Flat.Sp Try.prog 55 [.ptr 0 0, (E.mk bo bc bv bk).av] [(.var 0, .n 2), (.cell 0 0, .av (vv (.int .i64 w))), (.cell 0 1, .av (.p (.ps (row.map Val.row))))] (reck row (E.mk bo bc bv bk) w).1.av [(.var 0, .n 2), (.cell 0 0, .av (vv (.int .i64 (reck row (E.mk bo bc bv bk) w).2))), (.cell 0 1, .av (.p (.ps (row.map Val.row))))]) (w : Int) (hw : (w != 0) = false) : Flat.Sp Try.prog 55 [.ptr 0 0, (E.mk 8 col c [E.mk ao ac av ak, E.mk bo bc bv bk]).av] [(.var 0, .n 2), (.cell 0 0, .av (vv (.int .i64 w))), (.cell 0 1, .av (.p (.ps (row.map Val.row))))] ((reck row (E.mk 8 col c [E.mk ao ac av ak, E.mk bo bc bv bk]) w).1.av) [(.var 0, .n 2), (.cell 0 0, .av (vv (.int .i64 (reck row (E.mk 8 col c [E.mk ao ac av ak, E.mk bo bc bv bk]) w).2))), (.cell 0 1, .av (.p (.ps (row.map Val.row))))] := by
  refine sk Try.func55 ?_
  intro F G hn hG
  refine sq ?_
  refine rg 1000 ?_
  refine pr [0, 3, 4, 5, 6, 7, 8, 9, 10, 11, 12, 13, 14, 15, 16, 17, 18, 19, 20, 21, 22, 23, 24, 25, 26, 27, 28, 29, 30, 31, 32, 33, 34, 35, 36, 37, 38, 39, 40, 41, 43, 44, 45, 46, 47, 48, 49, 50, 51, 52, 53, 54, 55, 56, 57, 58, 59, 60, 61, 62, 63, 64, 65, 66, 67, 68, 69, 70, 71, 72, 73, 74, 75, 76, 77, 78, 80, 81, 82, 83, 84, 85, 86, 87, 88, 89, 90, 91, 92, 93, 94, 95, 96, 97, 98, 99, 100, 101, 102, 103, 104, 105, 106, 107, 108] ?_
  refine sq ?_
  refine k_block ?_
  refine sq ?_
  refine rg 2000 ?_
  refine pr [0, 3, 4, 5, 6, 7, 8, 15, 16, 17, 18, 19, 20, 21, 22, 23, 24, 25, 26, 27, 28, 29, 30, 31, 32, 33, 34, 35, 36, 37, 38, 39, 40, 41, 43, 44, 45, 46, 47, 48, 49, 50, 51, 52, 53, 54, 55, 56, 57, 58, 59, 60, 61, 62, 63, 64, 65, 66, 67, 68, 69, 70, 71, 72, 73, 74, 75, 76, 77, 78, 80, 81, 82, 83, 84, 85, 86, 87, 88, 89, 90, 91, 92, 93, 94, 95, 96, 97, 98, 99, 100, 101, 102, 103, 104, 105, 106, 107, 108] ?_
  refine ce ?_
  refine sq ?_
  refine rg 4000 ?_
  refine pr [0, 3, 4, 5, 6, 7, 16, 20, 21, 22, 23, 24, 25, 26, 27, 28, 29, 30, 31, 32, 33, 34, 35, 36, 37, 38, 39, 40, 41, 43, 44, 45, 46, 47, 48, 49, 50, 51, 52, 53, 54, 55, 56, 57, 58, 59, 60, 61, 62, 63, 64, 65, 66, 67, 68, 69, 70, 71, 72, 73, 74, 75, 76, 77, 78, 80, 81, 82, 83, 84, 85, 86, 87, 88, 89, 90, 91, 92, 93, 94, 95, 96, 97, 98, 99, 100, 101, 102, 103, 104, 105, 106, 107, 108] ?_
  refine ce ?_
  refine sq ?_
  refine rg 6000 ?_
  refine pr [0, 3, 4, 5, 6, 7, 22, 26, 27, 28, 29, 30, 31, 32, 33, 34, 35, 36, 37, 38, 39, 40, 41, 43, 44, 45, 46, 47, 48, 49, 50, 51, 52, 53, 54, 55, 56, 57, 58, 59, 60, 61, 62, 63, 64, 65, 66, 67, 68, 69, 70, 71, 72, 73, 74, 75, 76, 77, 78, 80, 81, 82, 83, 84, 85, 86, 87, 88, 89, 90, 91, 92, 93, 94, 95, 96, 97, 98, 99, 100, 101, 102, 103, 104, 105, 106, 107, 108] ?_
  refine ce ?_
  refine sq ?_
  refine sq ?_
  refine rg 11000 ?_
  refine pr [0, 3, 4, 5, 6, 7, 52, 56, 57, 58, 59, 60, 61, 62, 63, 64, 65, 66, 67, 68, 69, 70, 71, 72, 73, 74, 75, 76, 77, 78, 80, 81, 82, 83, 84, 85, 86, 87, 88, 89, 90, 91, 92, 93, 94, 95, 96, 97, 98, 99, 100, 101, 102, 103, 104, 105, 106, 107, 108] ?_
  refine ce ?_
  refine rg 12000 ?_
  refine pr [0, 3, 4, 5, 6, 7, 52, 59, 60, 61, 62, 63, 64, 65, 66, 67, 68, 69, 70, 71, 72, 73, 74, 75, 76, 77, 78, 80, 81, 82, 83, 84, 85, 86, 87, 88, 89, 90, 91, 92, 93, 94, 95, 96, 97, 98, 99, 100, 101, 102, 103, 104, 105, 106, 107, 108] ?_
  refine ct ?_
  refine sq ?_
  refine dr ?_
  refine de 13000 ?_
  refine dc id (ha w) ?_
  refine de 13100 ?_
  refine dc id (hb ((reck row (E.mk ao ac av ak)) w).2) ?_
  refine de 13200 ?_
  refine dn ?_
  refine pr [0, 3, 4, 5, 6, 7, 71, 72, 73, 74, 75, 76, 77, 78, 80, 81, 82, 83, 84, 85, 86, 87, 88, 89, 90, 91, 92, 93, 94, 95, 96, 97, 98, 99, 100, 101, 102, 103, 104, 105, 106, 107, 108] ?_
  refine sq ?_
  refine dr ?_
  refine de 14000 ?_
  refine dc id (spec104 ((reck row (E.mk bo bc bv bk)) ((reck row (E.mk ao ac av ak)) w).2).2 (.ps (row.map Val.row)) (((reck row (E.mk ao ac av ak)) w).1.t == ((reck row (E.mk bo bc bv bk)) ((reck row (E.mk ao ac av ak)) w).2).1.t) 11) ?_
  refine dn ?_
  refine pr [0, 3, 4, 5, 6, 7, 80, 81, 82, 83, 84, 85, 86, 87, 88, 89, 90, 91, 92, 93, 94, 95, 96, 97, 98, 99, 100, 101, 102, 103, 104, 105, 106, 107, 108] ?_
  refine sq ?_
  refine rc 15000 ?_
  refine oc id (spec105 ((reck row (E.mk ao ac av ak)) w).1 ((reck row (E.mk bo bc bv bk)) ((reck row (E.mk ao ac av ak)) w).2).1) ?_
  refine oe 15100 ?_
  refine on ?_
  refine pr [0, 3, 4, 7, 83, 84, 85, 86, 87, 88, 89, 90, 91, 92, 93, 94, 95, 96, 97, 98, 99, 100, 101, 102, 103, 104, 105, 106, 107, 108] ?_
  refine sq ?_
  refine rc 16000 ?_
  iterate 3 (first | refine gp 16250 ?_ | refine os ?_ | refine gt 16250 ?_)
  refine oe 16300 ?_
  iterate 7 (first | refine gp 16950 ?_ | refine os ?_ | refine gt 16950 ?_)
  refine oe 17000 ?_
  refine oc id (spec106 ((decide ((((reck row (E.mk ao ac av ak)) w).1.cmp ((reck row (E.mk bo bc bv bk)) ((reck row (E.mk ao ac av ak)) w).2).1) < 0) && (8 : Int) == 7) || ((((reck row (E.mk ao ac av ak)) w).1.cmp ((reck row (E.mk bo bc bv bk)) ((reck row (E.mk ao ac av ak)) w).2).1) == 0 && (8 : Int) == 8))) ?_
  refine oe 17100 ?_
  refine on ?_
  refine pr [0, 3, 4, 100, 101, 102, 103, 104, 105, 106, 107, 108] ?_
  refine k_ret ?_
  show retQ _ _ _ _ _ _ _
  simp [*, reck, recks, stepR, Val.av]

end Go.Proofs
end
section
set_option linter.unusedVariables false
set_option linter.unusedSimpArgs false
namespace Go.Proofs
open Go.Flat
set_option maxRecDepth 100000
set_option linter.unusedSimpArgs false
set_option linter.unusedVariables false
attribute [local simp] Bool.and_assoc Bool.or_assoc evalG evalX efD skF guardG guardL isCall stepL evalOp ev evs lk tmpsL app AV.ok fresh vv putCells insV ins del putL place Go.Flat.look fillC fillR getCells loadF storeF binF scalarBin intBin strBin isShift shiftBin unF lenF maxF minF rowsF appendF builtinF idxF natOf sliceP sliceF optEv Flat.cut overwrite toPV toPVs constAV scalarC scalarCs AV.cells TI.isAgg allSome andAll scalarEq buildable Go.Flat.lim retQ resL resAll resOne PartOf noTmp closedIn refs refs.refsL isSomeV hasB ids leA leA.leL renA renA.renL callB refsAll backL dropIds renS LiesAt injB ownB freshB memN locId insAll leA_refl leL_refl okS frzS frzA frzA.frzL evalD feet fine updCells cellsFrom memP footRf footWf noTmpU updIds opOps opIds idsA footR footW guardTs opTs dstTs callR callW renLoc renC inBlockQ thenQ Value.oneCell' IntKind.bits IntKind.signed callWk without

theorem spec55 (row : List Val) (hrow : row.length ≤ Flat.lim) : ∀ e : E, e.good → ∀ w : Int, Flat.Sp Try.prog 55 [.ptr 0 0, e.av] [(.var 0, .n 2), (.cell 0 0, .av (vv (.int .i64 w))), (.cell 0 1, .av (.p (.ps (row.map Val.row))))] (reck row e w).1.av [(.var 0, .n 2), (.cell 0 0, .av (vv (.int .i64 (reck row e w).2))), (.cell 0 1, .av (.p (.ps (row.map Val.row))))] := by
  refine E.ind fun op col c kids ih hg w => ?_
  rw [E.good] at hg
  obtain ⟨hok, hgk⟩ := hg
  have ih' : ∀ k ∈ kids, ∀ w, _ := fun k hk => ih k hk (E.goodL_mem hgk k hk)
  cases hw : (w != 0) with
  | true => exact spec55_err row hrow op col c kids w hw
  | false =>
    rcases okE_shape hok with ⟨rfl, hn⟩ | ⟨rfl, hn⟩ | ⟨ho, hn⟩ | ⟨ho, hn⟩ | ⟨rfl, hn⟩ | ⟨rfl, hn⟩ | ⟨rfl, hn⟩
    · obtain rfl := List.length_eq_zero_iff.1 hn
      exact spec55_col row hrow col c w hw
    · obtain rfl := List.length_eq_zero_iff.1 hn
      exact spec55_con row hrow col c w hw
    · obtain ⟨⟨ao, ac, av, ak⟩, rfl⟩ := List.length_eq_one_iff.1 hn
      exact spec55_one row hrow op col c ao ac av ak ho (ih' _ (by simp)) w hw
    · obtain ⟨⟨ao, ac, av, ak⟩, ⟨bo, bc, bv, bk⟩, rfl⟩ := Flat.two_of_length hn
      exact spec55_two row hrow op col c ao ac av ak bo bc bv bk ho (ih' _ (by simp)) (ih' _ (by simp)) w hw
    · obtain ⟨⟨ao, ac, av, ak⟩, ⟨bo, bc, bv, bk⟩, rfl⟩ := Flat.two_of_length hn
      exact spec55_cmp7 row hrow col c ao ac av ak bo bc bv bk (ih' _ (by simp)) (ih' _ (by simp)) w hw
    · obtain ⟨⟨ao, ac, av, ak⟩, ⟨bo, bc, bv, bk⟩, rfl⟩ := Flat.two_of_length hn
      exact spec55_cmp8 row hrow col c ao ac av ak bo bc bv bk (ih' _ (by simp)) (ih' _ (by simp)) w hw
    · obtain ⟨⟨ao, ac, av, ak⟩, ⟨bo, bc, bv, bk⟩, ⟨eo, ec, ev, ek⟩, rfl⟩ := three_of_length hn
      exact spec55_if row hrow col c ao ac av ak bo bc bv bk eo ec ev ek (ih' _ (by simp)) (ih' _ (by simp)) (ih' _ (by simp)) w hw
/-- What an expression comes to, and why to nothing. -/
def evalE (row : List Val) (e : E) : Val × Int :=
  if checkE e != 0 then (⟨false, 0, ⟨#[]⟩⟩, checkE e) else if checkRow row != 0 then (⟨false, 0, ⟨#[]⟩⟩, checkRow row) else if (reck row e 0).2 != 0 then (⟨false, 0, ⟨#[]⟩⟩, (reck row e 0).2) else ((reck row e 0).1, 0)

attribute [local simp] E.av Val.av evalE in
theorem spec23_mk (row : List Val) (hrow : row.length ≤ Flat.lim) (op col : Int) (c : Val) (kids : List E) : Flat.Sp Try.prog 23 [(E.mk op col c kids).av, .p (.ps (row.map Val.row))] [] (.tup [(evalE row (E.mk op col c kids)).1.av, vv (.int .i64 (evalE row (E.mk op col c kids)).2)]) [] := by
  refine sk Try.func23 ?_
  intro F G hn hG
  refine sq ?_
  refine rg 1000 ?_
  refine pr [1, 2, 4, 5, 6, 7, 8, 9, 10, 11, 12, 13, 14, 15, 16, 17, 18, 19, 20, 21, 22, 23, 24, 25, 26, 27, 28, 29, 30, 31, 32, 33, 34, 35, 36, 37, 38, 39, 40] ?_
  refine sq ?_
  refine sq ?_
  refine rc 2000 ?_
  refine oc id (spec22 op col c kids) ?_
  refine oe 2100 ?_
  refine on ?_
  refine pr [1, 2, 4, 5, 6, 7, 8, 9, 12, 13, 14, 15, 16, 17, 18, 19, 20, 21, 22, 23, 24, 25, 26, 27, 28, 29, 30, 31, 32, 33, 34, 35, 36, 37, 38, 39, 40] ?_
  refine sq ?_
  refine rg 3000 ?_
  refine pr [1, 2, 4, 5, 6, 7, 8, 9, 13, 14, 15, 16, 17, 18, 19, 20, 21, 22, 23, 24, 25, 26, 27, 28, 29, 30, 31, 32, 33, 34, 35, 36, 37, 38, 39, 40] ?_
  refine cd ?_ ?_
  · intro h13_1
    have h13_1 : (checkE (E.mk op col c kids) != 0) = true := by simpa using h13_1
    refine sq ?_
    refine rg 4000 ?_
    refine pr [1, 2, 4, 5, 7, 8, 9, 16, 17, 18, 19, 20, 21, 22, 23, 24, 25, 26, 27, 28, 29, 30, 31, 32, 33, 34, 35, 36, 37, 38, 39, 40] ?_
    refine k_ret ?_
    show retQ _ _ _ _ _ _ _
    simp [*]
  · intro h13_1
    have h13_1 : (checkE (E.mk op col c kids) != 0) = false := by simpa using h13_1
    have hgood := checkE_good (e := (E.mk op col c kids)) (by simpa using h13_1)
    refine k_skip ?_
    refine sq ?_
    refine sq ?_
    refine rc 5000 ?_
    refine oc id (spec54 row hrow) ?_
    refine oe 5100 ?_
    refine on ?_
    refine pr [1, 2, 4, 5, 7, 8, 9, 18, 19, 20, 21, 22, 23, 24, 25, 26, 27, 28, 29, 30, 31, 32, 33, 34, 35, 36, 37, 38, 39, 40] ?_
    refine sq ?_
    refine rg 6000 ?_
    refine pr [1, 2, 4, 5, 7, 8, 9, 19, 20, 21, 22, 23, 24, 25, 26, 27, 28, 29, 30, 31, 32, 33, 34, 35, 36, 37, 38, 39, 40] ?_
    refine cd ?_ ?_
    · intro h19_2
      have h19_2 : (checkRow row != 0) = true := by simpa using h19_2
      refine sq ?_
      refine rg 7000 ?_
      refine pr [1, 2, 4, 5, 8, 9, 22, 23, 24, 25, 26, 27, 28, 29, 30, 31, 32, 33, 34, 35, 36, 37, 38, 39, 40] ?_
      refine k_ret ?_
      show retQ _ _ _ _ _ _ _
      simp [*]
    · intro h19_2
      have h19_2 : (checkRow row != 0) = false := by simpa using h19_2
      refine k_skip ?_
      refine sq ?_
      refine rg 8000 ?_
      refine pr [2, 4, 5, 8, 9, 25, 26, 27, 28, 29, 30, 31, 32, 33, 34, 35, 36, 37, 38, 39, 40] ?_
      refine sq ?_
      refine rc 9000 ?_
      refine oc (fun k => 8002) (spec55 row hrow (E.mk op col c kids) hgood 0) ?_
      refine oe 9100 ?_
      refine on ?_
      refine pr [4, 5, 8, 9, 28, 29, 30, 31, 32, 33, 34, 35, 36, 37, 38, 39, 40] ?_
      refine sq ?_
      refine sq ?_
      refine rg 10000 ?_
      refine pr [4, 5, 8, 9, 33, 34, 35, 36, 37, 38, 39, 40] ?_
      refine cd ?_ ?_
      · intro h33_3
        have h33_3 : ((reck row (E.mk op col c kids) 0).2 != 0) = true := by simpa using h33_3
        refine sq ?_
        refine dr ?_
        refine de 11000 ?_
        refine dn ?_
        refine pr [4, 5, 9, 40] ?_
        refine k_ret ?_
        show retQ _ _ _ _ _ _ _
        simp [*]
      · intro h33_3
        have h33_3 : ((reck row (E.mk op col c kids) 0).2 != 0) = false := by simpa using h33_3
        refine k_skip ?_
        refine sq ?_
        refine rg 12000 ?_
        refine pr [4, 5] ?_
        refine k_ret ?_
        show retQ _ _ _ _ _ _ _
        simp [*]

theorem spec23 (row : List Val) (hrow : row.length ≤ Flat.lim) (e : E) : Flat.Sp Try.prog 23 [e.av, .p (.ps (row.map Val.row))] [] (.tup [(evalE row e).1.av, vv (.int .i64 (evalE row e).2)]) [] := by
  obtain ⟨op, col, c, kids⟩ := e
  exact spec23_mk row hrow op col c kids

attribute [local simp] Val.row Val.av in
theorem spec27 (row : List Val) (hrow : row.length ≤ Flat.lim) : Flat.Sp Try.prog 27 [.p (.ps (row.map Val.row))] [] (.p (.ps (row.map fun v => [PV.v (.int .u8 (tOf v))]))) [] := by
  refine sk Try.func27 ?_
  intro F G hn hG
  refine sq ?_
  refine rg 1000 ?_
  refine pr [0, 2, 3, 5, 6, 7, 8, 9, 10, 11, 12, 13, 14, 15, 16, 17, 18] ?_
  refine sq ?_
  refine rg 2000 ?_
  refine pr [0, 2, 3, 5, 6, 7, 8, 9, 10, 11, 12, 13, 14, 15, 16, 17, 18] ?_
  refine sq ?_
  refine sq ?_
  refine rg 3000 ?_
  refine pr [2, 3, 5, 6, 7, 8, 9, 10, 11, 12, 13, 14, 15, 16, 17, 18] ?_
  refine k_block ?_
  refine ow (.tmp 3) 900 42 1 ?_
  refine k_loop (fun n l => ∃ i, i + n = row.length ∧ (True) ∧ l = [(.tmp 3, .av (.sl 900 i 0 i)), (.tmp 6, .av (.p (.ps (row.map Val.row)))), (.tmp 7, .av (vv (.int .i64 row.length))), (.tmp 8, .av (vv (.int .i64 i))), (.arr 900, .arr 42 1 ((row.map (fun v => [PV.v (.int .u8 (tOf v))])).take i) 0)]) (row.length) hG ⟨_, ⟨by simp, by simp, by simp⟩, 0, by simp, trivial, rfl⟩ ?_
  rintro n _ ⟨i, hin, hfa, rfl⟩
  refine sq ?_
  refine rg 4000 ?_
  refine pr [2, 3, 5, 6, 7, 8, 9, 10, 11, 12, 13, 14, 15, 16, 17, 18] ?_
  refine sq ?_
  refine cd ?_ ?_
  · intro h9_1
    have hlt : i < row.length := by simpa using h9_1
    obtain ⟨x, hxe⟩ : ∃ x, row[i] = x := ⟨_, rfl⟩
    have hx : row[i]? = some x := by simp [hlt, hxe]
    have hw := wrap_succ (show i < Flat.lim by omega)
    have hmin : min i row.length = i := by omega
    have hlim : (i + 1) * 1 ≤ 140737488355328 := by simp only [Flat.lim] at *; omega
    have hlim1 : i + 1 ≤ 140737488355328 := by simp only [Flat.lim] at *; omega
    have htm0 := tmap_succ (f := (fun v => [PV.v (.int .u8 (tOf v))])) hx
    refine k_skip ?_
    refine sq ?_
    refine k_block ?_
    refine sq ?_
    refine rg 5000 ?_
    refine pr [2, 3, 5, 6, 7, 8, 9, 10, 11, 12, 13, 14, 15, 16, 17, 18] ?_
    refine rc 6000 ?_
    refine oc id (spec57 x) ?_
    refine oe 6100 ?_
    refine on ?_
    refine k_nil ?_
    show AK _ _ _ _ _ _
    refine rg 7000 ?_
    refine k_nil ?_
    refine ⟨n - 1, by omega, _, ⟨?_, ?_, ?_⟩, i + 1, by omega, trivial, rfl⟩ <;> simp [*]
  · intro h9_1
    have hge : row.length ≤ i := by simpa using h9_1
    obtain rfl : i = row.length := by omega
    have htm0 := tmap_all (f := (fun v => [PV.v (.int .u8 (tOf v))])) (Nat.le_refl row.length)
    refine fz 900 ?_
    refine k_exit ?_
    show AK _ _ _ _ _ _
    refine sq ?_
    refine rg 8000 ?_
    refine pr [2] ?_
    refine k_ret ?_
    show retQ _ _ _ _ _ _ _
    simp [*]

attribute [local simp] E.av Val.av E.row_eq in
theorem spec24 (o : Int) (ao ac : Int) (av : Val) (ak : List E) (bo bc : Int) (bv : Val) (bk : List E) : Flat.Sp Try.prog 24 [vv (.int .u8 o), (E.mk ao ac av ak).av, (E.mk bo bc bv bk).av] [] ((E.mk o 0 ⟨false, 0, ⟨#[]⟩⟩ [E.mk ao ac av ak, E.mk bo bc bv bk]).av) [] := by
  refine sk Try.func24 ?_
  intro F G hn hG
  refine sq ?_
  refine rg 1000 ?_
  refine pr [0, 4, 5, 6, 7, 8, 9, 10, 11] ?_
  refine sq ?_
  refine rg 2000 ?_
  refine pr [6] ?_
  refine k_ret ?_
  show retQ _ _ _ _ _ _ _
  simp [*]

attribute [local simp] E.av Val.av E.row_eq in
theorem spec25 (n : Int) : Flat.Sp Try.prog 25 [vv (.int .i64 n)] [] ((E.mk 1 n ⟨false, 0, ⟨#[]⟩⟩ []).av) [] := by
  refine sk Try.func25 ?_
  intro F G hn hG
  refine sq ?_
  refine rg 1000 ?_
  refine pr [0, 2, 3, 4] ?_
  refine sq ?_
  refine rg 2000 ?_
  refine pr [2] ?_
  refine k_ret ?_
  show retQ _ _ _ _ _ _ _
  simp [*]

attribute [local simp] E.av Val.av E.row_eq in
theorem spec21 (n : Int) : Flat.Sp Try.prog 21 [vv (.int .i64 n)] [] ((E.mk 2 0 ⟨false, n, ⟨#[]⟩⟩ []).av) [] := by
  refine sk Try.func21 ?_
  intro F G hn hG
  refine sq ?_
  refine rg 1000 ?_
  refine pr [0, 2, 3, 4, 5] ?_
  refine sq ?_
  refine rg 2000 ?_
  refine pr [2] ?_
  refine k_ret ?_
  show retQ _ _ _ _ _ _ _
  simp [*]

end Go.Proofs
end
section
set_option linter.unusedVariables false
set_option linter.unusedSimpArgs false
namespace Go.Proofs
open Go.Flat
set_option linter.unusedSimpArgs false
set_option linter.unusedVariables false
theorem w64 (n : Int) : IntKind.i64.wrap n = (n + 9223372036854775808) % 18446744073709551616 - 9223372036854775808 := by
  unfold IntKind.wrap
  simp [IntKind.bits, IntKind.signed]
  omega
theorem w64_in {n : Int} (h1 : -9223372036854775808 ≤ n) (h2 : n < 9223372036854775808) : IntKind.i64.wrap n = n := by rw [w64]; omega
theorem w64_add (a b : Int) : IntKind.i64.wrap (IntKind.i64.wrap a + b) = IntKind.i64.wrap (a + b) := by simp only [w64]; omega
mutual
def cnt : E → Int → Int
  | .mk op col c kids, d => if !okE op col c kids.length || decide (d > 16) then 1 else 1 + cntL kids (IntKind.i64.wrap (d + 1))
def cntL : List E → Int → Int
  | [], _ => 0
  | e :: r, d => cnt e d + cntL r d
end
mutual
def dep : E → Int → Int
  | .mk op col c kids, d => if !okE op col c kids.length || decide (d > 16) then d else max d (depL kids (IntKind.i64.wrap (d + 1)))
def depL : List E → Int → Int
  | [], _ => 0
  | e :: r, d => max (dep e d) (depL r d)
end
mutual
def wrg : E → Int → Bool
  | .mk op col c kids, d => if !okE op col c kids.length || decide (d > 16) then !okE op col c kids.length else wrgL kids (IntKind.i64.wrap (d + 1))
def wrgL : List E → Int → Bool
  | [], _ => false
  | e :: r, d => wrg e d || wrgL r d
end
theorem lookL_eq {l : List E} (h : ∀ k ∈ l, ∀ d (s : Srv), 0 ≤ s.2.1 → look k d s = (IntKind.i64.wrap (s.1 + cnt k d), max s.2.1 (dep k d), s.2.2 || wrg k d)) : ∀ d (s : Srv), 0 ≤ s.2.1 → IntKind.i64.wrap s.1 = s.1 → lookL l d s = (IntKind.i64.wrap (s.1 + cntL l d), max s.2.1 (depL l d), s.2.2 || wrgL l d) := by
  induction l with
  | nil =>
    intro d s h0 hw
    simp only [lookL, cntL, depL, wrgL, Int.add_zero, hw, Bool.or_false]
    rw [Int.max_eq_left h0]
  | cons k r ih =>
    intro d s h0 hw
    rw [lookL, h k (by simp) d s h0, ih (fun k hk => h k (by simp [hk])) d _ (by simp only; omega) (by simp only [w64]; omega)]
    simp only [cntL, depL, wrgL, w64_add, Bool.or_assoc, Int.add_assoc, Int.max_assoc]
theorem look_eq : ∀ (e : E) d (s : Srv), 0 ≤ s.2.1 → look e d s = (IntKind.i64.wrap (s.1 + cnt e d), max s.2.1 (dep e d), s.2.2 || wrg e d) := by
  refine E.ind fun op col c kids ih d s h0 => ?_
  rw [look, cnt, dep, wrg]
  have hm : (if d > s.2.1 then d else s.2.1) = max s.2.1 d := by
    split <;> omega
  by_cases hc : (!okE op col c kids.length || decide (d > 16)) = true
  · rw [if_pos hc, if_pos hc, if_pos hc, if_pos hc, hm]
  · rw [if_neg hc, if_neg hc, if_neg hc, if_neg hc]
    have hok : okE op col c kids.length = true := by
      simp only [Bool.or_eq_true, Bool.not_eq_true', decide_eq_true_eq, not_or, Bool.not_eq_false] at hc
      exact hc.1
    rw [lookL_eq ih _ _ (by simp only [hm]; omega) (by simp only [w64]; omega)]
    simp only [hm, hok, Bool.not_true, Bool.or_false, w64_add, Int.add_assoc, Int.max_assoc]
theorem checkE_eq (e : E) (hd : 0 ≤ dep e 1) : checkE e = if wrg e 1 then 4 else if decide (64 < IntKind.i64.wrap (cnt e 1)) then 2 else if decide (16 < dep e 1) then 2 else 0 := by
  unfold checkE
  simp only [look_eq e 1 (0, 0, false) (by simp), Int.zero_add, Bool.false_or, Int.max_eq_right hd]
theorem dep_ge : ∀ (e : E) d, d ≤ dep e d := by
  refine E.ind fun op col c kids ih d => ?_
  rw [dep]
  split
  · omega
  · omega
theorem depL_ge : ∀ (l : List E) d, 0 ≤ depL l d
  | [], d => by simp [depL]
  | e :: r, d => by have := depL_ge r d; rw [depL]; omega
/-- A bound on how many are looked at. -/
def pw : Nat → Int
  | 0 => 1
  | k + 1 => 1 + 3 * pw k
theorem pw_pos : ∀ k, 1 ≤ pw k
  | 0 => by simp [pw]
  | k + 1 => by have := pw_pos k; simp only [pw]; omega
theorem cntL_le {b : Int} (hb : 0 ≤ b) {l : List E} {d : Int} (h : ∀ k ∈ l, 0 ≤ cnt k d ∧ cnt k d ≤ b) : 0 ≤ cntL l d ∧ cntL l d ≤ l.length * b := by
  induction l with
  | nil => simp [cntL]
  | cons k r ih =>
    have h1 := h k (by simp)
    have h2 := ih fun k hk => h k (by simp [hk])
    rw [cntL, List.length_cons]
    refine ⟨by omega, ?_⟩
    have : ((r.length + 1 : Nat) : Int) * b = r.length * b + b := by rw [Int.natCast_add, Int.add_mul]; simp
    omega
theorem cnt_le : ∀ (e : E) (k : Nat) (d : Int), k ≤ 17 → d = 17 - (k : Int) → 0 ≤ cnt e d ∧ cnt e d ≤ pw k := by
  refine E.ind fun op col c kids ih k d hk17 hd => ?_
  have hp := pw_pos k
  rw [cnt]
  split
  · omega
  · rename_i hc
    simp only [Bool.or_eq_true, Bool.not_eq_true', decide_eq_true_eq, not_or, Bool.not_eq_false] at hc
    have hl := okE_len hc.1
    cases k with
    | zero => omega
    | succ k =>
      have hk := pw_pos k
      have hw : IntKind.i64.wrap (d + 1) = d + 1 := by
        rw [w64]
        omega
      rw [hw]
      have := cntL_le (b := pw k) (by omega) (l := kids) (d := d + 1) fun x hx => ih x hx k (d + 1) (by omega) (by omega)
      simp only [pw]
      have h3 : (kids.length : Int) * pw k ≤ 3 * pw k := Int.mul_le_mul_of_nonneg_right (by omega) (by omega)
      omega
theorem cnt_in (e : E) (d : Int) (h1 : 0 ≤ d) (h2 : d ≤ 17) : 0 ≤ cnt e d ∧ cnt e d ≤ 193710244 := by
  have := cnt_le e (17 - d).toNat d (by omega) (by omega)
  have hp : ∀ k, k ≤ 17 → pw k ≤ 193710244 := by decide
  have := hp (17 - d).toNat (by omega)
  omega
theorem checkE_cases (e : E) : checkE e = if wrg e 1 then 4 else if decide (64 < cnt e 1) || decide (16 < dep e 1) then 2 else 0 := by
  have h1 := dep_ge e 1
  have h2 := cnt_in e 1 (by omega) (by omega)
  rw [checkE_eq e (by omega), w64_in (by omega) (by omega)]
  cases wrg e 1 <;> by_cases h : 64 < cnt e 1 <;> by_cases h' : 16 < dep e 1 <;> simp [h, h']
theorem checkE_zero {e : E} : checkE e = 0 ↔ wrg e 1 = false ∧ cnt e 1 ≤ 64 ∧ dep e 1 ≤ 16 := by
  rw [checkE_cases]
  cases wrg e 1 <;> by_cases h : 64 < cnt e 1 <;> by_cases h' : 16 < dep e 1 <;> simp [h, h'] <;> omega
theorem checkE_range (e : E) : checkE e = 0 ∨ checkE e = 2 ∨ checkE e = 4 := by
  rw [checkE_cases]
  cases wrg e 1 <;> by_cases h : 64 < cnt e 1 <;> by_cases h' : 16 < dep e 1 <;> simp [h, h']
def vZ : Val := ⟨false, 0, ⟨#[]⟩⟩
def eCon (n : Int) : E := .mk 2 0 ⟨false, n, ⟨#[]⟩⟩ []
def eCol (n : Int) : E := .mk 1 n vZ []
def eTwo (o : Int) (a b : E) : E := .mk o 0 vZ [a, b]
@[simp] theorem okE_con (n : Int) : okE 2 0 ⟨false, n, ⟨#[]⟩⟩ 0 = true := by simp [okE, okA, kidsOf, Val.eqB, checkRow, badRow, firstBad, Val.right]
@[simp] theorem okE_col (n : Int) : okE 1 n vZ 0 = true := by simp [okE, okA, kidsOf, Val.eqB, checkRow, badRow, firstBad, Val.right, vZ]
theorem okE_two {o : Int} (h : o = 3 ∨ o = 4 ∨ o = 5 ∨ o = 7 ∨ o = 8 ∨ o = 9 ∨ o = 10) : okE o 0 vZ 2 = true := by
  rcases h with rfl | rfl | rfl | rfl | rfl | rfl | rfl <;> simp [okE, okA, kidsOf, Val.eqB, checkRow, badRow, firstBad, Val.right, vZ]
theorem okE_one {o : Int} (h : o = 6 ∨ o = 11) : okE o 0 vZ 1 = true := by
  rcases h with rfl | rfl <;> simp [okE, okA, kidsOf, Val.eqB, checkRow, badRow, firstBad, Val.right, vZ]
@[simp] theorem okE_if : okE 12 0 vZ 3 = true := by simp [okE, okA, kidsOf, Val.eqB, checkRow, badRow, firstBad, Val.right, vZ]
theorem con_cnt (n d : Int) : cnt (eCon n) d = 1 := by simp [eCon, cnt, cntL]
theorem con_dep (n d : Int) (hd : 0 ≤ d) : dep (eCon n) d = d := by simp [eCon, dep, depL]; omega
theorem con_wrg (n d : Int) : wrg (eCon n) d = false := by simp [eCon, wrg, wrgL]
theorem col_cnt (n d : Int) : cnt (eCol n) d = 1 := by simp [eCol, cnt, cntL]
theorem col_dep (n d : Int) (hd : 0 ≤ d) : dep (eCol n) d = d := by simp [eCol, dep, depL]; omega
theorem col_wrg (n d : Int) : wrg (eCol n) d = false := by simp [eCol, wrg, wrgL]
theorem two_chk {o : Int} (a b : E) (h : o = 3 ∨ o = 4 ∨ o = 5 ∨ o = 7 ∨ o = 8 ∨ o = 9 ∨ o = 10) : wrg (eTwo o a b) 1 = (wrg a 2 || wrg b 2) ∧ cnt (eTwo o a b) 1 = 1 + (cnt a 2 + cnt b 2) ∧ dep (eTwo o a b) 1 = max 1 (max (dep a 2) (max (dep b 2) 0)) := by
  have hok := okE_two h
  simp [eTwo, cnt, dep, wrg, cntL, depL, wrgL, hok]
/-- Who is not needed is not asked. -/
theorem lazy_checks {e : E} (h : checkE (.mk 12 0 vZ [eCon 1, eCon 7, e]) = 0) (o : Int) (ho : o = 9 ∨ o = 10) (n : Int) : checkE (eTwo o (eCon n) e) = 0 := by
  rw [checkE_zero] at h ⊢
  obtain ⟨h1, h2, h3⟩ := two_chk (o := o) (eCon n) e (by omega)
  have hd := dep_ge e 2
  have e1 : cnt (.mk 12 0 vZ [eCon 1, eCon 7, e]) 1 = 1 + (1 + (1 + cnt e 2)) := by simp [cnt, cntL, con_cnt]
  have e2 : dep (.mk 12 0 vZ [eCon 1, eCon 7, e]) 1 = max 1 (max 2 (max 2 (max (dep e 2) 0))) := by simp [dep, depL, con_dep]
  have e3 : wrg (.mk 12 0 vZ [eCon 1, eCon 7, e]) 1 = wrg e 2 := by simp [wrg, wrgL, con_wrg]
  rw [e1, e2, e3] at h
  rw [h1, h2, h3, con_cnt, con_wrg, con_dep n 2 (by omega)]
  obtain ⟨g1, g2, g3⟩ := h
  refine ⟨by simpa using g1, by omega, by omega⟩
theorem eval_ok {row : List Val} {e : E} (h : checkE e = 0) : evalE row e = if checkRow row != 0 then (vZ, checkRow row) else if (reck row e 0).2 != 0 then (vZ, (reck row e 0).2) else ((reck row e 0).1, 0) := by
  unfold evalE
  rw [h]
  rfl
theorem lazy_law {row : List Val} {e : E} (h : checkE (.mk 12 0 vZ [eCon 1, eCon 7, e]) = 0) :
    (((evalE row (eTwo 9 (eCon 0) e)).2 != 0) = true → (evalE row (eTwo 9 (eCon 0) e)).2 = checkRow row ∧ (evalE row (eTwo 10 (eCon 2) e)).2 = checkRow row ∧ (evalE row (.mk 12 0 vZ [eCon 1, eCon 7, e])).2 = checkRow row) ∧
    (((evalE row (eTwo 9 (eCon 0) e)).2 != 0) = false → (evalE row (eTwo 9 (eCon 0) e)).1.n = 0 ∧ (evalE row (eTwo 10 (eCon 2) e)).2 = 0 ∧ (evalE row (eTwo 10 (eCon 2) e)).1.n = 1 ∧ (evalE row (.mk 12 0 vZ [eCon 1, eCon 7, e])).2 = 0 ∧ (evalE row (.mk 12 0 vZ [eCon 1, eCon 7, e])).1.n = 7) := by
  rw [eval_ok h, eval_ok (lazy_checks h 9 (by omega) 0), eval_ok (lazy_checks h 10 (by omega) 2)]
  have r1 : reck row (eTwo 9 (eCon 0) e) 0 = (Val.num 0, 0) := by simp [eTwo, eCon, reck, recks, stepR, sumR, numF, unlessF, bitV]
  have r2 : reck row (eTwo 10 (eCon 2) e) 0 = (Val.num 1, 0) := by simp [eTwo, eCon, reck, recks, stepR, sumR, numF, unlessF, bitV]
  have r3 : reck row (.mk 12 0 vZ [eCon 1, eCon 7, e]) 0 = (Val.num 7, 0) := by simp [eTwo, eCon, reck, recks, stepR, sumR, numF, unlessF, bitV, Val.num]
  rw [r1, r2, r3]
  cases hc : checkRow row != 0 with
  | true => simp at hc; simp [hc]
  | false => simp [Val.num]
end Go.Proofs
end
section
set_option linter.unusedVariables false
set_option linter.unusedSimpArgs false
namespace Go.Proofs
open Go.Flat
set_option linter.unusedSimpArgs false
set_option linter.unusedVariables false
def i64 (n : Int) : Prop := -9223372036854775808 ≤ n ∧ n < 9223372036854775808
theorem fdiv63 (n : Int) : n.fdiv 9223372036854775808 = n / 9223372036854775808 := Int.fdiv_eq_ediv_of_nonneg _ (by omega)
/-- What two words are, up to what does not fit into them. -/
def V (p : Int × Int) : Int := p.1 * 18446744073709551616 + p.2
theorem tadd_V {p : Int × Int} (hp : tin p) {n : Int} (hn : i64 n) : ∃ k : Int, V (tadd p n) = V p + n + k * 340282366920938463463374607431768211456 := by
  unfold tin at hp
  unfold i64 at hn
  unfold V tadd
  simp only [fdiv63, wrapU]
  by_cases h0 : 0 ≤ n
  · have e : n / 9223372036854775808 = 0 := by omega
    rw [e]
    exact ⟨-((p.1 + 0 % 18446744073709551616 + (p.2 + n % 18446744073709551616) / 18446744073709551616) / 18446744073709551616), by omega⟩
  · have e : n / 9223372036854775808 = -1 := by omega
    rw [e]
    exact ⟨1 - ((p.1 + -1 % 18446744073709551616 + (p.2 + n % 18446744073709551616) / 18446744073709551616) / 18446744073709551616), by omega⟩
theorem tsum_V {xs : List Int} (h : ∀ x ∈ xs, i64 x) : ∀ p, tin p → ∃ k : Int, V (xs.foldl tadd p) = V p + xs.sum + k * 340282366920938463463374607431768211456 := by
  induction xs with
  | nil => intro p hp; exact ⟨0, by simp⟩
  | cons x r ih =>
    intro p hp
    obtain ⟨k, hk⟩ := tadd_V hp (h x (by simp))
    obtain ⟨k', hk'⟩ := ih (fun y hy => h y (by simp [hy])) (tadd p x) (tadd_in hp x)
    refine ⟨k + k', ?_⟩
    rw [List.foldl_cons, hk', hk, List.sum_cons]
    omega
theorem sum_bound {xs : List Int} (h : ∀ x ∈ xs, i64 x) : -(xs.length * 9223372036854775808 : Int) ≤ xs.sum ∧ xs.sum ≤ xs.length * 9223372036854775808 := by
  induction xs with
  | nil => simp
  | cons x r ih =>
    have h1 := h x (by simp)
    have h2 := ih fun y hy => h y (by simp [hy])
    unfold i64 at h1
    rw [List.sum_cons, List.length_cons]
    omega
theorem tfit_V {p : Int × Int} (hp : tin p) {s k : Int} (h : V p = s + k * 340282366920938463463374607431768211456) (hs1 : -85070591730234615865843651857942052864 ≤ s) (hs2 : s ≤ 85070591730234615865843651857942052864) :
    tfit p = if -9223372036854775808 ≤ s ∧ s < 9223372036854775808 then (s, 0) else (0, 10) := by
  unfold tin at hp
  unfold V at h
  unfold tfit tfits
  rw [fdiv63, wrapU, w64]
  by_cases hc : -9223372036854775808 ≤ s ∧ s < 9223372036854775808
  · rw [if_pos hc]
    have e1 : (p.2 + 9223372036854775808) % 18446744073709551616 - 9223372036854775808 = s := by omega
    rw [e1, if_pos]
    simp only [beq_iff_eq]
    omega
  · rw [if_neg hc, if_neg]
    simp only [beq_iff_eq]
    generalize hx : (p.2 + 9223372036854775808) % 18446744073709551616 - 9223372036854775808 = x
    have : x / 9223372036854775808 = 0 ∨ x / 9223372036854775808 = -1 := by omega
    rcases this with e | e <;> rw [e] <;> omega
theorem tfit_sum {xs : List Int} (h : ∀ x ∈ xs, i64 x) (hl : xs.length ≤ 1073741824) : tfit (tsum xs) = if -9223372036854775808 ≤ xs.sum ∧ xs.sum < 9223372036854775808 then (xs.sum, 0) else (0, 10) := by
  obtain ⟨k, hk⟩ := tsum_V h (0, 0) (by simp [tin])
  have hb := sum_bound h
  have : (xs.length : Int) ≤ 1073741824 := by omega
  refine tfit_V (tsum_in xs) (k := k) (by simpa [V, tsum] using hk) ?_ ?_
  · have : (xs.length : Int) * 9223372036854775808 ≤ 1073741824 * 9223372036854775808 := by omega
    omega
  · omega
theorem bxor_neg (b : Int) (hb : i64 b) : IntKind.i64.wrap (bxorN .i64 (-1) b) = -1 - b := by
  unfold i64 at hb
  have h : (bxorN .i64 (-1) b) = (-1 - b) % 18446744073709551616 := by
    unfold bxorN
    show (((BitVec.ofInt 64 (-1) ^^^ BitVec.ofInt 64 b).toNat : Nat) : Int) = _
    have h1 : BitVec.ofInt 64 (-1) = BitVec.allOnes 64 := by decide
    rw [h1, BitVec.allOnes_xor, BitVec.toNat_not, BitVec.toNat_ofInt]
    omega
  rw [h, w64]
  omega
/-- A number less another one. -/
theorem lessR_eq {a b : Int} (ha : i64 a) (hb : i64 b) : lessR a b = if -9223372036854775808 ≤ a - b ∧ a - b < 9223372036854775808 then (a - b, 0) else (0, 10) := by
  unfold lessR
  rw [bxor_neg b hb, tfit_sum (by unfold i64 at *; simp; omega) (by simp)]
  have : [a, -1 - b, 1].sum = a - b := by simp; omega
  rw [this]
theorem sum2_eq {a b : Int} (ha : i64 a) (hb : i64 b) : tfit (tsum [a, b]) = if -9223372036854775808 ≤ a + b ∧ a + b < 9223372036854775808 then (a + b, 0) else (0, 10) := by
  rw [tfit_sum (by unfold i64 at *; simp; omega) (by simp)]
  simp
end Go.Proofs
end
