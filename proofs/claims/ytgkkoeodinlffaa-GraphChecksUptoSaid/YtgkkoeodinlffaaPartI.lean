/-
  Contracts: nodes: whether they are right, by the document.
  Contracts: the first questions.
  Contracts: any nodes are right or not, and go as far as they do.
-/
import Derived.Test.YtgkkoeodinlffaaPartF
import Derived.Test.YtgkkoeodinlffaaPartH
section
set_option linter.unusedVariables false
set_option linter.unusedSimpArgs false
namespace Go.Proofs
open Go.Flat
set_option maxRecDepth 100000
set_option linter.unusedSimpArgs false
set_option linter.unusedVariables false
attribute [local simp] Bool.and_assoc Bool.or_assoc evalG evalX efD skF guardG guardL isCall stepL evalOp ev evs lk tmpsL app AV.ok fresh vv putCells insV ins del putL place Go.Flat.look fillC fillR getCells loadF storeF binF scalarBin intBin strBin isShift shiftBin unF lenF maxF minF rowsF appendF builtinF idxF natOf sliceP sliceF optEv Flat.cut overwrite toPV toPVs constAV scalarC scalarCs AV.cells TI.isAgg allSome andAll scalarEq buildable Go.Flat.lim retQ resL resAll resOne PartOf noTmp closedIn refs refs.refsL isSomeV hasB ids leA leA.leL renA renA.renL callB refsAll backL dropIds renS LiesAt injB ownB freshB memN locId insAll leA_refl leL_refl okS frzS frzA frzA.frzL evalD feet fine updCells cellsFrom memP footRf footWf noTmpU updIds opOps opIds idsA footR footW guardTs opTs dstTs callR callW renLoc renC inBlockQ thenQ Value.oneCell' IntKind.bits IntKind.signed PV.up toPH toPHs

attribute [local simp] Pl.row_eq Pl.av
theorem spec125 (k m : Int) (kids : List Pl) (ex : List E) (cols wth : List Int) (agg rds : Int) (hb : (Pl.mk k m kids ex cols wth agg rds).bnd) : Flat.Sp Try.prog 125 [(Pl.mk k m kids ex cols wth agg rds).av] [] (vv (.int .i64 (checkP (Pl.mk k m kids ex cols wth agg rds)))) [] := by
  refine sk Try.func125 ?_
  intro F G hn hG
  refine sq ?_
  refine rg 1000 ?_
  refine pr [1, 31] ?_
  refine sq ?_
  refine rc 2000 ?_
  refine oc id ((show Flat.Sp Try.prog 172 [(Pl.mk k m kids ex cols wth agg rds).av, vv (.int .i64 16)] [] _ [] from spec172 (Pl.mk k m kids ex cols wth agg rds) hb 16)) ?_
  refine oe 2100 ?_
  refine on ?_
  refine pr [1, 6, 12, 31] ?_
  refine sq ?_
  refine k_block ?_
  refine sq ?_
  refine rg 3000 ?_
  refine pr [1, 3, 4, 6, 12, 13, 15, 31] ?_
  refine cd ?_ ?_
  · intro h12_1
    have hs1 : (fmP (Pl.mk k m kids ex cols wth agg rds) 16).1 = false := by simpa using h12_1
    have hfin : checkP (Pl.mk k m kids ex cols wth agg rds) = 4 := by rw [← checkPr_eq, checkPr, hs1]; rfl
    refine sq ?_
    refine rg 4000 ?_
    refine pr [2, 3] ?_
    refine k_ret ?_
    show retQ _ _ _ _ _ _ _
    simp [*]
  · intro h12_1
    have hs1 : (fmP (Pl.mk k m kids ex cols wth agg rds) 16).1 = true := by simpa using h12_1
    have hfin0 : checkP (Pl.mk k m kids ex cols wth agg rds) = if (fmP (Pl.mk k m kids ex cols wth agg rds) 16).2.2 || (decide (64 < (fmP (Pl.mk k m kids ex cols wth agg rds) 16).2.1) || (decide (16 < dpP (Pl.mk k m kids ex cols wth agg rds) 17) || decide (2 < lpQ (Pl.mk k m kids ex cols wth agg rds)))) then 2 else 0 := by rw [← checkPr_eq, checkPr, hs1]; rfl
    refine sq ?_
    refine cv [(.tmp 15, vv (.bool ((fmP (Pl.mk k m kids ex cols wth agg rds) 16).2.2 || (decide (64 < (fmP (Pl.mk k m kids ex cols wth agg rds) 16).2.1) || (decide (16 < dpP (Pl.mk k m kids ex cols wth agg rds) 17) || decide (2 < lpQ (Pl.mk k m kids ex cols wth agg rds)))))))] ?_ ?_
    · skip
      refine rc 5000 ?_
      iterate 2 (first | refine gp 5150 ?_ | refine os ?_ | refine gt 5150 ?_)
      refine oe 5200 ?_
      first | refine gp 5250 ?_ | refine os ?_ | refine gt 5250 ?_
      refine og (fun hg => (show Flat.Sp Try.prog 173 [(Pl.mk k m kids ex cols wth agg rds).av, vv (.int .i64 17)] [] (vv (.int .i64 (dpP (Pl.mk k m kids ex cols wth agg rds) 17))) [] from spec173 (Pl.mk k m kids ex cols wth agg rds) hb 17)) ?_
      first | refine gp 5450 ?_ | refine os ?_ | refine gt 5450 ?_
      refine oe 5500 ?_
      first | refine gp 5550 ?_ | refine os ?_ | refine gt 5550 ?_
      refine og (fun hg => (show Flat.Sp Try.prog 174 [(Pl.mk k m kids ex cols wth agg rds).av] [] (vv (.int .i64 (lpQ (Pl.mk k m kids ex cols wth agg rds)))) [] from spec174 (Pl.mk k m kids ex cols wth agg rds) hb)) ?_
      first | refine gp 5750 ?_ | refine os ?_ | refine gt 5750 ?_
      refine oe 5800 ?_
      refine on ?_
      refine k_nil ?_
      refine ⟨rfl, ?_, ?_, ?_⟩ <;> simp [*]
    refine pr [2, 3, 15, 16] ?_
    refine cd ?_ ?_
    · intro h15_2
      have hfin : checkP (Pl.mk k m kids ex cols wth agg rds) = 2 := by rw [hfin0]; exact if_pos h15_2
      refine sq ?_
      refine rg 6000 ?_
      refine pr [2, 3] ?_
      refine k_ret ?_
      show retQ _ _ _ _ _ _ _
      simp [*]
    · intro h15_2
      have hfin : checkP (Pl.mk k m kids ex cols wth agg rds) = 0 := by rw [hfin0]; exact if_neg (by rw [h15_2]; decide)
      refine k_skip ?_
      refine k_nil ?_
      show AK _ _ _ _ _ _
      refine sq ?_
      refine rg 7000 ?_
      refine pr [2, 3] ?_
      refine k_ret ?_
      show retQ _ _ _ _ _ _ _
      simp [*]

attribute [local simp] irow in
theorem spec128z (ps : List Int) : Flat.Sp Try.prog 128 [.p (.ps (ps.map irow)), .psf []] [] (vv (.bool ((ps.length : Int) == 0))) [] := by
  refine sk Try.func128 ?_
  intro F G hn hG
  refine sq ?_
  refine rg 1000 ?_
  refine pr [0, 2, 4, 26] ?_
  refine sq ?_
  refine sq ?_
  refine rg 2000 ?_
  refine pr [0, 2, 4, 6, 10, 26] ?_
  refine cd ?_ ?_
  · intro h10_1
    have hl0 : ¬ ps = [] := by simpa using h10_1
    refine sq ?_
    refine rg 3000 ?_
    refine pr [0, 2, 4, 6, 11, 26] ?_
    refine k_ret ?_
    show retQ _ _ _ _ _ _ _
    simp [*]
  · intro h10_1
    have hl0 : ps = [] := by simpa using h10_1
    subst hl0
    refine k_skip ?_
    refine sq ?_
    refine sq ?_
    refine rg 4000 ?_
    refine pr [0, 2, 4, 6, 12, 26] ?_
    refine k_block ?_
    refine k_rounds 1 ?_
    show AK _ _ _ _ _ _
    refine sq ?_
    refine rg 5000 ?_
    refine pr [0, 2, 4, 6, 12, 26] ?_
    refine sq ?_
    refine ce ?_
    refine k_exit ?_
    show AK _ _ _ _ _ _
    refine sq ?_
    refine rg 10000 ?_
    refine pr [4, 5] ?_
    refine k_ret ?_
    show retQ _ _ _ _ _ _ _
    simp [*]

/-- A plan is not the one that is nothing. -/
def nzP (k n : Int) (nk ne nc nw : Nat) (a r : Int) : Bool := (k != 0) || ((n != 0) || (((nk : Int) != 0) || (((ne : Int) != 0) || ((!((nc : Int) == 0)) || ((!((nw : Int) == 0)) || ((a != 0) || (r != 0)))))))
theorem zeroP_nz (k n : Int) (nk ne nc nw : Nat) (a r : Int) : zeroP k n nk ne nc nw a r = !nzP k n nk ne nc nw a r := by
  rw [Bool.eq_iff_iff]
  simp only [zeroP, nzP, Bool.not_eq_true', Bool.and_eq_true, Bool.or_eq_false_iff, beq_iff_eq, bne_eq_false_iff_eq, Bool.not_eq_false']
  omega
theorem nzP_f {k n : Int} {nk ne nc nw : Nat} {a r : Int} (h : nzP k n nk ne nc nw a r = false) : nk = 0 ∧ ne = 0 := by
  simp only [nzP, Bool.or_eq_false_iff, bne_eq_false_iff_eq] at h
  omega

theorem spec70z (k m : Int) (kids : List Pl) (ex : List E) (cols wth : List Int) (agg rds : Int) : Flat.Sp Try.prog 70 [(Pl.mk k m kids ex cols wth agg rds).av, .agg [vv (.int .u8 0), vv (.int .i64 0), .psf [], .psf [], .psf [], .psf [], vv (.int .u8 0), vv (.int .i64 0)]] [] (vv (.bool (zeroP k m kids.length ex.length cols.length wth.length agg rds))) [] := by
  refine sk Try.func70 ?_
  intro F G hn hG
  refine sq ?_
  refine rg 1000 ?_
  refine pr [2, 105] ?_
  refine sq ?_
  refine sq ?_
  refine cv [(.tmp 66, vv (.bool (nzP k m kids.length ex.length cols.length wth.length agg rds)))] ?_ ?_
  · skip
    refine rc 2000 ?_ (h := by simp [*, nzP]; exact is_rfl _)
    iterate 5 (first | refine gp 2450 ?_ (he := by intro hgg; (try simp only [Bool.and_eq_true] at hgg); simp [*, nzP]; exact is_rfl _) | refine os ?_ | refine gt 2450 ?_ (he := by simp [*, nzP]; exact is_rfl _))
    refine oe 2500 ?_ (h := by simp [*, nzP]; exact is_rfl _)
    iterate 7 (first | refine gp 3150 ?_ (he := by intro hgg; (try simp only [Bool.and_eq_true] at hgg); simp [*, nzP]; exact is_rfl _) | refine os ?_ | refine gt 3150 ?_ (he := by simp [*, nzP]; exact is_rfl _))
    refine oe 3200 ?_ (h := by simp [*, nzP]; exact is_rfl _)
    iterate 7 (first | refine gp 3850 ?_ (he := by intro hgg; (try simp only [Bool.and_eq_true] at hgg); simp [*, nzP]; exact is_rfl _) | refine os ?_ | refine gt 3850 ?_ (he := by simp [*, nzP]; exact is_rfl _))
    refine oe 3900 ?_ (h := by simp [*, nzP]; exact is_rfl _)
    iterate 4 (first | refine gp 4250 ?_ (he := by intro hgg; (try simp only [Bool.and_eq_true] at hgg); simp [*, nzP]; exact is_rfl _) | refine os ?_ | refine gt 4250 ?_ (he := by simp [*, nzP]; exact is_rfl _))
    refine og (fun hg => spec128z cols) ?_ (hf := by intro hgg; (try simp only [Bool.and_eq_true] at hgg); simp [*, nzP]; exact is_rfl _) (hx := by intro hgg; (try simp only [Bool.and_eq_true] at hgg); simp [*, nzP]; exact is_rfl _) (hargs := by intro hgg; (try simp only [Bool.and_eq_true] at hgg); simp [*, nzP]) (hd := by simp [*, nzP]; exact is_rfl _)
    first | refine gp 4450 ?_ (he := by intro hgg; (try simp only [Bool.and_eq_true] at hgg); simp [*, nzP]; exact is_rfl _) | refine os ?_ | refine gt 4450 ?_ (he := by simp [*, nzP]; exact is_rfl _)
    refine oe 4500 ?_ (h := by simp [*, nzP]; exact is_rfl _)
    iterate 4 (first | refine gp 4850 ?_ (he := by intro hgg; (try simp only [Bool.and_eq_true] at hgg); simp [*, nzP]; exact is_rfl _) | refine os ?_ | refine gt 4850 ?_ (he := by simp [*, nzP]; exact is_rfl _))
    refine og (fun hg => spec128z wth) ?_ (hf := by intro hgg; (try simp only [Bool.and_eq_true] at hgg); simp [*, nzP]; exact is_rfl _) (hx := by intro hgg; (try simp only [Bool.and_eq_true] at hgg); simp [*, nzP]; exact is_rfl _) (hargs := by intro hgg; (try simp only [Bool.and_eq_true] at hgg); simp [*, nzP]) (hd := by simp [*, nzP]; exact is_rfl _)
    first | refine gp 5050 ?_ (he := by intro hgg; (try simp only [Bool.and_eq_true] at hgg); simp [*, nzP]; exact is_rfl _) | refine os ?_ | refine gt 5050 ?_ (he := by simp [*, nzP]; exact is_rfl _)
    refine oe 5100 ?_ (h := by simp [*, nzP]; exact is_rfl _)
    iterate 5 (first | refine gp 5550 ?_ (he := by intro hgg; (try simp only [Bool.and_eq_true] at hgg); simp [*, nzP]; exact is_rfl _) | refine os ?_ | refine gt 5550 ?_ (he := by simp [*, nzP]; exact is_rfl _))
    refine oe 5600 ?_ (h := by simp [*, nzP]; exact is_rfl _)
    iterate 5 (first | refine gp 6050 ?_ (he := by intro hgg; (try simp only [Bool.and_eq_true] at hgg); simp [*, nzP]; exact is_rfl _) | refine os ?_ | refine gt 6050 ?_ (he := by simp [*, nzP]; exact is_rfl _))
    refine oe 6100 ?_ (h := by simp [*, nzP]; exact is_rfl _)
    refine on ?_
    refine k_nil ?_
    refine ⟨rfl, ?_, ?_, ?_⟩ <;> simp [*, nzP]
  refine pr [2, 7, 66, 105] ?_
  refine cd ?_ ?_
  · intro h66_1
    have hfin : zeroP k m kids.length ex.length cols.length wth.length agg rds = false := by rw [zeroP_nz, h66_1]; rfl
    refine sq ?_
    refine rg 3000 ?_
    refine pr [2, 7, 67, 105] ?_
    refine k_ret ?_
    show retQ _ _ _ _ _ _ _
    simp [*]
  · intro h66_1
    have hfin : zeroP k m kids.length ex.length cols.length wth.length agg rds = true := by rw [zeroP_nz, h66_1]; rfl
    have hkl := nzP_f h66_1
    have hk0 : kids = [] := List.eq_nil_of_length_eq_zero hkl.1
    have he0 : ex = [] := List.eq_nil_of_length_eq_zero hkl.2
    clear h66_1 hkl
    subst hk0
    subst he0
    simp only [List.length_nil] at hfin
    refine k_skip ?_
    refine sq ?_
    refine sq ?_
    refine rg 4000 ?_
    refine pr [2, 7, 69, 105] ?_
    refine k_block ?_
    refine k_rounds 1 ?_
    show AK _ _ _ _ _ _
    refine sq ?_
    refine rg 5000 ?_
    refine pr [2, 7, 69, 105] ?_
    refine sq ?_
    refine ce ?_
    refine k_exit ?_
    show AK _ _ _ _ _ _
    refine sq ?_
    refine sq ?_
    refine rg 10000 ?_
    refine pr [2, 5, 6, 7, 88, 105] ?_
    refine k_block ?_
    refine k_rounds 1 ?_
    show AK _ _ _ _ _ _
    refine sq ?_
    refine rg 11000 ?_
    refine pr [2, 5, 6, 7, 88, 105] ?_
    refine sq ?_
    refine ce ?_
    refine k_exit ?_
    show AK _ _ _ _ _ _
    refine sq ?_
    refine rg 16000 ?_
    refine pr [4, 5] ?_
    refine k_ret ?_
    show retQ _ _ _ _ _ _ _
    simp [*]

theorem spec135 (k m : Int) (kids : List Pl) (ex : List E) (cols wth : List Int) (agg rds : Int) : Flat.Sp Try.prog 135 [(Pl.mk k m kids ex cols wth agg rds).av] [] (vv (.bool (zeroP k m kids.length ex.length cols.length wth.length agg rds))) [] := by
  refine sk Try.func135 ?_
  intro F G hn hG
  refine sq ?_
  refine rg 1000 ?_
  refine pr [1, 6] ?_
  refine sq ?_
  refine rc 2000 ?_
  refine oc id ((show Flat.Sp Try.prog 70 [(Pl.mk k m kids ex cols wth agg rds).av, .agg [vv (.int .u8 0), vv (.int .i64 0), .psf [], .psf [], .psf [], .psf [], vv (.int .u8 0), vv (.int .i64 0)]] [] _ [] from spec70z k m kids ex cols wth agg rds)) ?_
  refine oe 2100 ?_
  refine on ?_
  refine pr [2, 3] ?_
  refine k_ret ?_
  show retQ _ _ _ _ _ _ _
  simp [*]

attribute [local simp] srcP0 in
theorem spec134 (k m : Int) (kids : List Pl) (ex : List E) (cols wth : List Int) (agg rds : Int) (h2 : ex.length ≤ Bnd) (h3 : cols.length ≤ Bnd) (h4 : wth.length ≤ Bnd) : Flat.Sp Try.prog 134 [(Pl.mk k m kids ex cols wth agg rds).av] [] (vv (.bool (madeP k m kids.length ex cols wth agg rds))) [] := by
  refine sk Try.func134 ?_
  intro F G hn hG
  have hb1 : (Pl.mk k m [srcP0] ex cols wth agg rds).bnd := by rw [Pl.bnd]; exact ⟨by simp [Bnd], h2, h3, h4, by simp [Pl.bndL, srcP0, Pl.bnd]⟩
  have hb2 : (Pl.mk k m [srcP0, srcP0] ex cols wth agg rds).bnd := by rw [Pl.bnd]; exact ⟨by simp [Bnd], h2, h3, h4, by simp [Pl.bndL, srcP0, Pl.bnd]⟩
  have hb3 : (Pl.mk k m (if k == 7 then [srcP0, srcP0] else [srcP0]) ex cols wth agg rds).bnd := by split <;> assumption
  refine sq ?_
  refine rg 1000 ?_
  refine pr [1, 40] ?_
  refine sq ?_
  refine sq ?_
  refine cv [(.tmp 21, vv (.bool (noneK k || decide ((0 : Int) < kids.length))))] ?_ ?_
  · skip
    refine rc 2000 ?_ (h := by simp [*, noneK]; exact is_rfl _)
    iterate 3 (first | refine gp 2250 ?_ (he := by intro hgg; (try simp only [Bool.and_eq_true] at hgg); simp [*, noneK]; exact is_rfl _) | refine os ?_ | refine gt 2250 ?_ (he := by simp [*, noneK]; exact is_rfl _))
    refine oe 2300 ?_ (h := by simp [*, noneK]; exact is_rfl _)
    iterate 3 (first | refine gp 2550 ?_ (he := by intro hgg; (try simp only [Bool.and_eq_true] at hgg); simp [*, noneK]; exact is_rfl _) | refine os ?_ | refine gt 2550 ?_ (he := by simp [*, noneK]; exact is_rfl _))
    refine oe 2600 ?_ (h := by simp [*, noneK]; exact is_rfl _)
    iterate 4 (first | refine gp 2950 ?_ (he := by intro hgg; (try simp only [Bool.and_eq_true] at hgg); simp [*, noneK]; exact is_rfl _) | refine os ?_ | refine gt 2950 ?_ (he := by simp [*, noneK]; exact is_rfl _))
    refine oe 3000 ?_ (h := by simp [*, noneK]; exact is_rfl _)
    refine on ?_
    refine k_nil ?_
    refine ⟨rfl, ?_, ?_, ?_⟩ <;> simp [*, noneK]
  refine pr [1, 3, 21, 40] ?_
  refine cd ?_ ?_
  · intro h21_1
    have hfin : (madeP k m kids.length ex cols wth agg rds) = false := if_pos (by rw [Bool.or_comm]; simpa using h21_1)
    refine sq ?_
    refine rg 3000 ?_
    refine pr [1, 3, 22, 40] ?_
    refine k_ret ?_
    show retQ _ _ _ _ _ _ _
    simp [*]
  · intro h21_1
    have hfin0 : (madeP k m kids.length ex cols wth agg rds) = (checkP (.mk k m (if k == 7 then [srcP0, srcP0] else [srcP0]) ex cols wth agg rds) == 0) := if_neg (by rw [Bool.or_comm]; simpa using h21_1)
    simp only [srcP0] at hfin0
    refine k_skip ?_
    refine sq ?_
    refine rg 4000 ?_
    refine pr [1, 3, 25, 40] ?_
    refine sq ?_
    refine sq ?_
    refine rg 5000 ?_
    refine pr [1, 3, 27, 40] ?_
    refine cd ?_ ?_
    · intro h27_2
      refine dr ?_
      refine de 6000 ?_
      refine dn ?_
      refine pr [1, 3, 37, 40] ?_
      refine fz 6007 ?_
      refine sq ?_
      refine rc 7000 ?_
      refine oc id (spec125 k m (if k == 7 then [srcP0, srcP0] else [srcP0]) ex cols wth agg rds hb3) ?_
      refine oe 7100 ?_
      refine on ?_
      refine pr [2, 3] ?_
      refine k_ret ?_
      show retQ _ _ _ _ _ _ _
      simp [*]
    · intro h27_2
      refine k_skip ?_
      refine sq ?_
      refine rc 7000 ?_
      refine oc id (spec125 k m (if k == 7 then [srcP0, srcP0] else [srcP0]) ex cols wth agg rds hb3) ?_
      refine oe 7100 ?_
      refine on ?_
      refine pr [2, 3] ?_
      refine k_ret ?_
      show retQ _ _ _ _ _ _ _
      simp [*]

def nd1 (xk lo rd : Int) : Bool := ((xk == 3 || xk == 4) && (decide (lo < 0) || (decide (2 ≤ lo) || (decide (rd < 1) || decide (16 < rd))))) || (!(xk == 3 || xk == 4) && (lo != 0 || rd != 0))
def nd2 (xk : Int) (z md : Bool) : Bool := ((xk == 1) && !md) || ((xk != 1) && !z)
def nd3 (xk n : Int) : Bool := ((xk == 2) && (decide (n < 0) || decide (8 ≤ n))) || ((xk != 2) && (n != 0))
def nd4 (xk : Int) (nb : Nat) : Bool := decide (0 < xk) && (decide (xk < 6) && (xk == 3 || (nb : Int) == 0))
theorem rightN_eq (xk n lo rd : Int) (nb : Nat) (z md : Bool) : rightN xk n lo rd nb z md = if nd1 xk lo rd then false else if nd2 xk z md then false else if nd3 xk n then false else nd4 xk nb := by
  have hk : xk = 1 ∨ xk = 2 ∨ xk = 3 ∨ xk = 4 ∨ xk = 5 ∨ (xk ≠ 1 ∧ xk ≠ 2 ∧ xk ≠ 3 ∧ xk ≠ 4 ∧ xk ≠ 5 ∧ (xk ≤ 0 ∨ 6 ≤ xk)) := by omega
  rcases hk with rfl | rfl | rfl | rfl | rfl | ⟨h1, h2, h3, h4, h5, h6⟩
  · rw [Bool.eq_iff_iff]; cases md <;> simp [rightN, nd1, nd2, nd3, nd4] <;> omega
  · rw [Bool.eq_iff_iff]; cases z <;> simp [rightN, nd1, nd2, nd3, nd4] <;> omega
  · rw [Bool.eq_iff_iff]; cases z <;> simp [rightN, nd1, nd2, nd3, nd4] <;> omega
  · rw [Bool.eq_iff_iff]; cases z <;> simp [rightN, nd1, nd2, nd3, nd4] <;> omega
  · rw [Bool.eq_iff_iff]; cases z <;> simp [rightN, nd1, nd2, nd3, nd4] <;> omega
  · have h7 : nd4 xk nb = false := by
      simp only [nd4, Bool.and_eq_false_iff, decide_eq_false_iff_not]
      omega
    rw [h7]
    simp [rightN, h1, h2, h3, h4, h5]

set_option maxHeartbeats 1000000 in
theorem spec76 (xk pk pn : Int) (pq : List Pl) (pe : List E) (pc pw : List Int) (pa pg xn xl xr : Int) (xt xb : List Prt) (h2 : pe.length ≤ Bnd) (h3 : pc.length ≤ Bnd) (h4 : pw.length ≤ Bnd) : Flat.Sp Try.prog 76 [.agg [vv (.int .u8 xk), vv (.int .u8 pk), vv (.int .i64 pn), .p (.ps (pq.map Pl.row)), .p (.ps (pe.map E.row)), .p (.ps (pc.map irow)), .p (.ps (pw.map irow)), vv (.int .u8 pa), vv (.int .i64 pg), vv (.int .i64 xn), vv (.int .i64 xl), vv (.int .i64 xr), .p (.ps (xt.map prow)), .p (.ps (xb.map prow))]] [] (vv (.bool (rightN xk xn xl xr xb.length (zeroP pk pn pq.length pe.length pc.length pw.length pa pg) (madeP pk pn pq.length pe pc pw pa pg)))) [] := by
  refine sk Try.func76 ?_
  intro F G hn hG
  have hr0 := rightN_eq xk xn xl xr xb.length (zeroP pk pn pq.length pe.length pc.length pw.length pa pg) (madeP pk pn pq.length pe pc pw pa pg)
  refine sq ?_
  refine rg 1000 ?_
  refine pr [1, 109] ?_
  refine sq ?_
  refine cv [(.tmp 3, vv (.bool (xk == 3 || xk == 4)))] ?_ ?_
  · skip
    refine rc 2000 ?_
    iterate 3 (first | refine gp 2250 ?_ | refine os ?_ | refine gt 2250 ?_)
    refine oe 2300 ?_
    refine on ?_
    refine k_nil ?_
    refine ⟨rfl, ?_, ?_, ?_⟩ <;> simp [*]
  refine pr [1, 4, 12, 109] ?_
  refine sq ?_
  refine sq ?_
  refine cv [(.tmp 46, vv (.bool (nd1 xk xl xr)))] ?_ ?_
  · skip
    rcases h0 : ((xk == 3 || xk == 4) : Bool) with _ | _
    · skip
      rcases h1 : ((decide (xl < 0) || (decide (2 ≤ xl) || (decide (xr < 1) || decide (16 < xr)))) : Bool) with _ | _
      · skip
        refine rc 3000 ?_ (h := by simp [*, nd1]; exact is_rfl _)
        iterate 18 (first | refine gp 4750 ?_ (he := by intro hgg; (try simp only [Bool.and_eq_true] at hgg); simp [*, nd1]; exact is_rfl _) | refine os ?_ | refine gt 4750 ?_ (he := by simp [*, nd1]; exact is_rfl _))
        refine oe 4800 ?_ (h := by simp [*, nd1]; exact is_rfl _)
        iterate 12 (first | refine gp 5950 ?_ (he := by intro hgg; (try simp only [Bool.and_eq_true] at hgg); simp [*, nd1]; exact is_rfl _) | refine os ?_ | refine gt 5950 ?_ (he := by simp [*, nd1]; exact is_rfl _))
        refine oe 6000 ?_ (h := by simp [*, nd1]; exact is_rfl _)
        refine on ?_
        refine k_nil ?_
        refine ⟨rfl, ?_, ?_, ?_⟩ <;> simp [*, nd1]
      · skip
        refine rc 1003000 ?_ (h := by simp [*, nd1]; exact is_rfl _)
        iterate 18 (first | refine gp 1004750 ?_ (he := by intro hgg; (try simp only [Bool.and_eq_true] at hgg); simp [*, nd1]; exact is_rfl _) | refine os ?_ | refine gt 1004750 ?_ (he := by simp [*, nd1]; exact is_rfl _))
        refine oe 1004800 ?_ (h := by simp [*, nd1]; exact is_rfl _)
        iterate 12 (first | refine gp 1005950 ?_ (he := by intro hgg; (try simp only [Bool.and_eq_true] at hgg); simp [*, nd1]; exact is_rfl _) | refine os ?_ | refine gt 1005950 ?_ (he := by simp [*, nd1]; exact is_rfl _))
        refine oe 1006000 ?_ (h := by simp [*, nd1]; exact is_rfl _)
        refine on ?_
        refine k_nil ?_
        refine ⟨rfl, ?_, ?_, ?_⟩ <;> simp [*, nd1]
    · skip
      refine rc 2003000 ?_ (h := by simp [*, nd1]; exact is_rfl _)
      iterate 18 (first | refine gp 2004750 ?_ (he := by intro hgg; (try simp only [Bool.and_eq_true] at hgg); simp [*, nd1]; exact is_rfl _) | refine os ?_ | refine gt 2004750 ?_ (he := by simp [*, nd1]; exact is_rfl _))
      refine oe 2004800 ?_ (h := by simp [*, nd1]; exact is_rfl _)
      iterate 12 (first | refine gp 2005950 ?_ (he := by intro hgg; (try simp only [Bool.and_eq_true] at hgg); simp [*, nd1]; exact is_rfl _) | refine os ?_ | refine gt 2005950 ?_ (he := by simp [*, nd1]; exact is_rfl _))
      refine oe 2006000 ?_ (h := by simp [*, nd1]; exact is_rfl _)
      refine on ?_
      refine k_nil ?_
      refine ⟨rfl, ?_, ?_, ?_⟩ <;> simp [*, nd1]
  refine pr [1, 3, 46, 109] ?_
  refine cd ?_ ?_
  · intro h46_1
    have hfin : (rightN xk xn xl xr xb.length (zeroP pk pn pq.length pe.length pc.length pw.length pa pg) (madeP pk pn pq.length pe pc pw pa pg)) = false := by rw [hr0, if_pos h46_1]
    clear hr0
    refine sq ?_
    refine rg 4000 ?_
    refine pr [1, 3, 47, 109] ?_
    refine k_ret ?_
    show retQ _ _ _ _ _ _ _
    simp [*, nd4]
  · intro h46_1
    rw [if_neg (by rw [h46_1]; decide)] at hr0
    refine k_skip ?_
    refine sq ?_
    refine sq ?_
    refine cv [(.tmp 66, vv (.bool (nd2 xk (zeroP pk pn pq.length pe.length pc.length pw.length pa pg) (madeP pk pn pq.length pe pc pw pa pg))))] ?_ ?_
    · skip
      rcases h0 : ((xk == 1) : Bool) with _ | _
      · skip
        refine rc 5000 ?_ (h := by simp [*, nd2]; exact is_rfl _)
        iterate 2 (first | refine gp 5150 ?_ (he := by intro hgg; (try simp only [Bool.and_eq_true] at hgg); simp [*, nd2]; exact is_rfl _) | refine os ?_ | refine gt 5150 ?_ (he := by simp [*, nd2]; exact is_rfl _))
        refine os ?_
        first | refine gp 5350 ?_ (he := by intro hgg; (try simp only [Bool.and_eq_true] at hgg); simp [*, nd2]; exact is_rfl _) | refine os ?_ | refine gt 5350 ?_ (he := by simp [*, nd2]; exact is_rfl _)
        refine oe 5400 ?_ (h := by simp [*, nd2]; exact is_rfl _)
        iterate 6 (first | refine gp 5950 ?_ (he := by intro hgg; (try simp only [Bool.and_eq_true] at hgg); simp [*, nd2]; exact is_rfl _) | refine os ?_ | refine gt 5950 ?_ (he := by simp [*, nd2]; exact is_rfl _))
        refine og (fun hg => spec135 pk pn pq pe pc pw pa pg) ?_ (hf := by intro hgg; (try simp only [Bool.and_eq_true] at hgg); simp [*, nd2]; exact is_rfl _) (hx := by intro hgg; (try simp only [Bool.and_eq_true] at hgg); simp [*, nd2]; exact is_rfl _) (hargs := by intro hgg; (try simp only [Bool.and_eq_true] at hgg); simp [*, nd2]) (hd := by simp [*, nd2]; exact is_rfl _)
        iterate 2 (first | refine gp 6250 ?_ (he := by intro hgg; (try simp only [Bool.and_eq_true] at hgg); simp [*, nd2]; exact is_rfl _) | refine os ?_ | refine gt 6250 ?_ (he := by simp [*, nd2]; exact is_rfl _))
        refine oe 6300 ?_ (h := by simp [*, nd2]; exact is_rfl _)
        refine on ?_
        refine k_nil ?_
        refine ⟨rfl, ?_, ?_, ?_⟩ <;> simp [*, nd2]
      · skip
        rcases h1 : ((madeP pk pn pq.length pe pc pw pa pg) : Bool) with _ | _
        · skip
          have h0e : (xk != 1) = false := by rw [bne, h0]; rfl
          refine rc 1005000 ?_ (h := by simp [*, nd2]; exact is_rfl _)
          iterate 2 (first | refine gp 1005150 ?_ (he := by intro hgg; (try simp only [Bool.and_eq_true] at hgg); simp [*, nd2]; exact is_rfl _) | refine os ?_ | refine gt 1005150 ?_ (he := by simp [*, nd2]; exact is_rfl _))
          refine og (fun hg => spec134 pk pn pq pe pc pw pa pg h2 h3 h4) ?_ (hf := by intro hgg; (try simp only [Bool.and_eq_true] at hgg); simp [*, nd2]; exact is_rfl _) (hx := by intro hgg; (try simp only [Bool.and_eq_true] at hgg); simp [*, nd2]; exact is_rfl _) (hargs := by intro hgg; (try simp only [Bool.and_eq_true] at hgg); simp [*, nd2]) (hd := by simp [*, nd2]; exact is_rfl _)
          first | refine gp 1005350 ?_ (he := by intro hgg; (try simp only [Bool.and_eq_true] at hgg); simp [*, nd2]; exact is_rfl _) | refine os ?_ | refine gt 1005350 ?_ (he := by simp [*, nd2]; exact is_rfl _)
          refine oe 1005400 ?_ (h := by simp [*, nd2]; exact is_rfl _)
          iterate 6 (first | refine gp 1005950 ?_ (he := by intro hgg; (try simp only [Bool.and_eq_true] at hgg); simp [*, nd2]; exact is_rfl _) | refine os ?_ | refine gt 1005950 ?_ (he := by simp [*, nd2]; exact is_rfl _))
          refine os ?_
          iterate 2 (first | refine gp 1006250 ?_ (he := by intro hgg; (try simp only [Bool.and_eq_true] at hgg); simp [*, nd2]; exact is_rfl _) | refine os ?_ | refine gt 1006250 ?_ (he := by simp [*, nd2]; exact is_rfl _))
          refine oe 1006300 ?_ (h := by simp [*, nd2]; exact is_rfl _)
          refine on ?_
          refine k_nil ?_
          refine ⟨rfl, ?_, ?_, ?_⟩ <;> simp [*, nd2]
        · skip
          have h0e : (xk != 1) = false := by rw [bne, h0]; rfl
          refine rc 2005000 ?_ (h := by simp [*, nd2]; exact is_rfl _)
          iterate 2 (first | refine gp 2005150 ?_ (he := by intro hgg; (try simp only [Bool.and_eq_true] at hgg); simp [*, nd2]; exact is_rfl _) | refine os ?_ | refine gt 2005150 ?_ (he := by simp [*, nd2]; exact is_rfl _))
          refine og (fun hg => spec134 pk pn pq pe pc pw pa pg h2 h3 h4) ?_ (hf := by intro hgg; (try simp only [Bool.and_eq_true] at hgg); simp [*, nd2]; exact is_rfl _) (hx := by intro hgg; (try simp only [Bool.and_eq_true] at hgg); simp [*, nd2]; exact is_rfl _) (hargs := by intro hgg; (try simp only [Bool.and_eq_true] at hgg); simp [*, nd2]) (hd := by simp [*, nd2]; exact is_rfl _)
          first | refine gp 2005350 ?_ (he := by intro hgg; (try simp only [Bool.and_eq_true] at hgg); simp [*, nd2]; exact is_rfl _) | refine os ?_ | refine gt 2005350 ?_ (he := by simp [*, nd2]; exact is_rfl _)
          refine oe 2005400 ?_ (h := by simp [*, nd2]; exact is_rfl _)
          iterate 6 (first | refine gp 2005950 ?_ (he := by intro hgg; (try simp only [Bool.and_eq_true] at hgg); simp [*, nd2]; exact is_rfl _) | refine os ?_ | refine gt 2005950 ?_ (he := by simp [*, nd2]; exact is_rfl _))
          refine os ?_
          iterate 2 (first | refine gp 2006250 ?_ (he := by intro hgg; (try simp only [Bool.and_eq_true] at hgg); simp [*, nd2]; exact is_rfl _) | refine os ?_ | refine gt 2006250 ?_ (he := by simp [*, nd2]; exact is_rfl _))
          refine oe 2006300 ?_ (h := by simp [*, nd2]; exact is_rfl _)
          refine on ?_
          refine k_nil ?_
          refine ⟨rfl, ?_, ?_, ?_⟩ <;> simp [*, nd2]
    refine pr [1, 3, 66, 109] ?_
    refine cd ?_ ?_
    · intro h66_2
      have hfin : (rightN xk xn xl xr xb.length (zeroP pk pn pq.length pe.length pc.length pw.length pa pg) (madeP pk pn pq.length pe pc pw pa pg)) = false := by rw [hr0, if_pos h66_2]
      clear hr0
      refine sq ?_
      refine rg 6000 ?_
      refine pr [1, 3, 67, 109] ?_
      refine k_ret ?_
      show retQ _ _ _ _ _ _ _
      simp [*, nd4]
    · intro h66_2
      rw [if_neg (by rw [h66_2]; decide)] at hr0
      refine k_skip ?_
      refine sq ?_
      refine sq ?_
      refine cv [(.tmp 89, vv (.bool (nd3 xk xn)))] ?_ ?_
      · skip
        rcases h0 : ((xk == 2) : Bool) with _ | _
        · skip
          rcases h1 : ((decide (xn < 0) || decide (8 ≤ xn)) : Bool) with _ | _
          · skip
            refine rc 7000 ?_ (h := by simp [*, nd3]; exact is_rfl _)
            iterate 8 (first | refine gp 7750 ?_ (he := by intro hgg; (try simp only [Bool.and_eq_true] at hgg); simp [*, nd3]; exact is_rfl _) | refine os ?_ | refine gt 7750 ?_ (he := by simp [*, nd3]; exact is_rfl _))
            refine oe 7800 ?_ (h := by simp [*, nd3]; exact is_rfl _)
            iterate 8 (first | refine gp 8550 ?_ (he := by intro hgg; (try simp only [Bool.and_eq_true] at hgg); simp [*, nd3]; exact is_rfl _) | refine os ?_ | refine gt 8550 ?_ (he := by simp [*, nd3]; exact is_rfl _))
            refine oe 8600 ?_ (h := by simp [*, nd3]; exact is_rfl _)
            refine on ?_
            refine k_nil ?_
            refine ⟨rfl, ?_, ?_, ?_⟩ <;> simp [*, nd3]
          · skip
            refine rc 1007000 ?_ (h := by simp [*, nd3]; exact is_rfl _)
            iterate 8 (first | refine gp 1007750 ?_ (he := by intro hgg; (try simp only [Bool.and_eq_true] at hgg); simp [*, nd3]; exact is_rfl _) | refine os ?_ | refine gt 1007750 ?_ (he := by simp [*, nd3]; exact is_rfl _))
            refine oe 1007800 ?_ (h := by simp [*, nd3]; exact is_rfl _)
            iterate 8 (first | refine gp 1008550 ?_ (he := by intro hgg; (try simp only [Bool.and_eq_true] at hgg); simp [*, nd3]; exact is_rfl _) | refine os ?_ | refine gt 1008550 ?_ (he := by simp [*, nd3]; exact is_rfl _))
            refine oe 1008600 ?_ (h := by simp [*, nd3]; exact is_rfl _)
            refine on ?_
            refine k_nil ?_
            refine ⟨rfl, ?_, ?_, ?_⟩ <;> simp [*, nd3]
        · skip
          refine rc 2007000 ?_ (h := by simp [*, nd3]; exact is_rfl _)
          iterate 8 (first | refine gp 2007750 ?_ (he := by intro hgg; (try simp only [Bool.and_eq_true] at hgg); simp [*, nd3]; exact is_rfl _) | refine os ?_ | refine gt 2007750 ?_ (he := by simp [*, nd3]; exact is_rfl _))
          refine oe 2007800 ?_ (h := by simp [*, nd3]; exact is_rfl _)
          iterate 8 (first | refine gp 2008550 ?_ (he := by intro hgg; (try simp only [Bool.and_eq_true] at hgg); simp [*, nd3]; exact is_rfl _) | refine os ?_ | refine gt 2008550 ?_ (he := by simp [*, nd3]; exact is_rfl _))
          refine oe 2008600 ?_ (h := by simp [*, nd3]; exact is_rfl _)
          refine on ?_
          refine k_nil ?_
          refine ⟨rfl, ?_, ?_, ?_⟩ <;> simp [*, nd3]
      refine pr [1, 3, 89, 109] ?_
      refine cd ?_ ?_
      · intro h89_3
        have hfin : (rightN xk xn xl xr xb.length (zeroP pk pn pq.length pe.length pc.length pw.length pa pg) (madeP pk pn pq.length pe pc pw pa pg)) = false := by rw [hr0, if_pos h89_3]
        clear hr0
        refine sq ?_
        refine rg 8000 ?_
        refine pr [1, 3, 90, 109] ?_
        refine k_ret ?_
        show retQ _ _ _ _ _ _ _
        simp [*, nd4]
      · intro h89_3
        rw [if_neg (by rw [h89_3]; decide)] at hr0
        refine k_skip ?_
        refine sq ?_
        refine rc 9000 ?_
        iterate 3 (first | refine gp 9250 ?_ | refine os ?_ | refine gt 9250 ?_)
        refine oe 9300 ?_
        iterate 9 (first | refine gp 10150 ?_ | refine os ?_ | refine gt 10150 ?_)
        refine oe 10200 ?_
        refine on ?_
        refine pr [2, 3] ?_
        refine k_ret ?_
        show retQ _ _ _ _ _ _ _
        simp [*, nd4]

theorem any_drop {α : Type} {p : α → Bool} {l : List α} {i : Nat} {x : α} (h : l[i]? = some x) : (l.drop i).any p = (p x || (l.drop (i + 1)).any p) := by
  obtain ⟨h1, h2⟩ := List.getElem?_eq_some_iff.1 h
  rw [List.drop_eq_getElem_cons h1, h2]
  rfl
def farN (a : Int) (n : Nat) : Bool := decide (a < 0) || decide ((n : Int) ≤ a)
theorem badR_out {ns : List Nd} {a b : Int} (h : farN a ns.length = true) : badR ns ⟨a, b⟩ = true := by
  unfold farN at h
  unfold badR reachN
  simp only
  rw [if_pos h]; rfl
def badY (xk pk b : Int) : Bool := (xk == 2) || ((b != 0) && !((b == 1) && (xk == 3 || ((xk == 1) && (pk == 7)))))
theorem badR_in {ns : List Nd} {i : Nat} {b xk pk pn : Int} {pq : List Pl} {pe : List E} {pc pw : List Int} {pa pg xn xl xr : Int} {xt xb : List Prt} (h : ns[i]? = some ⟨xk, .mk pk pn pq pe pc pw pa pg, xn, xl, xr, xt, xb⟩) : badR ns ⟨i, b⟩ = badY xk pk b := by
  have hlt : i < ns.length := (List.getElem?_eq_some_iff.1 h).1
  have h0 : ¬ ((decide ((i : Int) < 0) || decide ((ns.length : Int) ≤ i)) = true) := by simp; omega
  unfold badR reachN
  simp only
  rw [if_neg h0]
  simp only [Int.toNat_natCast, h, Nd.reached, Nd.two, twoN, badY]
  cases xk == 2 <;> cases hb : b == 0 <;> simp_all

attribute [local simp] Nd.row prow in
theorem spec77 (ns : List Nd) (ps : List Prt) (hlen : ps.length ≤ Flat.lim) : Flat.Sp Try.prog 77 [.p (.ps (ns.map Nd.row)), .p (.ps (ps.map prow))] [] (vv (.bool (!ps.any (badR ns)))) [] := by
  refine sk Try.func77 ?_
  intro F G hn hG
  refine sq ?_
  refine rg 1000 ?_
  refine pr [0, 2, 4, 5, 6, 62] ?_
  refine sq ?_
  refine sq ?_
  refine rg 2000 ?_
  refine pr [0, 1, 4, 5, 6, 62] ?_
  refine k_block ?_
  refine k_loop (fun n l => ∃ i, i + n = ps.length ∧ ((ps.drop i).any (badR ns) = ps.any (badR ns)) ∧ l = [(.tmp 0, .av (.p (.ps (ns.map Nd.row)))), (.tmp 9, .av (.p (.ps (ps.map prow)))), (.tmp 10, .av (vv (.int .i64 ps.length))), (.tmp 11, .av (vv (.int .i64 i)))]) (ps.length) hG ⟨_, ⟨by simp, by simp, by simp⟩, 0, by simp, rfl, rfl⟩ ?_
  rintro n _ ⟨i, hin, hfa, rfl⟩
  have hcm := hfa
  clear hfa
  refine sq ?_
  refine rg 3000 ?_
  refine pr [0, 1, 4, 5, 6, 62] ?_
  refine sq ?_
  refine cd ?_ ?_
  · intro h12_1
    have hlt : i < ps.length := by simpa using h12_1
    obtain ⟨x, hxe⟩ : ∃ x, ps[i] = x := ⟨_, rfl⟩
    have hx : ps[i]? = some x := by simp [hlt, hxe]
    have hw := wrap_succ (show i < Flat.lim by omega)
    rw [any_drop hx] at hcm
    obtain ⟨qa, qb⟩ := x
    refine k_skip ?_
    refine sq ?_
    refine k_block ?_
    refine sq ?_
    refine rg 4000 ?_
    refine pr [0, 1, 4, 5, 6, 62] ?_
    refine sq ?_
    refine sq ?_
    refine cv [(.tmp 24, vv (.bool (farN qa ns.length)))] ?_ ?_
    · skip
      refine rc 5000 ?_ (h := by simp [*, farN]; exact is_rfl _)
      iterate 5 (first | refine gp 5450 ?_ (he := by intro hgg; (try simp only [Bool.and_eq_true] at hgg); simp [*, farN]; exact is_rfl _) | refine os ?_ | refine gt 5450 ?_ (he := by simp [*, farN]; exact is_rfl _))
      refine oe 5500 ?_ (h := by simp [*, farN]; exact is_rfl _)
      refine on ?_
      refine k_nil ?_
      refine ⟨rfl, ?_, ?_, ?_⟩ <;> simp [*, farN]
    refine pr [0, 1, 4, 5, 6, 62] ?_
    refine cd ?_ ?_
    · intro h24_2
      have hfin : ps.any (badR ns) = true := by rw [← hcm, badR_out h24_2]; rfl
      refine sq ?_
      refine rg 6000 ?_
      refine pr [0, 1, 4, 5, 6, 62] ?_
      refine k_ret ?_
      show retQ _ _ _ _ _ _ _
      simp [*]
    · intro h24_2
      have hin : 0 ≤ qa ∧ qa < ns.length := by have := h24_2; simp only [farN, Bool.or_eq_false_iff, decide_eq_false_iff_not] at this; omega
      obtain ⟨y, rfl⟩ := Int.eq_ofNat_of_zero_le hin.1
      have hlt2 : y < ns.length := by omega
      obtain ⟨z, hze⟩ : ∃ z, ns[y] = z := ⟨_, rfl⟩
      have hz : ns[y]? = some z := by simp [hlt2, hze]
      obtain ⟨xk, ⟨pk, pn, pq, pe, pc, pw, pa, pg⟩, xn, xl, xr, xt, xb⟩ := z
      rw [badR_in hz] at hcm
      clear hin h24_2
      refine k_skip ?_
      refine sq ?_
      refine rg 7000 ?_
      refine pr [0, 1, 4, 5, 6, 62] ?_
      refine sq ?_
      refine cv [(.tmp 8, vv (.bool (xk == 3 || ((xk == 1) && (pk == 7)))))] ?_ ?_
      · skip
        rcases h0 : ((xk == 3) : Bool) with _ | _
        · skip
          refine rc 8000 ?_
          iterate 9 (first | refine gp 8850 ?_ | refine os ?_ | refine gt 8850 ?_)
          refine oe 8900 ?_
          refine on ?_
          refine k_nil ?_
          refine ⟨rfl, ?_, ?_, ?_⟩ <;> simp [*]
        · skip
          refine rc 1008000 ?_
          iterate 9 (first | refine gp 1008850 ?_ | refine os ?_ | refine gt 1008850 ?_)
          refine oe 1008900 ?_
          refine on ?_
          refine k_nil ?_
          refine ⟨rfl, ?_, ?_, ?_⟩ <;> simp [*]
      refine pr [0, 1, 4, 5, 6, 62] ?_
      refine sq ?_
      refine cv [(.tmp 60, vv (.bool (badY xk pk qb)))] ?_ ?_
      · skip
        rcases h0 : ((xk == 2) : Bool) with _ | _
        · skip
          rcases h1 : ((qb == 0) : Bool) with _ | _
          · skip
            rcases h2 : ((qb == 1) : Bool) with _ | _
            · skip
              refine rc 9000 ?_ (h := by simp [*, badY]; exact is_rfl _)
              iterate 12 (first | refine gp 10150 ?_ (he := by intro hgg; (try simp only [Bool.and_eq_true] at hgg); simp [*, badY]; exact is_rfl _) | refine os ?_ | refine gt 10150 ?_ (he := by simp [*, badY]; exact is_rfl _))
              refine oe 10200 ?_ (h := by simp [*, badY]; exact is_rfl _)
              refine on ?_
              refine k_nil ?_
              refine ⟨rfl, ?_, ?_, ?_⟩ <;> simp [*, badY]
            · skip
              refine rc 1009000 ?_ (h := by simp [*, badY]; exact is_rfl _)
              iterate 12 (first | refine gp 1010150 ?_ (he := by intro hgg; (try simp only [Bool.and_eq_true] at hgg); simp [*, badY]; exact is_rfl _) | refine os ?_ | refine gt 1010150 ?_ (he := by simp [*, badY]; exact is_rfl _))
              refine oe 1010200 ?_ (h := by simp [*, badY]; exact is_rfl _)
              refine on ?_
              refine k_nil ?_
              refine ⟨rfl, ?_, ?_, ?_⟩ <;> simp [*, badY]
          · skip
            refine rc 2009000 ?_ (h := by simp [*, badY]; exact is_rfl _)
            iterate 12 (first | refine gp 2010150 ?_ (he := by intro hgg; (try simp only [Bool.and_eq_true] at hgg); simp [*, badY]; exact is_rfl _) | refine os ?_ | refine gt 2010150 ?_ (he := by simp [*, badY]; exact is_rfl _))
            refine oe 2010200 ?_ (h := by simp [*, badY]; exact is_rfl _)
            refine on ?_
            refine k_nil ?_
            refine ⟨rfl, ?_, ?_, ?_⟩ <;> simp [*, badY]
        · skip
          refine rc 3009000 ?_ (h := by simp [*, badY]; exact is_rfl _)
          iterate 12 (first | refine gp 3010150 ?_ (he := by intro hgg; (try simp only [Bool.and_eq_true] at hgg); simp [*, badY]; exact is_rfl _) | refine os ?_ | refine gt 3010150 ?_ (he := by simp [*, badY]; exact is_rfl _))
          refine oe 3010200 ?_ (h := by simp [*, badY]; exact is_rfl _)
          refine on ?_
          refine k_nil ?_
          refine ⟨rfl, ?_, ?_, ?_⟩ <;> simp [*, badY]
      refine pr [0, 1, 4, 5, 6, 62] ?_
      refine cd ?_ ?_
      · intro h60_3
        have hfin : ps.any (badR ns) = true := by rw [← hcm, h60_3]; rfl
        refine sq ?_
        refine rg 10000 ?_
        refine pr [0, 1, 4, 5, 6, 62] ?_
        refine k_ret ?_
        show retQ _ _ _ _ _ _ _
        simp [*]
      · intro h60_3
        have hnext : (ps.drop (i + 1)).any (badR ns) = ps.any (badR ns) := by rw [← hcm, h60_3]; rfl
        refine k_skip ?_
        refine k_nil ?_
        show AK _ _ _ _ _ _
        refine rg 11000 ?_
        refine k_nil ?_
        refine ⟨n - 1, by omega, _, ⟨?_, ?_, ?_⟩, i + 1, by omega, hnext, rfl⟩ <;> simp [*]
  · intro h12_1
    have hge : ps.length ≤ i := by simpa using h12_1
    have hfin : ps.any (badR ns) = false := by rw [← hcm, List.drop_eq_nil_of_le hge]; rfl
    refine k_exit ?_
    show AK _ _ _ _ _ _
    refine sq ?_
    refine rg 12000 ?_
    refine pr [4, 5] ?_
    refine k_ret ?_
    show retQ _ _ _ _ _ _ _
    simp [*]

attribute [local simp] Nd.row in
theorem spec39 (ns : List Nd) (hb : ∀ x ∈ ns, x.bnd) : Flat.Sp Try.prog 39 [.p (.ps (ns.map Nd.row))] [] (vv (.int .i64 (checkG ns))) [] := by
  refine sk Try.func39 ?_
  intro F G hn hG
  refine sq ?_
  refine rg 1000 ?_
  refine pr [0, 1, 2, 46] ?_
  refine sq ?_
  refine sq ?_
  refine cv [(.tmp 12, vv (.bool (((ns.length : Int) == 0) || decide ((129 : Int) < ns.length))))] ?_ ?_
  · skip
    refine rc 2000 ?_
    iterate 3 (first | refine gp 2250 ?_ | refine os ?_ | refine gt 2250 ?_)
    refine oe 2300 ?_
    refine on ?_
    refine k_nil ?_
    refine ⟨rfl, ?_, ?_, ?_⟩ <;> simp [*]
  refine pr [0, 1, 2, 5, 12, 46] ?_
  refine cd ?_ ?_
  · intro h12_1
    have hfin : checkG ns = 4 := if_pos h12_1
    refine sq ?_
    refine rg 3000 ?_
    refine pr [0, 1, 2, 5, 13, 46] ?_
    refine k_ret ?_
    show retQ _ _ _ _ _ _ _
    simp [*]
  · intro h12_1
    have hfin0 : checkG ns = if anyBad ns ns 0 then 4 else 0 := if_neg (by rw [h12_1]; decide)
    have hnl : ns.length ≤ 129 := by simp at h12_1; omega
    refine k_skip ?_
    refine sq ?_
    refine sq ?_
    refine rg 4000 ?_
    refine pr [0, 1, 2, 5, 13, 46] ?_
    refine k_block ?_
    refine k_loop (fun n l => ∃ i, i + n = ns.length ∧ (anyBad ns (ns.drop i) i = anyBad ns ns 0) ∧ l = [(.tmp 0, .av (.p (.ps (ns.map Nd.row)))), (.tmp 13, .av (.p (.ps (ns.map Nd.row)))), (.tmp 14, .av (vv (.int .i64 ns.length))), (.tmp 15, .av (vv (.int .i64 i)))]) (ns.length) hG ⟨_, ⟨by simp, by simp, by simp⟩, 0, by simp, rfl, rfl⟩ ?_
    rintro n _ ⟨i, hin, hfa, rfl⟩
    have hcm := hfa
    refine sq ?_
    refine rg 5000 ?_
    refine pr [0, 1, 2, 5, 13, 46] ?_
    refine sq ?_
    refine cd ?_ ?_
    · intro h16_2
      have hlt : i < ns.length := by simpa using h16_2
      obtain ⟨x, hxe⟩ : ∃ x, ns[i] = x := ⟨_, rfl⟩
      have hx : ns[i]? = some x := by simp [hlt, hxe]
      have hw := wrap_succ (show i < Flat.lim by simp only [Flat.lim]; omega)
      have hbx := hb x (List.mem_of_getElem? hx)
      rw [anyBad_drop hx] at hcm
      obtain ⟨xk, ⟨pk, pn, pq, pe, pc, pw, pa, pg⟩, xn, xl, xr, xt, xb⟩ := x
      obtain ⟨b1, b2, b3, b4, b5, b6⟩ := hbx
      simp only [badN, Nd.right] at hcm
      refine k_skip ?_
      refine sq ?_
      refine k_block ?_
      refine sq ?_
      refine rg 6000 ?_
      refine pr [0, 1, 2, 5, 13, 46] ?_
      refine sq ?_
      refine cv [(.tmp 44, vv (.bool (!(rightN xk xn xl xr xb.length (zeroP pk pn pq.length pe.length pc.length pw.length pa pg) (madeP pk pn pq.length pe pc pw pa pg)) || (((xk == 5) != ((i : Int) == 0)) || (xt.any (badR ns) || xb.any (badR ns))))))] ?_ ?_
      · skip
        rcases h0 : ((rightN xk xn xl xr xb.length (zeroP pk pn pq.length pe.length pc.length pw.length pa pg) (madeP pk pn pq.length pe pc pw pa pg)) : Bool) with _ | _
        · skip
          refine rc 7000 ?_
          refine oc id (spec76 xk pk pn pq pe pc pw pa pg xn xl xr xt xb b2 b3 b4) ?_
          refine oe 7100 ?_
          iterate 6 (first | refine gp 7650 ?_ | refine os ?_ | refine gt 7650 ?_)
          refine oe 7700 ?_
          iterate 3 (first | refine gp 7950 ?_ | refine os ?_ | refine gt 7950 ?_)
          refine os ?_
          first | refine gp 8150 ?_ | refine os ?_ | refine gt 8150 ?_
          refine oe 8200 ?_
          iterate 3 (first | refine gp 8450 ?_ | refine os ?_ | refine gt 8450 ?_)
          refine os ?_
          first | refine gp 8650 ?_ | refine os ?_ | refine gt 8650 ?_
          refine oe 8700 ?_
          refine on ?_
          refine k_nil ?_
          refine ⟨rfl, ?_, ?_, ?_⟩ <;> simp [*]
        · skip
          rcases h1 : (((xk == 5) == ((i : Int) == 0)) : Bool) with _ | _
          · skip
            have h1e : ((xk == 5) != ((i : Int) == 0)) = true := by rw [bne, h1]; rfl
            refine rc 1007000 ?_
            refine oc id (spec76 xk pk pn pq pe pc pw pa pg xn xl xr xt xb b2 b3 b4) ?_
            refine oe 1007100 ?_
            iterate 6 (first | refine gp 1007650 ?_ | refine os ?_ | refine gt 1007650 ?_)
            refine oe 1007700 ?_
            iterate 3 (first | refine gp 1007950 ?_ | refine os ?_ | refine gt 1007950 ?_)
            refine os ?_
            first | refine gp 1008150 ?_ | refine os ?_ | refine gt 1008150 ?_
            refine oe 1008200 ?_
            iterate 3 (first | refine gp 1008450 ?_ | refine os ?_ | refine gt 1008450 ?_)
            refine os ?_
            first | refine gp 1008650 ?_ | refine os ?_ | refine gt 1008650 ?_
            refine oe 1008700 ?_
            refine on ?_
            refine k_nil ?_
            refine ⟨rfl, ?_, ?_, ?_⟩ <;> simp [*]
          · skip
            rcases h2 : (xt.any (badR ns) : Bool) with _ | _
            · skip
              have h1e : (xk == 5) = ((i : Int) == 0) := by simpa using h1
              refine rc 2007000 ?_
              refine oc id (spec76 xk pk pn pq pe pc pw pa pg xn xl xr xt xb b2 b3 b4) ?_
              refine oe 2007100 ?_
              iterate 6 (first | refine gp 2007650 ?_ | refine os ?_ | refine gt 2007650 ?_)
              refine oe 2007700 ?_
              iterate 3 (first | refine gp 2007950 ?_ | refine os ?_ | refine gt 2007950 ?_)
              refine og (fun hg => spec77 ns xt b5) ?_
              first | refine gp 2008150 ?_ | refine os ?_ | refine gt 2008150 ?_
              refine oe 2008200 ?_
              iterate 3 (first | refine gp 2008450 ?_ | refine os ?_ | refine gt 2008450 ?_)
              refine og (fun hg => spec77 ns xb b6) ?_
              first | refine gp 2008650 ?_ | refine os ?_ | refine gt 2008650 ?_
              refine oe 2008700 ?_
              refine on ?_
              refine k_nil ?_
              refine ⟨rfl, ?_, ?_, ?_⟩ <;> simp [*]
            · skip
              have h1e : (xk == 5) = ((i : Int) == 0) := by simpa using h1
              refine rc 3007000 ?_
              refine oc id (spec76 xk pk pn pq pe pc pw pa pg xn xl xr xt xb b2 b3 b4) ?_
              refine oe 3007100 ?_
              iterate 6 (first | refine gp 3007650 ?_ | refine os ?_ | refine gt 3007650 ?_)
              refine oe 3007700 ?_
              iterate 3 (first | refine gp 3007950 ?_ | refine os ?_ | refine gt 3007950 ?_)
              refine og (fun hg => spec77 ns xt b5) ?_
              first | refine gp 3008150 ?_ | refine os ?_ | refine gt 3008150 ?_
              refine oe 3008200 ?_
              iterate 3 (first | refine gp 3008450 ?_ | refine os ?_ | refine gt 3008450 ?_)
              refine os ?_
              first | refine gp 3008650 ?_ | refine os ?_ | refine gt 3008650 ?_
              refine oe 3008700 ?_
              refine on ?_
              refine k_nil ?_
              refine ⟨rfl, ?_, ?_, ?_⟩ <;> simp [*]
      refine pr [0, 1, 2, 5, 13, 46] ?_
      refine cd ?_ ?_
      · intro h44_3
        rw [h44_3] at hcm
        have hab : anyBad ns ns 0 = true := hcm.symm
        have hfin : checkG ns = 4 := by rw [hfin0, hab]; rfl
        refine sq ?_
        refine rg 8000 ?_
        refine pr [0, 1, 2, 5, 13, 46] ?_
        refine k_ret ?_
        show retQ _ _ _ _ _ _ _
        simp [*]
      · intro h44_3
        rw [h44_3] at hcm
        have hnext : anyBad ns (ns.drop (i + 1)) (i + 1) = anyBad ns ns 0 := hcm
        refine k_skip ?_
        refine k_nil ?_
        show AK _ _ _ _ _ _
        refine rg 9000 ?_
        refine k_nil ?_
        refine ⟨n - 1, by omega, _, ⟨?_, ?_, ?_⟩, i + 1, by omega, hnext, rfl⟩ <;> simp [*]
    · intro h16_2
      have hge : ns.length ≤ i := by simpa using h16_2
      obtain rfl : i = ns.length := by omega
      have hcm2 : anyBad ns ns 0 = false := by rw [← hcm, List.drop_eq_nil_of_le (Nat.le_refl _)]; rfl
      have hfin : checkG ns = 0 := by rw [hfin0, hcm2]; rfl
      refine k_exit ?_
      show AK _ _ _ _ _ _
      refine sq ?_
      refine rg 10000 ?_
      refine pr [2, 3] ?_
      refine k_ret ?_
      show retQ _ _ _ _ _ _ _
      simp [*]

attribute [local simp] Nd.row in
theorem spec41 (ns : List Nd) (hb : ∀ x ∈ ns, x.bnd) : Flat.Sp Try.prog 41 [.p (.ps (ns.map Nd.row))] [] (vv (.int .i64 (boundG ns))) [] := by
  refine sk Try.func41 ?_
  intro F G hn hG
  refine sq ?_
  refine rg 1000 ?_
  refine pr [0, 1, 2, 4, 5, 31] ?_
  refine sq ?_
  refine sq ?_
  refine rc 2000 ?_
  refine oc id (spec39 ns hb) ?_
  refine oe 2100 ?_
  refine on ?_
  refine pr [0, 1, 2, 4, 5, 6, 8, 31] ?_
  refine cd ?_ ?_
  · intro h8_1
    have hfin : boundG ns = 0 := if_pos h8_1
    refine sq ?_
    refine rg 3000 ?_
    refine pr [0, 1, 2, 4, 5, 6, 9, 31] ?_
    refine k_ret ?_
    show retQ _ _ _ _ _ _ _
    simp [*]
  · intro h8_1
    have hfin : boundG ns = ns.foldl bndF ns.length := if_neg (by rw [h8_1]; decide)
    have hnl : ns.length ≤ 129 := check_len h8_1
    refine k_skip ?_
    refine sq ?_
    refine rg 4000 ?_
    refine pr [0, 1, 2, 4, 5, 6, 11, 31] ?_
    refine sq ?_
    refine sq ?_
    refine rg 5000 ?_
    refine pr [2, 4, 5, 6, 11, 31] ?_
    refine k_block ?_
    refine k_loop (fun n l => ∃ i, i + n = ns.length ∧ (True) ∧ l = [(.tmp 3, .av (vv (.int .i64 ((ns.take i).foldl bndF ns.length)))), (.tmp 11, .av (.p (.ps (ns.map Nd.row)))), (.tmp 12, .av (vv (.int .i64 ns.length))), (.tmp 13, .av (vv (.int .i64 i)))]) (ns.length) hG ⟨_, ⟨by simp, by simp, by simp⟩, 0, by simp, trivial, rfl⟩ ?_
    rintro n _ ⟨i, hin, hfa, rfl⟩
    refine sq ?_
    refine rg 6000 ?_
    refine pr [2, 4, 5, 6, 11, 31] ?_
    refine sq ?_
    refine cd ?_ ?_
    · intro h14_2
      have hlt : i < ns.length := by simpa using h14_2
      obtain ⟨x, hxe⟩ : ∃ x, ns[i] = x := ⟨_, rfl⟩
      have hx : ns[i]? = some x := by simp [hlt, hxe]
      have hw := wrap_succ (show i < Flat.lim by simp only [Flat.lim]; omega)
      have htk := bndF_take (n := ns.length) hx
      obtain ⟨xk, ⟨pk, pn, pq, pe, pc, pw, pa, pg⟩, xn, xl, xr, xt, xb⟩ := x
      refine k_skip ?_
      refine sq ?_
      refine k_block ?_
      refine sq ?_
      refine rg 7000 ?_
      refine pr [2, 4, 5, 6, 11, 31] ?_
      refine sq ?_
      refine rc 8000 ?_
      iterate 2 (first | refine gp 8150 ?_ | refine os ?_ | refine gt 8150 ?_)
      refine oe 8200 ?_
      refine on ?_
      refine pr [2, 4, 5, 6, 11, 31] ?_
      refine cd ?_ ?_
      · intro h23_3
        have hnx : ((ns.take (i + 1)).foldl bndF ns.length) = IntKind.i64.wrap (((ns.take i).foldl bndF ns.length) * IntKind.i64.wrap (xr + 1)) := by rw [htk]; exact if_pos h23_3
        clear htk
        refine rg 9000 ?_
        refine k_nil ?_
        show AK _ _ _ _ _ _
        refine rg 10000 ?_
        refine k_nil ?_
        refine ⟨n - 1, by omega, _, ⟨?_, ?_, ?_⟩, i + 1, by omega, trivial, rfl⟩ <;> simp [*]
      · intro h23_3
        have hnx : ((ns.take (i + 1)).foldl bndF ns.length) = ((ns.take i).foldl bndF ns.length) := by rw [htk]; exact if_neg (by rw [h23_3]; decide)
        clear htk
        refine k_skip ?_
        refine k_nil ?_
        show AK _ _ _ _ _ _
        refine rg 10000 ?_
        refine k_nil ?_
        refine ⟨n - 1, by omega, _, ⟨?_, ?_, ?_⟩, i + 1, by omega, trivial, rfl⟩ <;> simp [*]
    · intro h14_2
      have hge : ns.length ≤ i := by simpa using h14_2
      obtain rfl : i = ns.length := by omega
      have hta : ns.take ns.length = ns := List.take_length
      refine k_exit ?_
      show AK _ _ _ _ _ _
      refine sq ?_
      refine rg 11000 ?_
      refine pr [2, 3] ?_
      refine k_ret ?_
      show retQ _ _ _ _ _ _ _
      simp [*]

end Go.Proofs
end
section
set_option linter.unusedVariables false
set_option linter.unusedSimpArgs false
namespace Go.Proofs
open Go.Flat
set_option maxRecDepth 100000
set_option linter.unusedSimpArgs false
set_option linter.unusedVariables false
attribute [local simp] Bool.and_assoc Bool.or_assoc evalG evalX efD skF guardG guardL isCall stepL evalOp ev evs lk tmpsL app AV.ok fresh vv putCells insV ins del putL place Go.Flat.look fillC fillR getCells loadF storeF binF scalarBin intBin strBin isShift shiftBin unF lenF maxF minF rowsF appendF builtinF idxF natOf sliceP sliceF optEv Flat.cut overwrite toPV toPVs constAV scalarC scalarCs AV.cells TI.isAgg allSome andAll scalarEq buildable Go.Flat.lim retQ resL resAll resOne PartOf noTmp closedIn refs refs.refsL isSomeV hasB ids leA leA.leL renA renA.renL callB refsAll backL dropIds renS LiesAt injB ownB freshB memN locId insAll leA_refl leL_refl okS frzS frzA frzA.frzL evalD feet fine updCells cellsFrom memP footRf footWf noTmpU updIds opOps opIds idsA footR footW guardTs opTs dstTs callR callW renLoc renC inBlockQ thenQ Value.oneCell' IntKind.bits IntKind.signed PV.up toPH toPHs

def l14S : List (List Int) := [[1]]
def l14a : Pl := .mk 6 0 [.mk 1 0 [] [] [] [] 0 0] [] [] [] 0 0
def l14b : Pl := .mk 1 1 [] [] [] [] 0 0
def l14c : Pl := .mk 10 0 [.mk 1 0 [] [] [] [] 0 0, .mk 2 0 [] [] [] [] 0 0] [] [] [] 0 2
def l14m : List Nd := [⟨5, .zero, 0, 0, 0, [], []⟩, ⟨3, .zero, 0, 0, 2, [⟨2, 0⟩], [⟨1, 1⟩]⟩, ⟨4, .zero, 0, 0, 2, [⟨0, 0⟩], []⟩, ⟨2, .zero, 0, 0, 0, [⟨1, 0⟩], []⟩]
theorem l14_1 : (inferP l14S l14a).2 = 0 := by decide +kernel
theorem l14_2 : (inferP l14S l14b).2 = 1 := by decide +kernel
theorem l14_3 : (inferP l14S l14c).2 = 0 := by decide +kernel
theorem l14_a : bldG l14S l14a = ([⟨5, .zero, 0, 0, 0, [], []⟩, ⟨1, .mk 6 0 [] [] [] [] 0 0, 0, 0, 0, [⟨0, 0⟩], []⟩, ⟨2, .zero, 0, 0, 0, [⟨1, 0⟩], []⟩], 0) := by
  unfold bldG; rw [if_neg (by rw [l14_1]; decide)]; rfl
theorem l14_b : bldG l14S l14b = ([], 1) := by
  unfold bldG; rw [if_pos (by rw [l14_2]; decide), l14_2]
theorem l14_c : bldG l14S l14c = (l14m, 0) := by
  unfold bldG; rw [if_neg (by rw [l14_3]; decide)]; rfl
theorem l14_4 : boundG l14m = 12 := by decide +kernel
theorem l14_5 : checkG [] = 4 := by decide +kernel
theorem l14m_bnd : ∀ x ∈ l14m, x.bnd := by
  intro x hx
  simp only [l14m, List.mem_cons, List.not_mem_nil, or_false] at hx
  rcases hx with rfl | rfl | rfl | rfl <;> simp [Nd.bnd, Pl.zero, Flat.lim]
@[simp] theorem eqPrt (a b c d : Int) : eqT (tyOf Try.prog) 8 77 (.agg [.p (.v (.int .i64 a)), .p (.v (.int .i64 b))]) (.agg [.p (.v (.int .i64 c)), .p (.v (.int .i64 d))]) = some ((a == c) && (b == d)) := by
  simp [eqT, eqCut, andAll]
attribute [local simp] Pl.row_eq Pl.av

attribute [local simp] l14S l14a l14b l14c l14m srow trow Nd.row Pl.zero prow in
set_option maxHeartbeats 2000000 in
theorem spec36  : Flat.Sp Try.prog 36 [] [] (vv (.bool true)) [] := by
  refine sk Try.func36 ?_
  intro F G hn hG
  have f1 : Flat.Sp Try.prog 34 [l14a.av, .p (.ps (l14S.map srow))] [] (.tup [.p (.ps ((bldG l14S l14a).1.map Nd.row)), vv (.int .i64 (bldG l14S l14a).2)]) [] := spec34 l14a (by simp [l14a, Pl.bnd, Pl.bndL, Bnd]) (by simp [l14a, Pl.size, Pl.sizeL]) l14S
  rw [l14_a] at f1
  have f2 : Flat.Sp Try.prog 34 [l14b.av, .p (.ps (l14S.map srow))] [] (.tup [.p (.ps ((bldG l14S l14b).1.map Nd.row)), vv (.int .i64 (bldG l14S l14b).2)]) [] := spec34 l14b (by simp [l14b, Pl.bnd, Pl.bndL, Bnd]) (by simp [l14b, Pl.size, Pl.sizeL]) l14S
  rw [l14_b] at f2
  have f3 : Flat.Sp Try.prog 34 [l14c.av, .p (.ps (l14S.map srow))] [] (.tup [.p (.ps ((bldG l14S l14c).1.map Nd.row)), vv (.int .i64 (bldG l14S l14c).2)]) [] := spec34 l14c (by simp [l14c, Pl.bnd, Pl.bndL, Bnd]) (by simp [l14c, Pl.size, Pl.sizeL]) l14S
  rw [l14_c] at f3
  have f4 := spec40 l14m l14m_bnd
  rw [l14_4] at f4
  have f5 := spec38 [] (by simp)
  rw [l14_5] at f5
  refine sq ?_
  refine rg 1000 ?_
  refine pr [0, 4, 5, 113] ?_
  refine sq ?_
  refine rg 2000 ?_
  refine pr [0, 4, 5, 8, 10, 113] ?_
  refine sq ?_
  refine rc 3000 ?_
  refine oc id (f1) ?_
  refine oe 3100 ?_
  refine on ?_
  refine pr [0, 4, 5, 8, 18, 113] ?_
  refine sq ?_
  refine rc 4000 ?_
  refine oc id (f2) ?_
  refine oe 4100 ?_
  refine on ?_
  refine pr [0, 4, 5, 8, 24, 113] ?_
  refine sq ?_
  refine rc 5000 ?_
  refine oc id (f3) ?_
  refine oe 5100 ?_
  refine on ?_
  refine pr [0, 1, 2, 4, 5, 8, 33, 113] ?_
  refine sq ?_
  refine rc 6000 ?_
  iterate 3 (first | refine gp 6250 ?_ | refine os ?_ | refine gt 6250 ?_)
  refine oe 6300 ?_
  iterate 5 (first | refine gp 6750 ?_ | refine os ?_ | refine gt 6750 ?_)
  refine oe 6800 ?_
  iterate 6 (first | refine gp 7350 ?_ | refine os ?_ | refine gt 7350 ?_)
  refine oe 7400 ?_
  iterate 6 (first | refine gp 7950 ?_ | refine os ?_ | refine gt 7950 ?_)
  refine oe 8000 ?_
  iterate 8 (first | refine gp 8750 ?_ | refine os ?_ | refine gt 8750 ?_)
  refine oe 8800 ?_
  iterate 2 (first | refine gp 8950 ?_ | refine os ?_ | refine gt 8950 ?_)
  refine oe 9000 ?_
  iterate 2 (first | refine gp 9150 ?_ | refine os ?_ | refine gt 9150 ?_)
  refine oe 9200 ?_
  iterate 3 (first | refine gp 9450 ?_ | refine os ?_ | refine gt 9450 ?_)
  refine oe 9500 ?_
  iterate 6 (first | refine gp 10050 ?_ | refine os ?_ | refine gt 10050 ?_)
  refine oe 10100 ?_
  iterate 8 (first | refine gp 10850 ?_ | refine os ?_ | refine gt 10850 ?_)
  refine oe 10900 ?_
  first | refine gp 10950 ?_ | refine os ?_ | refine gt 10950 ?_
  refine oc id (f4) ?_
  first | refine gp 11150 ?_ | refine os ?_ | refine gt 11150 ?_
  refine oe 11200 ?_
  refine oc id (f5) ?_
  first | refine gp 11350 ?_ | refine os ?_ | refine gt 11350 ?_
  refine oe 11400 ?_
  refine on ?_
  refine pr [0, 1] ?_
  refine k_ret ?_
  show retQ _ _ _ _ _ _ _
  simp [*]

end Go.Proofs
end
section
set_option linter.unusedVariables false
set_option linter.unusedSimpArgs false
namespace Go.Proofs
open Go.Flat
set_option maxRecDepth 100000
set_option linter.unusedSimpArgs false
set_option linter.unusedVariables false
attribute [local simp] Bool.and_assoc Bool.or_assoc evalG evalX efD skF guardG guardL isCall stepL evalOp ev evs lk tmpsL app AV.ok fresh vv putCells insV ins del putL place Go.Flat.look fillC fillR getCells loadF storeF binF scalarBin intBin strBin isShift shiftBin unF lenF maxF minF rowsF appendF builtinF idxF natOf sliceP sliceF optEv Flat.cut overwrite toPV toPVs constAV scalarC scalarCs AV.cells TI.isAgg allSome andAll scalarEq buildable Go.Flat.lim retQ resL resAll resOne PartOf noTmp closedIn refs refs.refsL isSomeV hasB ids leA leA.leL renA renA.renL callB refsAll backL dropIds renS LiesAt injB ownB freshB memN locId insAll leA_refl leL_refl okS frzS frzA frzA.frzL evalD feet fine updCells cellsFrom memP footRf footWf noTmpU updIds opOps opIds idsA footR footW guardTs opTs dstTs callR callW renLoc renC inBlockQ thenQ Value.oneCell' IntKind.bits IntKind.signed PV.up toPH toPHs

theorem spec12 (ns : List Nd) (hb : ∀ x ∈ ns, x.bnd) : Flat.Sp Try.prog 12 [.p (.ps (ns.map Nd.row))] [] (vv (.bool true)) [] := by
  refine sk Try.func12 ?_
  intro F G hn hG
  refine sq ?_
  refine rg 1000 ?_
  refine pr [0, 1, 2, 18] ?_
  refine sq ?_
  refine rc 2000 ?_
  refine oc id (spec36) ?_
  refine oe 2100 ?_
  first | refine gp 2150 ?_ | refine os ?_ | refine gt 2150 ?_
  refine og (fun hg => spec38 ns hb) ?_
  first | refine gp 2350 ?_ | refine os ?_ | refine gt 2350 ?_
  refine og (fun hg => spec39 ns hb) ?_
  first | refine gp 2550 ?_ | refine os ?_ | refine gt 2550 ?_
  refine oe 2600 ?_
  first | refine gp 2650 ?_ | refine os ?_ | refine gt 2650 ?_
  refine og (fun hg => spec40 ns hb) ?_
  first | refine gp 2850 ?_ | refine os ?_ | refine gt 2850 ?_
  refine og (fun hg => spec41 ns hb) ?_
  first | refine gp 3050 ?_ | refine os ?_ | refine gt 3050 ?_
  refine oe 3100 ?_
  refine on ?_
  refine pr [2, 3] ?_
  refine k_ret ?_
  show retQ _ _ _ _ _ _ _
  simp [*]

end Go.Proofs
end
