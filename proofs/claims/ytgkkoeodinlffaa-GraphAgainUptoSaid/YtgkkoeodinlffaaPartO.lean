/-
  Contracts: two lists that are one.
  A plan's nodes hang on the plan alone.
  Contracts: nodes hang on the plan alone.
-/
import Derived.Test.YtgkkoeodinlffaaPartH
section
set_option linter.unusedVariables false
set_option linter.unusedSimpArgs false
namespace Go.Proofs
open Go.Flat
set_option maxRecDepth 100000
set_option linter.unusedSimpArgs false
set_option linter.unusedVariables false
attribute [local simp] Bool.and_assoc Bool.or_assoc evalG evalX efD skF guardG guardL isCall stepL evalOp ev evs lk tmpsL app AV.ok fresh vv putCells insV ins del putL place Go.Flat.look fillC fillR getCells loadF storeF binF scalarBin intBin strBin isShift shiftBin unF lenF maxF minF rowsF appendF builtinF idxF natOf sliceP sliceF optEv Flat.cut overwrite toPV toPVs constAV scalarC scalarCs AV.cells TI.isAgg allSome andAll scalarEq buildable Go.Flat.lim retQ resL resAll resOne PartOf noTmp closedIn refs refs.refsL isSomeV hasB ids leA leA.leL renA renA.renL callB refsAll backL dropIds renS LiesAt injB ownB freshB memN locId insAll leA_refl leL_refl okS frzS frzA frzA.frzL evalD feet fine updCells cellsFrom memP footRf footWf noTmpU updIds opOps opIds idsA footR footW guardTs opTs dstTs callR callW renLoc renC inBlockQ thenQ Value.oneCell' IntKind.bits IntKind.signed PV.up toPH toPHs

attribute [local simp] Pl.av E.av
@[simp] theorem eqB_self (c : Val) : Val.eqB c c = true := by simp [Val.eqB]

attribute [local simp] irow in
theorem spec128 (ps : List Int) (hl : ps.length ≤ Flat.lim) : Flat.Sp Try.prog 128 [.p (.ps (ps.map irow)), .p (.ps (ps.map irow))] [] (vv (.bool true)) [] := by
  refine sk Try.func128 ?_
  intro F G hn hG
  refine sq ?_
  refine rg 1000 ?_
  refine pr [0, 2, 4, 26] ?_
  refine sq ?_
  refine sq ?_
  refine rg 2000 ?_
  refine pr [0, 2, 4, 6, 10, 26] ?_
  refine ce ?_
  refine k_skip ?_
  refine sq ?_
  refine sq ?_
  refine rg 4000 ?_
  refine pr [0, 2, 4, 6, 12, 26] ?_
  refine k_block ?_
  refine k_loop (fun n l => ∃ i, i + n = ps.length ∧ (True) ∧ l = [(.tmp 0, .av (.p (.ps (ps.map irow)))), (.tmp 1, .av (.p (.ps (ps.map irow)))), (.tmp 12, .av (vv (.int .i64 ps.length))), (.tmp 13, .av (vv (.int .i64 i)))]) (ps.length) hG ⟨_, ⟨by simp, by simp, by simp⟩, 0, by simp, trivial, rfl⟩ ?_
  rintro n _ ⟨i, hin, hfa, rfl⟩
  refine sq ?_
  refine rg 5000 ?_
  refine pr [0, 2, 4, 6, 12, 26] ?_
  refine sq ?_
  refine cd ?_ ?_
  · intro h14_1
    have hlt : i < ps.length := by simpa using h14_1
    obtain ⟨x, hxe⟩ : ∃ x, ps[i] = x := ⟨_, rfl⟩
    have hx : ps[i]? = some x := by simp [hlt, hxe]
    have hw := wrap_succ (show i < Flat.lim by omega)
    refine k_skip ?_
    refine sq ?_
    refine k_block ?_
    refine sq ?_
    refine rg 6000 ?_
    refine pr [0, 2, 4, 6, 12, 26] ?_
    refine sq ?_
    refine dr ?_
    refine de 7000 ?_
    refine dn ?_
    refine pr [0, 2, 4, 6, 12, 26] ?_
    refine ce ?_
    refine k_skip ?_
    refine k_nil ?_
    show AK _ _ _ _ _ _
    refine rg 9000 ?_
    refine k_nil ?_
    refine ⟨n - 1, by omega, _, ⟨?_, ?_, ?_⟩, i + 1, by omega, trivial, rfl⟩ <;> simp [*]
  · intro h14_1
    have hge : ps.length ≤ i := by simpa using h14_1
    refine k_exit ?_
    show AK _ _ _ _ _ _
    refine sq ?_
    refine rg 10000 ?_
    refine pr [4, 5] ?_
    refine k_ret ?_
    show retQ _ _ _ _ _ _ _
    simp [*]

attribute [local simp] prow in
theorem spec71 (ps : List Prt) (hl : ps.length ≤ Flat.lim) : Flat.Sp Try.prog 71 [.p (.ps (ps.map prow)), .p (.ps (ps.map prow))] [] (vv (.bool true)) [] := by
  refine sk Try.func71 ?_
  intro F G hn hG
  refine sq ?_
  refine rg 1000 ?_
  refine pr [0, 2, 4, 26] ?_
  refine sq ?_
  refine sq ?_
  refine rg 2000 ?_
  refine pr [0, 2, 4, 6, 10, 26] ?_
  refine ce ?_
  refine k_skip ?_
  refine sq ?_
  refine sq ?_
  refine rg 4000 ?_
  refine pr [0, 2, 4, 6, 12, 26] ?_
  refine k_block ?_
  refine k_loop (fun n l => ∃ i, i + n = ps.length ∧ (True) ∧ l = [(.tmp 0, .av (.p (.ps (ps.map prow)))), (.tmp 1, .av (.p (.ps (ps.map prow)))), (.tmp 12, .av (vv (.int .i64 ps.length))), (.tmp 13, .av (vv (.int .i64 i)))]) (ps.length) hG ⟨_, ⟨by simp, by simp, by simp⟩, 0, by simp, trivial, rfl⟩ ?_
  rintro n _ ⟨i, hin, hfa, rfl⟩
  refine sq ?_
  refine rg 5000 ?_
  refine pr [0, 2, 4, 6, 12, 26] ?_
  refine sq ?_
  refine cd ?_ ?_
  · intro h14_1
    have hlt : i < ps.length := by simpa using h14_1
    obtain ⟨x, hxe⟩ : ∃ x, ps[i] = x := ⟨_, rfl⟩
    have hx : ps[i]? = some x := by simp [hlt, hxe]
    have hw := wrap_succ (show i < Flat.lim by omega)
    refine k_skip ?_
    refine sq ?_
    refine k_block ?_
    refine sq ?_
    refine rg 6000 ?_
    refine pr [0, 2, 4, 6, 12, 26] ?_
    refine sq ?_
    refine dr ?_
    refine de 7000 ?_
    refine dn ?_
    refine pr [0, 2, 4, 6, 12, 26] ?_
    refine ce ?_
    refine k_skip ?_
    refine k_nil ?_
    show AK _ _ _ _ _ _
    refine rg 9000 ?_
    refine k_nil ?_
    refine ⟨n - 1, by omega, _, ⟨?_, ?_, ?_⟩, i + 1, by omega, trivial, rfl⟩ <;> simp [*]
  · intro h14_1
    have hge : ps.length ≤ i := by simpa using h14_1
    refine k_exit ?_
    show AK _ _ _ _ _ _
    refine sq ?_
    refine rg 10000 ?_
    refine pr [4, 5] ?_
    refine k_ret ?_
    show retQ _ _ _ _ _ _ _
    simp [*]

theorem spec129_step (eo ec : Int) (ev : Val) (ek : List E) (hb : ek.length ≤ 3) (ih : ∀ x ∈ ek, Flat.Sp Try.prog 129 [x.av, x.av] [] (vv (.bool true)) []) : Flat.Sp Try.prog 129 [(E.mk eo ec ev ek).av, (E.mk eo ec ev ek).av] [] (vv (.bool true)) [] := by
  refine sk Try.func129 ?_
  intro F G hn hG
  have hbl : ek.length ≤ Flat.lim := by simp only [Flat.lim]; omega
  refine sq ?_
  refine rg 1000 ?_
  refine pr [2, 53] ?_
  refine sq ?_
  refine sq ?_
  refine rc 2000 ?_
  iterate 5 (first | refine gp 2450 ?_ | refine os ?_ | refine gt 2450 ?_)
  refine oe 2500 ?_
  iterate 5 (first | refine gp 2950 ?_ | refine os ?_ | refine gt 2950 ?_)
  refine oe 3000 ?_
  iterate 7 (first | refine gp 3650 ?_ | refine os ?_ | refine gt 3650 ?_)
  refine oe 3700 ?_
  refine on ?_
  refine pr [2, 6, 33, 53] ?_
  refine ce ?_
  refine k_skip ?_
  refine sq ?_
  refine sq ?_
  refine rg 4000 ?_
  refine pr [2, 6, 36, 53] ?_
  refine k_block ?_
  refine k_loop (fun n l => ∃ i, i + n = ek.length ∧ (True) ∧ l = [(.tmp 2, .av (.ptr 1000 0)), (.tmp 3, .av (.ptr 1001 0)), (.tmp 36, .av (vv (.int .i64 ek.length))), (.tmp 37, .av (vv (.int .i64 i))), (.var 1000, .n 6), (.cell 1000 0, .av (vv (.int .u8 eo))), (.cell 1000 1, .av (vv (.int .i64 ec))), (.cell 1000 2, .av (vv (.bool ev.t))), (.cell 1000 3, .av (vv (.int .i64 ev.n))), (.cell 1000 4, .av (vv (.string ev.s))), (.cell 1000 5, .av (.p (.ps (ek.map E.row)))), (.var 1001, .n 6), (.cell 1001 0, .av (vv (.int .u8 eo))), (.cell 1001 1, .av (vv (.int .i64 ec))), (.cell 1001 2, .av (vv (.bool ev.t))), (.cell 1001 3, .av (vv (.int .i64 ev.n))), (.cell 1001 4, .av (vv (.string ev.s))), (.cell 1001 5, .av (.p (.ps (ek.map E.row))))]) (ek.length) hG ⟨_, ⟨by simp, by simp, by simp⟩, 0, by simp, trivial, rfl⟩ ?_
  rintro n _ ⟨i, hin, hfa, rfl⟩
  refine sq ?_
  refine rg 5000 ?_
  refine pr [2, 6, 36, 53] ?_
  refine sq ?_
  refine cd ?_ ?_
  · intro h38_1
    have hlt : i < ek.length := by simpa using h38_1
    obtain ⟨x, hxe⟩ : ∃ x, ek[i] = x := ⟨_, rfl⟩
    have hx : ek[i]? = some x := by simp [hlt, hxe]
    have hw := wrap_succ (show i < Flat.lim by omega)
    have hx2 := ih x (List.mem_of_getElem? hx)
    obtain ⟨xo, xc, xv, xk⟩ := x
    refine k_skip ?_
    refine sq ?_
    refine k_block ?_
    refine sq ?_
    refine rg 6000 ?_
    refine pr [2, 6, 36, 53] ?_
    refine sq ?_
    refine dr ?_
    refine de 7000 ?_ (h := by simp [*, E.row_eq]; exact is_rfl _)
    refine dc id ((show Flat.Sp Try.prog 129 [(E.mk xo xc xv xk).av, (E.mk xo xc xv xk).av] [] (vv (.bool true)) [] from hx2)) ?_ (hg := by simp [*, E.row_eq]) (hf := by simp [*, E.row_eq]; exact is_rfl _) (hx := by simp [*, E.row_eq]; exact is_rfl _) (hargs := by simp [*, E.row_eq]) (hB := by simp [*, E.row_eq]) (hL := by simp [*, E.row_eq]) (hd := by simp [*, E.row_eq]; exact is_rfl _)
    refine de 7100 ?_ (h := by simp [*, E.row_eq]; exact is_rfl _)
    refine dn ?_
    refine pr [2, 6, 36, 53] ?_
    refine ce ?_
    refine k_skip ?_
    refine k_nil ?_
    show AK _ _ _ _ _ _
    refine rg 9000 ?_
    refine k_nil ?_
    refine ⟨n - 1, by omega, _, ⟨?_, ?_, ?_⟩, i + 1, by omega, trivial, rfl⟩ <;> simp [*]
  · intro h38_1
    have hge : ek.length ≤ i := by simpa using h38_1
    refine k_exit ?_
    show AK _ _ _ _ _ _
    refine sq ?_
    refine rg 10000 ?_
    refine pr [4, 5] ?_
    refine k_ret ?_
    show retQ _ _ _ _ _ _ _
    simp [*]

theorem spec129 : ∀ e : E, e.good → Flat.Sp Try.prog 129 [e.av, e.av] [] (vv (.bool true)) [] := by
  refine E.ind fun o c v kids ih hg => ?_
  rw [E.good] at hg
  exact spec129_step o c v kids (okE_len hg.1) fun x hx => ih x hx (E.goodL_mem hg.2 x hx)

theorem spec70 (k m : Int) (ex : List E) (cols wth : List Int) (agg rds : Int) (hbe : ex.length ≤ Flat.lim) (hbc : cols.length ≤ Flat.lim) (hbw : wth.length ≤ Flat.lim) (hge : ∀ e ∈ ex, e.good) : Flat.Sp Try.prog 70 [(Pl.mk k m [] ex cols wth agg rds).av, (Pl.mk k m [] ex cols wth agg rds).av] [] (vv (.bool true)) [] := by
  refine sk Try.func70 ?_
  intro F G hn hG
  refine sq ?_
  refine rg 1000 ?_
  refine pr [2, 105] ?_
  refine sq ?_
  refine sq ?_
  refine rc 2000 ?_
  iterate 5 (first | refine gp 2450 ?_ | refine os ?_ | refine gt 2450 ?_)
  refine oe 2500 ?_
  iterate 7 (first | refine gp 3150 ?_ | refine os ?_ | refine gt 3150 ?_)
  refine oe 3200 ?_
  iterate 7 (first | refine gp 3850 ?_ | refine os ?_ | refine gt 3850 ?_)
  refine oe 3900 ?_
  iterate 4 (first | refine gp 4250 ?_ | refine os ?_ | refine gt 4250 ?_)
  refine oc id (spec128 cols hbc) ?_
  first | refine gp 4450 ?_ | refine os ?_ | refine gt 4450 ?_
  refine oe 4500 ?_
  iterate 4 (first | refine gp 4850 ?_ | refine os ?_ | refine gt 4850 ?_)
  refine oc id (spec128 wth hbw) ?_
  first | refine gp 5050 ?_ | refine os ?_ | refine gt 5050 ?_
  refine oe 5100 ?_
  iterate 5 (first | refine gp 5550 ?_ | refine os ?_ | refine gt 5550 ?_)
  refine oe 5600 ?_
  iterate 5 (first | refine gp 6050 ?_ | refine os ?_ | refine gt 6050 ?_)
  refine oe 6100 ?_
  refine on ?_
  refine pr [2, 7, 66, 105] ?_
  refine ce ?_
  refine k_skip ?_
  refine sq ?_
  refine sq ?_
  refine rg 4000 ?_
  refine pr [2, 7, 69, 105] ?_
  refine k_block ?_
  refine k_loop (fun n l => ∃ i, i + n = ex.length ∧ (True) ∧ l = [(.tmp 2, .av (.ptr 1000 0)), (.tmp 3, .av (.ptr 1001 0)), (.tmp 69, .av (vv (.int .i64 ex.length))), (.tmp 70, .av (vv (.int .i64 i))), (.var 1000, .n 8), (.cell 1000 0, .av (vv (.int .u8 k))), (.cell 1000 1, .av (vv (.int .i64 m))), (.cell 1000 2, .av (.p (.ps []))), (.cell 1000 3, .av (.p (.ps (ex.map E.row)))), (.cell 1000 4, .av (.p (.ps (cols.map irow)))), (.cell 1000 5, .av (.p (.ps (wth.map irow)))), (.cell 1000 6, .av (vv (.int .u8 agg))), (.cell 1000 7, .av (vv (.int .i64 rds))), (.var 1001, .n 8), (.cell 1001 0, .av (vv (.int .u8 k))), (.cell 1001 1, .av (vv (.int .i64 m))), (.cell 1001 2, .av (.p (.ps []))), (.cell 1001 3, .av (.p (.ps (ex.map E.row)))), (.cell 1001 4, .av (.p (.ps (cols.map irow)))), (.cell 1001 5, .av (.p (.ps (wth.map irow)))), (.cell 1001 6, .av (vv (.int .u8 agg))), (.cell 1001 7, .av (vv (.int .i64 rds)))]) (ex.length) hG ⟨_, ⟨by simp, by simp, by simp⟩, 0, by simp, trivial, rfl⟩ ?_
  rintro n _ ⟨i, hin, hfa, rfl⟩
  refine sq ?_
  refine rg 5000 ?_
  refine pr [2, 7, 69, 105] ?_
  refine sq ?_
  refine cd ?_ ?_
  · intro h71_1
    have hlt : i < ex.length := by simpa using h71_1
    obtain ⟨x, hxe⟩ : ∃ x, ex[i] = x := ⟨_, rfl⟩
    have hx : ex[i]? = some x := by simp [hlt, hxe]
    have hw := wrap_succ (show i < Flat.lim by omega)
    have hx2 := spec129 x (hge x (List.mem_of_getElem? hx))
    obtain ⟨xo, xc, xv, xk⟩ := x
    refine k_skip ?_
    refine sq ?_
    refine k_block ?_
    refine sq ?_
    refine rg 6000 ?_
    refine pr [2, 7, 69, 105] ?_
    refine sq ?_
    refine dr ?_
    refine de 7000 ?_ (h := by simp [*, E.row_eq]; exact is_rfl _)
    refine dc id ((show Flat.Sp Try.prog 129 [(E.mk xo xc xv xk).av, (E.mk xo xc xv xk).av] [] (vv (.bool true)) [] from hx2)) ?_ (hg := by simp [*, E.row_eq]) (hf := by simp [*, E.row_eq]; exact is_rfl _) (hx := by simp [*, E.row_eq]; exact is_rfl _) (hargs := by simp [*, E.row_eq]) (hB := by simp [*, E.row_eq]) (hL := by simp [*, E.row_eq]) (hd := by simp [*, E.row_eq]; exact is_rfl _)
    refine de 7100 ?_ (h := by simp [*, E.row_eq]; exact is_rfl _)
    refine dn ?_
    refine pr [2, 7, 69, 105] ?_
    refine ce ?_
    refine k_skip ?_
    refine k_nil ?_
    show AK _ _ _ _ _ _
    refine rg 9000 ?_
    refine k_nil ?_
    refine ⟨n - 1, by omega, _, ⟨?_, ?_, ?_⟩, i + 1, by omega, trivial, rfl⟩ <;> simp [*]
  · intro h71_1
    have hge : ex.length ≤ i := by simpa using h71_1
    refine k_exit ?_
    show AK _ _ _ _ _ _
    refine sq ?_
    refine sq ?_
    refine rg 10000 ?_
    refine pr [2, 5, 6, 7, 88, 105] ?_
    refine k_block ?_
    refine k_rounds 1 ?_
    show AK _ _ _ _ _ _
    refine sq ?_
    refine rg 11000 ?_
    refine pr [2, 5, 6, 7, 88, 105] ?_
    refine sq ?_
    refine ce ?_
    refine k_exit ?_
    show AK _ _ _ _ _ _
    refine sq ?_
    refine rg 16000 ?_
    refine pr [4, 5] ?_
    refine k_ret ?_
    show retQ _ _ _ _ _ _ _
    simp [*]

/-- A node's plan has no Kids, and right expressions. -/
def Nd.xg (x : Nd) : Prop := match x with
  | ⟨_, .mk _ _ pq pe _ _ _ _, _, _, _, _, _⟩ => pq = [] ∧ ∀ e ∈ pe, e.good

attribute [local simp] Nd.row Pl.row_eq in
set_option maxHeartbeats 1000000 in
theorem spec37 (ns : List Nd) (hnl : ns.length ≤ 200) (hb : ∀ x ∈ ns, x.bnd) (hg : ∀ x ∈ ns, x.xg) : Flat.Sp Try.prog 37 [.p (.ps (ns.map Nd.row)), .p (.ps (ns.map Nd.row))] [] (vv (.bool true)) [] := by
  refine sk Try.func37 ?_
  intro F G hn hG
  refine sq ?_
  refine rg 1000 ?_
  refine pr [0, 2, 4, 75] ?_
  refine sq ?_
  refine sq ?_
  refine rg 2000 ?_
  refine pr [0, 2, 4, 8, 12, 75] ?_
  refine ce ?_
  refine k_skip ?_
  refine sq ?_
  refine sq ?_
  refine rg 4000 ?_
  refine pr [1, 2, 4, 8, 13, 75] ?_
  refine k_block ?_
  refine k_loop (fun n l => ∃ i, i + n = ns.length ∧ (True) ∧ l = [(.tmp 1, .av (.p (.ps (ns.map Nd.row)))), (.tmp 13, .av (.p (.ps (ns.map Nd.row)))), (.tmp 14, .av (vv (.int .i64 ns.length))), (.tmp 15, .av (vv (.int .i64 i)))]) (ns.length) hG ⟨_, ⟨by simp, by simp, by simp⟩, 0, by simp, trivial, rfl⟩ ?_
  rintro n _ ⟨i, hin, hfa, rfl⟩
  refine sq ?_
  refine rg 5000 ?_
  refine pr [1, 2, 4, 8, 13, 75] ?_
  refine sq ?_
  refine cd ?_ ?_
  · intro h16_1
    have hlt : i < ns.length := by simpa using h16_1
    obtain ⟨x, hxe⟩ : ∃ x, ns[i] = x := ⟨_, rfl⟩
    have hx : ns[i]? = some x := by simp [hlt, hxe]
    have hw := wrap_succ (show i < Flat.lim by simp only [Flat.lim]; omega)
    have hbx := hb x (List.mem_of_getElem? hx)
    have hgx := hg x (List.mem_of_getElem? hx)
    obtain ⟨xk, ⟨pk, pn, pq, pe, pc, pw, pa, pg⟩, xn, xl, xr, xt, xb⟩ := x
    obtain ⟨b1, b2, b3, b4, b5, b6⟩ := hbx
    obtain ⟨g1, g2⟩ := hgx
    subst g1
    refine k_skip ?_
    refine sq ?_
    refine k_block ?_
    refine sq ?_
    refine rg 6000 ?_
    refine pr [1, 2, 4, 8, 13, 75] ?_
    refine sq ?_
    refine rg 7000 ?_
    refine pr [1, 2, 4, 8, 13, 75] ?_
    refine sq ?_
    refine rc 8000 ?_
    iterate 4 (first | refine gp 8350 ?_ | refine os ?_ | refine gt 8350 ?_)
    refine oc id (spec70 pk pn pe pc pw pa pg (Bnd_lim b2) (Bnd_lim b3) (Bnd_lim b4) g2) ?_
    first | refine gp 8550 ?_ | refine os ?_ | refine gt 8550 ?_
    refine oe 8600 ?_
    iterate 5 (first | refine gp 9050 ?_ | refine os ?_ | refine gt 9050 ?_)
    refine oe 9100 ?_
    iterate 5 (first | refine gp 9550 ?_ | refine os ?_ | refine gt 9550 ?_)
    refine oe 9600 ?_
    iterate 5 (first | refine gp 10050 ?_ | refine os ?_ | refine gt 10050 ?_)
    refine oe 10100 ?_
    iterate 4 (first | refine gp 10450 ?_ | refine os ?_ | refine gt 10450 ?_)
    refine oc id (spec71 xt b5) ?_
    first | refine gp 10650 ?_ | refine os ?_ | refine gt 10650 ?_
    refine oe 10700 ?_
    iterate 4 (first | refine gp 11050 ?_ | refine os ?_ | refine gt 11050 ?_)
    refine oc id (spec71 xb b6) ?_
    first | refine gp 11250 ?_ | refine os ?_ | refine gt 11250 ?_
    refine oe 11300 ?_
    refine on ?_
    refine pr [1, 2, 4, 8, 13, 75] ?_
    refine ce ?_
    refine k_skip ?_
    refine k_nil ?_
    show AK _ _ _ _ _ _
    refine rg 10000 ?_
    refine k_nil ?_
    refine ⟨n - 1, by omega, _, ⟨?_, ?_, ?_⟩, i + 1, by omega, trivial, rfl⟩ <;> simp [*]
  · intro h16_1
    have hge : ns.length ≤ i := by simpa using h16_1
    refine k_exit ?_
    show AK _ _ _ _ _ _
    refine sq ?_
    refine rg 11000 ?_
    refine pr [4, 5] ?_
    refine k_ret ?_
    show retQ _ _ _ _ _ _ _
    simp [*]

end Go.Proofs
end
section
set_option linter.unusedVariables false
set_option linter.unusedSimpArgs false
namespace Go.Proofs
open Go.Flat
set_option linter.unusedSimpArgs false
set_option linter.unusedVariables false
def XgP (p : Pl) : Prop := ∀ (to : Prt) (nd : Nat) (s : BR), (∀ x ∈ s.1, x.xg) → ∀ x ∈ (bld p to nd s).1, x.xg
theorem bldL_xg : ∀ (l : List Pl) (j : Bool) (a i nd : Nat) (s : BR), (∀ x ∈ l, XgP x) → (∀ x ∈ s.1, x.xg) → ∀ x ∈ (bldL l j a i nd s).1, x.xg
  | [], j, a, i, nd, s, _, hs => by rw [bldL]; exact hs
  | x :: r, j, a, i, nd, s, ih, hs => by
    rw [bldL]
    exact bldL_xg r j a (i + 1) nd _ (fun y hy => ih y (by simp [hy])) (ih x (by simp) _ nd s hs)
theorem zero_xg (k n lo rd : Int) (t b : List Prt) : Nd.xg ⟨k, .zero, n, lo, rd, t, b⟩ := ⟨rfl, by simp⟩
theorem bld_xg : ∀ p : Pl, p.gd → XgP p := by
  refine Pl.ind fun k m kids ex cols wth agg rds ih hg to nd s hs => ?_
  rw [Pl.gd] at hg
  have ih' : ∀ x ∈ kids, XgP x := fun x hx => ih x hx (Pl.gdL_mem hg.2.2 x hx)
  rw [bld]
  split
  · intro x hx
    rcases List.mem_append.1 hx with hx | hx
    · exact hs x hx
    · simp only [List.mem_singleton] at hx
      subst hx
      exact zero_xg ..
  · split
    · intro x hx
      obtain ⟨i, hi⟩ := List.mem_iff_getElem?.1 hx
      simp only [pushB_at] at hi
      split at hi
      · obtain ⟨y, hy, rfl⟩ := Option.map_eq_some_iff.1 hi
        have := hs y (List.mem_of_getElem? hy)
        obtain ⟨yk, ⟨qk, qn, qq, qe, qc, qw, qa, qg⟩, yn, yl, yr, yt, yb⟩ := y
        exact this
      · exact hs x (List.mem_of_getElem? hi)
    · split
      · have h0 : ∀ x ∈ s.1 ++ [loopN nd rds s.1.length] ++ [leaveN nd rds to], x.xg := by
          intro x hx
          simp only [List.append_assoc, List.mem_append, List.mem_cons, List.not_mem_nil, or_false] at hx
          rcases hx with hx | rfl | rfl
          · exact hs x hx
          · exact zero_xg ..
          · exact zero_xg ..
        cases kids with
        | nil => rw [bldI]; exact h0
        | cons y r =>
          rw [bldI]
          exact bldL_xg r true _ 1 (nd + 1) _ (fun z hz => ih' z (by simp [hz])) (ih' y (by simp) _ nd (_, s.2) h0)
      · refine bldL_xg kids _ _ 0 nd _ ih' ?_
        intro x hx
        simp only at hx
        rcases List.mem_append.1 hx with hx | hx
        · exact hs x hx
        · simp only [List.mem_singleton] at hx
          subst hx
          exact ⟨rfl, fun e he => checkE_good (hg.2.1 e he)⟩
theorem bldG_ok {ss : List (List Int)} {p : Pl} (h : (bldG ss p).2 = 0) : (bldG ss p).1 = (bld p ⟨0, 0⟩ 0 ([outN], [])).1 ∧ (inferP ss p).2 = 0 := by
  have h0 : (inferP ss p).2 = 0 := by
    unfold bldG at h
    split at h
    · exact h
    · rename_i hh; simpa using hh
  refine ⟨?_, h0⟩
  unfold bldG
  rw [if_neg (by rw [h0]; decide)]
theorem built_xg {ss : List (List Int)} {p : Pl} (hs : p.size ≤ 2 ^ 40) (h : (bldG ss p).2 = 0) : ∀ x ∈ (bldG ss p).1, x.xg := by
  obtain ⟨h1, h0⟩ := bldG_ok h
  rw [h1]
  exact bld_xg p (infer_fine hs h0).1.1 _ _ _ (by intro x hx; simp only [List.mem_singleton] at hx; subst hx; exact zero_xg ..)
theorem again {ss tt : List (List Int)} {p : Pl} (h : (bldG ss p).2 = 0) (k : (bldG tt p).2 = 0) : (bldG tt p).1 = (bldG ss p).1 := by
  rw [(bldG_ok h).1, (bldG_ok k).1]
end Go.Proofs
end
section
set_option linter.unusedVariables false
set_option linter.unusedSimpArgs false
namespace Go.Proofs
open Go.Flat
set_option maxRecDepth 100000
set_option linter.unusedSimpArgs false
set_option linter.unusedVariables false
attribute [local simp] Bool.and_assoc Bool.or_assoc evalG evalX efD skF guardG guardL isCall stepL evalOp ev evs lk tmpsL app AV.ok fresh vv putCells insV ins del putL place Go.Flat.look fillC fillR getCells loadF storeF binF scalarBin intBin strBin isShift shiftBin unF lenF maxF minF rowsF appendF builtinF idxF natOf sliceP sliceF optEv Flat.cut overwrite toPV toPVs constAV scalarC scalarCs AV.cells TI.isAgg allSome andAll scalarEq buildable Go.Flat.lim retQ resL resAll resOne PartOf noTmp closedIn refs refs.refsL isSomeV hasB ids leA leA.leL renA renA.renL callB refsAll backL dropIds renS LiesAt injB ownB freshB memN locId insAll leA_refl leL_refl okS frzS frzA frzA.frzL evalD feet fine updCells cellsFrom memP footRf footWf noTmpU updIds opOps opIds idsA footR footW guardTs opTs dstTs callR callW renLoc renC inBlockQ thenQ Value.oneCell' IntKind.bits IntKind.signed PV.up toPH toPHs

attribute [local simp] Pl.av
attribute [local simp] srow in
theorem spec14 (k m : Int) (kids : List Pl) (ex : List E) (cols wth : List Int) (agg rds : Int) (ss : List (List Int)) (tt : List Int) (hss : ss.length ≤ 1048576) (ns1 ns2 : List Nd) (er1 er2 : Int) (h34a : Flat.Sp Try.prog 34 [(Pl.mk k m kids ex cols wth agg rds).av, .p (.ps (ss.map srow))] [] (.tup [.p (.ps (ns1.map Nd.row)), vv (.int .i64 er1)]) []) (h34b : Flat.Sp Try.prog 34 [(Pl.mk k m kids ex cols wth agg rds).av, .p (.ps (ss.map srow ++ [[.ps (tt.map trow)]]))] [] (.tup [.p (.ps (ns2.map Nd.row)), vv (.int .i64 er2)]) []) (hsame : (er1 != 0) = false → (er2 != 0) = false → ns2 = ns1 ∧ ns1.length ≤ 200 ∧ (∀ x ∈ ns1, x.bnd) ∧ (∀ x ∈ ns1, x.xg)) : Flat.Sp Try.prog 14 [(Pl.mk k m kids ex cols wth agg rds).av, .p (.ps (ss.map srow)), .p (.ps (tt.map trow))] [] (vv (.bool true)) [] := by
  refine sk Try.func14 ?_
  intro F G hn hG
  have hl1 : ss.length * 24 ≤ 140737488355328 := by omega
  have hl2 : ss.length ≤ 140737488355328 := by omega
  have hl3 : (ss.length + 1) * 24 ≤ 140737488355328 := by omega
  have hl4 : ss.length + 1 ≤ 140737488355328 := by omega
  refine sq ?_
  refine rg 1000 ?_
  refine pr [1, 4, 6, 41] ?_
  refine sq ?_
  refine sq ?_
  refine rc 2000 ?_
  refine oc id (spec36) ?_
  refine oe 2100 ?_
  refine on ?_
  refine pr [1, 4, 6, 11, 12, 41] ?_
  refine ce ?_
  refine k_skip ?_
  refine sq ?_
  refine rc 4000 ?_
  refine oc id (h34a) ?_
  refine oe 4100 ?_
  refine on ?_
  refine pr [1, 4, 6, 11, 19, 41] ?_
  refine sq ?_
  refine dr ?_
  refine dt 5000 ?_
  refine dt 5001 ?_
  refine dt 5002 ?_
  refine dt 5003 ?_
  refine dt 5004 ?_
  refine dt 5005 ?_
  refine dpub 5006 ?_
  refine dc id h34b ?_
  refine de 5100 ?_
  refine dn ?_
  refine pr [6, 11, 30, 41] ?_
  refine sq ?_
  refine cv [(.tmp 6, vv (.bool true))] ?_ ?_
  · skip
    rcases h0 : ((er1 != 0) : Bool) with _ | _
    · skip
      rcases h1 : ((er2 != 0) : Bool) with _ | _
      · skip
        obtain ⟨e1, e2, e3, e4⟩ := hsame h0 h1
        subst e1
        refine rc 6000 ?_
        iterate 2 (first | refine gp 6150 ?_ | refine os ?_ | refine gt 6150 ?_)
        refine oe 6200 ?_
        iterate 2 (first | refine gp 6350 ?_ | refine os ?_ | refine gt 6350 ?_)
        refine oc id (spec37 ns2 e2 e3 e4) ?_
        refine oe 6500 ?_
        refine on ?_
        refine k_nil ?_
        refine ⟨rfl, ?_, ?_, ?_⟩ <;> simp [*]
      · skip
        refine rc 1006000 ?_
        iterate 2 (first | refine gp 1006150 ?_ | refine os ?_ | refine gt 1006150 ?_)
        refine oe 1006200 ?_
        iterate 2 (first | refine gp 1006350 ?_ | refine os ?_ | refine gt 1006350 ?_)
        refine os ?_
        refine oe 1006500 ?_
        refine on ?_
        refine k_nil ?_
        refine ⟨rfl, ?_, ?_, ?_⟩ <;> simp [*]
    · skip
      refine rc 2006000 ?_
      iterate 2 (first | refine gp 2006150 ?_ | refine os ?_ | refine gt 2006150 ?_)
      refine oe 2006200 ?_
      iterate 2 (first | refine gp 2006350 ?_ | refine os ?_ | refine gt 2006350 ?_)
      refine os ?_
      refine oe 2006500 ?_
      refine on ?_
      refine k_nil ?_
      refine ⟨rfl, ?_, ?_, ?_⟩ <;> simp [*]
  refine pr [6, 7] ?_
  refine k_ret ?_
  show retQ _ _ _ _ _ _ _
  simp [*]

theorem spec14r (k m : Int) (kids : List Pl) (ex : List E) (cols wth : List Int) (agg rds : Int) (hb : (Pl.mk k m kids ex cols wth agg rds).bnd) (hsz : (Pl.mk k m kids ex cols wth agg rds).size ≤ 2 ^ 38) (ss : List (List Int)) (hss : ss.length ≤ 1048576) (tt : List Int) : Flat.Sp Try.prog 14 [(Pl.mk k m kids ex cols wth agg rds).av, .p (.ps (ss.map srow)), .p (.ps (tt.map trow))] [] (vv (.bool true)) [] := by
  have hs : (Pl.mk k m kids ex cols wth agg rds).size ≤ 2 ^ 40 := Nat.le_trans hsz (by decide)
  have h2 := spec34 _ hb hs (ss ++ [tt])
  have e : (ss ++ [tt]).map srow = ss.map srow ++ [[.ps (tt.map trow)]] := by simp [srow]
  rw [e] at h2
  refine spec14 k m kids ex cols wth agg rds ss tt hss _ _ _ _ (spec34 _ hb hs ss) h2 fun h k => ?_
  have h' := by simpa using h
  have k' := by simpa using k
  have hB := built hb hs h'
  exact ⟨again h' k', by have := hB.small; omega, hB.bnd, built_xg hs h'⟩

end Go.Proofs
end
