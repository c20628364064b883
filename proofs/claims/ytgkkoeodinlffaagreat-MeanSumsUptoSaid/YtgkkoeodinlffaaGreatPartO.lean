/-
  Contracts: groups: one of all.
  Contracts: what is told of a group.
  Contracts: what a reduce, a distinct, a concat comes to.
  Contracts: iterate; what a plan comes to of sources.
  Contracts: the first questions of a plan's meaning.
  Collections: sums of counts are one; what is made of each count hangs on the sums.
  Contracts: the greatest rows of all.
  Contracts: the greatest rows of all: for every input.
  Readers of counts.
  Filters, maps and negations of two sources together.
  Contracts: filters, maps, negations of two sources.
-/
import Derived.Test.YtgkkoeodinlffaaGreatPartM
import Derived.Test.YtgkkoeodinlffaaGreatFlatN
import Derived.Test.YtgkkoeodinlffaaGreatPartG
section
namespace Go.Proofs
open Go.Flat
set_option maxRecDepth 100000
set_option linter.unusedVariables false
set_option linter.unusedSimpArgs false
attribute [local simp] Bool.and_assoc Bool.or_assoc evalG evalX efD skF guardG guardL isCall stepL evalOp ev evs lk tmpsL app AV.ok fresh vv putCells insV ins del putL place Go.Flat.look fillC fillR getCells loadF storeF binF scalarBin intBin strBin isShift shiftBin unF lenF maxF minF rowsF appendF builtinF idxF natOf sliceP sliceF optEv Flat.cut overwrite toPV toPVs constAV scalarC scalarCs AV.cells TI.isAgg allSome andAll scalarEq buildable Go.Flat.lim retQ resL resAll resOne PartOf noTmp closedIn refs refs.refsL isSomeV hasB ids leA leA.leL renA renA.renL callB refsAll backL dropIds renS LiesAt injB ownB freshB memN locId insAll leA_refl leL_refl okS frzS frzA frzA.frzL evalD feet fine updCells cellsFrom memP footRf footWf noTmpU updIds opOps opIds idsA footR footW guardTs opTs dstTs callR callW renLoc renC inBlockQ thenQ Value.oneCell' IntKind.bits IntKind.signed PV.up toPH toPHs
section
attribute [local simp] Pl.row_eq Pl.av
attribute [local simp] famOK bigB
attribute [local simp] Ct.row Ct.zero in
theorem zs228 (k m : Int) (kids : List Pl) (ex : List E) (cols wth : List Int) (agg rds : Int) (key : List Val) (cs : List Ct) (hlen : cs.length ≤ Cap) : Flat.Sp Tryz.prog 228 [.agg [vv (.int .u8 k), vv (.int .i64 m), .p (.ps (kids.map Pl.row)), .p (.ps (ex.map E.row)), .p (.ps (cols.map irow)), .p (.ps (wth.map irow)), vv (.int .u8 agg), vv (.int .i64 rds), .p (.ps (key.map Val.row)), .p (.ps (cs.map Ct.row))]] [] (.p (.ps ((thereC cs).map Ct.row))) [] := by
  refine sk Tryz.func228 ?_
  intro F G hn hG
  have hcap : Cap = 1073741824 := rfl
  obtain ⟨T, hT⟩ : ∃ T, thereC cs = T := ⟨_, rfl⟩
  have h275 := spec92k cs hlen
  have h274 := zs274 cs hlen T hT
  have hTl : T.length ≤ cs.length := by rw [← hT]; exact List.length_filter_le ..
  have htT : (T.map Ct.row ++ List.replicate (cs.length - T.length) Ct.zero.row).take T.length = T.map Ct.row := by rw [List.take_append_of_le_length (by simp), List.take_of_length_le (by simp)]
  simp only [Ct.zero, Ct.row] at htT
  have hwl : T.length + (cs.length - T.length) = cs.length := by omega
  refine sq ?_
  refine rg 1000 ?_
  refine pr [1, 7] ?_
  refine sq ?_
  refine rc 2000 ?_
  refine oc (id) (h275) ?_
  refine oc (fun _ => 4002) (h274) ?_
  refine oe 2200 ?_
  refine on ?_
  refine pr [2, 3] ?_
  refine fz 4002 ?_
  refine k_ret ?_
  show retQ _ _ _ _ _ _ _
  simp [*]

theorem zs271 (k m : Int) (kids : List Pl) (ex : List E) (wth : List Int) (agg rds : Int) (rows : PV) : Flat.Sp Tryz.prog 271 [.agg [vv (.int .u8 k), vv (.int .i64 m), .p (.ps (kids.map Pl.row)), .p (.ps (ex.map E.row)), .p (.ps []), .p (.ps (wth.map irow)), vv (.int .u8 agg), vv (.int .i64 rds), .p (.ps []), .any], .p (.ps [])] [] (vv (.int .i64 0)) [] := by
  refine sk Tryz.func271 ?_
  intro F G hn hG
  have h61 : Flat.Sp Tryz.prog 61 [.p (.ps []), .p (.ps [])] [] (vv (.int .i64 0)) [] := spec147 [] [] (by simp [Flat.lim]) (by simp [Flat.lim])
  refine sq ?_
  refine rg 1000 ?_
  refine pr [1, 3, 4, 9] ?_
  refine sq ?_
  refine rc 2000 ?_
  refine oc id (h61) ?_
  refine oe 2100 ?_
  refine on ?_
  refine pr [4, 5] ?_
  refine k_ret ?_
  show retQ _ _ _ _ _ _ _
  simp [*]

theorem zs225_0  : Flat.Sp Tryz.prog 225 [.sl 4294967296 0 0 0, .p (.ps []), .fn (.func 271) []] [(.arr 4294967296, .arr 362 10 [] 0)] (.tup [vv (.int .i64 0), vv (.bool false)]) [(.arr 4294967296, .arr 362 10 [] 0)] := by
  refine sk Tryz.func225 ?_ (hs := by simp)
  intro F G hn hG
  refine sq ?_
  refine rg 1000 ?_
  refine pr [0, 3, 6, 49] ?_
  refine sq ?_
  refine rg 2000 ?_
  refine pr [0, 3, 6, 12, 14, 49] ?_
  refine sq ?_
  refine rg 3000 ?_
  refine pr [0, 3, 6, 12, 15, 49] ?_
  refine sq ?_
  refine k_block ?_
  refine k_rounds 1 ?_
  show AK _ _ _ _ _ _
  refine sq ?_
  refine sq ?_
  refine rg 4000 ?_
  refine pr [0, 3, 6, 12, 15, 49] ?_
  refine ce ?_
  refine k_exit ?_
  show AK _ _ _ _ _ _
  refine sq ?_
  refine rc 9000 ?_
  iterate 6 (first | refine gp 9550 ?_ | refine os ?_ | refine gt 9550 ?_)
  refine os ?_
  first | refine gp 9750 ?_ | refine os ?_ | refine gt 9750 ?_
  refine oe 9800 ?_
  refine on ?_
  refine pr [6, 8] ?_
  refine k_ret ?_
  show retQ _ _ _ _ _ _ _
  simp [*]

theorem zs225_1 (k m : Int) (kids : List Pl) (ex : List E) (wth : List Int) (agg rds : Int) (rows : List (List PV)) (n : Nat) (hn : rows.length = n) : Flat.Sp Tryz.prog 225 [.sl 4294967296 1 0 1, .p (.ps []), .fn (.func 271) []] [(.arr 4294967296, .arr 362 10 [[.v (.int .u8 k), .v (.int .i64 m), .ps (kids.map Pl.row), .ps (ex.map E.row), .ps [], .ps (wth.map irow), .v (.int .u8 agg), .v (.int .i64 rds), .ps [], .han 8589934592 n 0 n]] 0), (.arr 8589934592, .arr 71 2 (rows) 0)] (.tup [vv (.int .i64 0), vv (.bool true)]) [(.arr 4294967296, .arr 362 10 [[.v (.int .u8 k), .v (.int .i64 m), .ps (kids.map Pl.row), .ps (ex.map E.row), .ps [], .ps (wth.map irow), .v (.int .u8 agg), .v (.int .i64 rds), .ps [], .han 8589934592 n 0 n]] 0), (.arr 8589934592, .arr 71 2 (rows) 0)] := by
  refine sk Tryz.func225 ?_ (hs := by simp)
  intro F G hn hG
  refine sq ?_
  refine rg 1000 ?_
  refine pr [0, 3, 6, 49] ?_
  refine sq ?_
  refine rg 2000 ?_
  refine pr [0, 3, 6, 12, 14, 49] ?_
  refine sq ?_
  refine rg 3000 ?_
  refine pr [0, 3, 6, 12, 15, 49] ?_
  refine sq ?_
  refine k_block ?_
  refine k_rounds 2 ?_
  show AK _ _ _ _ _ _
  refine sq ?_
  refine sq ?_
  refine rg 4000 ?_
  refine pr [0, 3, 6, 12, 15, 49] ?_
  refine ct ?_
  refine k_skip ?_
  refine k_block ?_
  refine sq ?_
  refine rg 5000 ?_
  refine pr [0, 3, 6, 12, 15, 49] ?_
  refine sq ?_
  refine rc 6000 ?_
  refine oc id (zs271 k m kids ex wth agg rds .pz) ?_
  refine oe 6100 ?_
  refine on ?_
  refine pr [0, 3, 6, 12, 15, 49] ?_
  refine ce ?_
  refine rg 8000 ?_
  refine k_nil ?_
  show AK _ _ _ _ _ _
  refine k_nil ?_
  show AK _ _ _ _ _ _
  refine sq ?_
  refine sq ?_
  refine rg 1004000 ?_
  refine pr [0, 3, 6, 12, 15, 49] ?_
  refine ce ?_
  refine k_exit ?_
  show AK _ _ _ _ _ _
  refine sq ?_
  refine rc 9000 ?_
  iterate 6 (first | refine gp 9550 ?_ | refine os ?_ | refine gt 9550 ?_)
  refine oc id (zs271 k m kids ex wth agg rds .pz) ?_
  first | refine gp 9750 ?_ | refine os ?_ | refine gt 9750 ?_
  refine oe 9800 ?_
  refine on ?_
  refine pr [6, 8] ?_
  refine k_ret ?_
  show retQ _ _ _ _ _ _ _
  simp [*]

theorem zs272 (k m : Int) (kids : List Pl) (ex : List E) (wth : List Int) (agg rds : Int) : Flat.Sp Tryz.prog 272 [.sl 4294967296 0 0 0, vv (.int .i64 0), .psf [[.v (.int .u8 k), .v (.int .i64 m), .ps (kids.map Pl.row), .ps (ex.map E.row), .ps [], .ps (wth.map irow), .v (.int .u8 agg), .v (.int .i64 rds), .ps [], .pz]]] [(.arr 4294967296, .arr 362 10 [] 0)] (.sl 4294967296 1 0 1) [(.arr 4294967296, .arr 362 10 [[.v (.int .u8 k), .v (.int .i64 m), .ps (kids.map Pl.row), .ps (ex.map E.row), .ps [], .ps (wth.map irow), .v (.int .u8 agg), .v (.int .i64 rds), .ps [], .pz]] 0)] := by
  refine sk Tryz.func272 ?_ (hs := by simp)
  intro F G hn hG
  refine sq ?_
  refine rg 1000 ?_
  refine pr [0, 3, 6, 12, 13, 45, 46, 54, 55, 77, 78, 82, 83, 88, 89, 93, 94, 95] ?_
  refine sq ?_
  refine rg 2000 ?_
  refine pr [0, 3, 6, 10, 13, 45, 46, 54, 55, 77, 78, 82, 83, 88, 89, 93, 94, 95] ?_
  refine sq ?_
  refine rg 3000 ?_
  refine pr [0, 3, 6, 10, 15, 45, 46, 54, 55, 77, 78, 82, 83, 88, 89, 93, 94, 95] ?_
  refine sq ?_
  refine sq ?_
  refine rg 4000 ?_
  refine pr [0, 3, 6, 10, 16, 45, 46, 54, 55, 77, 78, 82, 83, 88, 89, 93, 94, 95] ?_
  refine ce ?_
  refine k_skip ?_
  refine sq ?_
  refine rg 6000 ?_
  refine pr [0, 3, 6, 10, 20, 45, 46, 54, 55, 77, 78, 82, 83, 88, 89, 93, 94, 95] ?_
  refine sq ?_
  refine sq ?_
  refine rg 7000 ?_
  refine pr [0, 3, 6, 10, 22, 45, 46, 54, 55, 77, 78, 82, 83, 88, 89, 93, 94, 95] ?_
  refine ct ?_
  refine sq ?_
  refine rg 8000 ?_
  refine pr [0, 3, 6, 10, 26, 45, 46, 54, 55, 77, 78, 82, 83, 88, 89, 93, 94, 95] ?_
  refine k_ret ?_
  show retQ _ _ _ _ _ _ _
  simp [*]

theorem colsR_nil {row : List Val} (h : checkRow row = 0) : colsR row [] = ([], 0) := by unfold colsR; rw [h]; rfl
theorem frz_group {t : Sto} {k m : Int} {kids : List Pl} {ex : List E} {wth : List Int} {agg rds : Int} {n : Nat} {rows : List (List PV)} (hn : rows.length = n) (ht : t (.arr 8589934592) = some (.arr 71 2 rows 0)) : FrzRows t [[.v (.int .u8 k), .v (.int .i64 m), .ps (kids.map Pl.row), .ps (ex.map E.row), .ps [], .ps (wth.map irow), .v (.int .u8 agg), .v (.int .i64 rds), .ps [], .han 8589934592 n 0 n]] [[.v (.int .u8 k), .v (.int .i64 m), .ps (kids.map Pl.row), .ps (ex.map E.row), .ps [], .ps (wth.map irow), .v (.int .u8 agg), .v (.int .i64 rds), .ps [], .ps (rows)]] := by
  refine ⟨rfl, fun i r s hr hs => ?_⟩
  match i, hr, hs with
  | 0, hr, hs =>
    simp only [List.getElem?_cons_zero, Option.some.injEq] at hr hs
    subst hr hs
    refine ⟨rfl, fun j x y hx hy => ?_⟩
    have same : ∀ z : PV, (∀ k L o n, z ≠ .han k L o n) → FrzE t z z := fun z hz => .inl ⟨hz, rfl⟩
    match j, hx, hy with
    | 0, hy, hz | 1, hy, hz | 2, hy, hz | 3, hy, hz | 4, hy, hz | 5, hy, hz | 6, hy, hz | 7, hy, hz | 8, hy, hz =>
      simp only [List.getElem?_cons_zero, List.getElem?_cons_succ, Option.some.injEq] at hy hz
      subst hy hz
      exact same _ (by simp)
    | 9, hy, hz =>
      simp only [List.getElem?_cons_zero, List.getElem?_cons_succ, Option.some.injEq] at hy hz
      subst hy hz
      exact .inr ⟨_, n, 71, 2, rows, 0, rfl, by decide, ht, hn.symm, rfl⟩
    | j + 10, hy, hz => simp at hy
  | i + 1, hr, hs => simp at hr

attribute [local simp] Ct.row Pl.av in
set_option maxHeartbeats 4000000 in
theorem zs223 (k m : Int) (kids : List Pl) (ex : List E) (wth : List Int) (agg rds : Int) (cs : List Ct) (hlen : cs.length ≤ Cap) (hcol : ∀ x ∈ cs, Flat.Sp Tryz.prog 173 [.p (.ps (x.r.map Val.row)), .p (.ps [])] [] (.tup [.p (.ps []), vv (.int .i64 0)]) []) (r : List (List PV)) (h0 : cs = [] → r = []) (h1 : cs ≠ [] → r = [[.v (.int .u8 k), .v (.int .i64 m), .ps (kids.map Pl.row), .ps (ex.map E.row), .ps [], .ps (wth.map irow), .v (.int .u8 agg), .v (.int .i64 rds), .ps [], .ps (cs.map Ct.row)]]) : Flat.Sp Tryz.prog 223 [(Pl.mk k m kids ex [] wth agg rds).av, .p (.ps (cs.map Ct.row))] [] (.p (.ps r)) [] := by
  refine sk Tryz.func223 ?_
  intro F G hn hG
  have hcap : Cap = 1073741824 := rfl
  have hlim : cs.length ≤ Flat.lim := by simp only [Flat.lim]; omega
  refine sq ?_
  refine rg 1000 ?_
  refine pr [1, 3, 4, 6, 7, 9, 10, 55] ?_
  refine sq ?_
  refine rg 2000 ?_
  refine pr [1, 3, 4, 6, 7, 9, 10, 55] ?_
  refine sq ?_
  refine sq ?_
  refine rg 3000 ?_
  refine pr [2, 3, 4, 6, 7, 9, 10, 55] ?_
  refine k_block ?_
  refine ow (.tmp 5) 4294967296 362 10 ?_
  refine k_loop (fun n l => (n = cs.length ∧ l = [(.tmp 2, .av (.ptr 1000 0)), (.tmp 5, .av (.sl 4294967296 0 0 0)), (.tmp 12, .av (.p (.ps (cs.map Ct.row)))), (.tmp 13, .av (vv (.int .i64 cs.length))), (.tmp 14, .av (vv (.int .i64 0))), (.arr 4294967296, .arr 362 10 [] 0), (.var 1000, .n 8), (.cell 1000 0, .av (vv (.int .u8 k))), (.cell 1000 1, .av (vv (.int .i64 m))), (.cell 1000 2, .av (.p (.ps (kids.map Pl.row)))), (.cell 1000 3, .av (.p (.ps (ex.map E.row)))), (.cell 1000 4, .av (.p (.ps []))), (.cell 1000 5, .av (.p (.ps (wth.map irow)))), (.cell 1000 6, .av (vv (.int .u8 agg))), (.cell 1000 7, .av (vv (.int .i64 rds)))]) ∨ ∃ i, 0 < i ∧ i + n = cs.length ∧ l = [(.tmp 2, .av (.ptr 1000 0)), (.tmp 5, .av (.sl 4294967296 1 0 1)), (.tmp 12, .av (.p (.ps (cs.map Ct.row)))), (.tmp 13, .av (vv (.int .i64 cs.length))), (.tmp 14, .av (vv (.int .i64 i))), (.arr 8589934592, .arr 71 2 (((cs.take i).map Ct.row)) 0), (.arr 4294967296, .arr 362 10 [[.v (.int .u8 k), .v (.int .i64 m), .ps (kids.map Pl.row), .ps (ex.map E.row), .ps [], .ps (wth.map irow), .v (.int .u8 agg), .v (.int .i64 rds), .ps [], .han 8589934592 i 0 i]] 0), (.var 1000, .n 8), (.cell 1000 0, .av (vv (.int .u8 k))), (.cell 1000 1, .av (vv (.int .i64 m))), (.cell 1000 2, .av (.p (.ps (kids.map Pl.row)))), (.cell 1000 3, .av (.p (.ps (ex.map E.row)))), (.cell 1000 4, .av (.p (.ps []))), (.cell 1000 5, .av (.p (.ps (wth.map irow)))), (.cell 1000 6, .av (vv (.int .u8 agg))), (.cell 1000 7, .av (vv (.int .i64 rds)))]) (cs.length) hG ⟨_, ⟨by simp, by simp, by simp⟩, .inl ⟨rfl, rfl⟩⟩ ?_
  rintro n _ (⟨hin, rfl⟩ | ⟨i, hi, hin, rfl⟩)
  · skip
    refine sq ?_
    refine rg 4000 ?_
    refine pr [2, 3, 4, 6, 7, 9, 10, 55] ?_
    refine sq ?_
    refine cd ?_ ?_
    · intro h15_1
      have hlt : 0 < cs.length := by simpa using h15_1
      obtain ⟨x, hxe⟩ : ∃ x, cs[0] = x := ⟨_, rfl⟩
      have hx : cs[0]? = some x := by simp [hlt, hxe]
      have h173 := hcol x (List.mem_of_getElem? hx)
      have hw := wrap_succ (show 0 < Flat.lim by simp [Flat.lim])
      have htk1 := tmap_succ (f := Ct.row) hx
      refine k_skip ?_
      refine sq ?_
      refine k_block ?_
      refine sq ?_
      refine rg 5000 ?_
      refine pr [2, 3, 4, 6, 7, 9, 10, 55] ?_
      refine sq ?_
      refine rc 6000 ?_
      refine oc id (h173) ?_
      refine oe 6100 ?_
      refine on ?_
      refine pr [2, 3, 4, 6, 7, 9, 10, 55] ?_
      refine sq ?_
      refine rc 7000 ?_
      refine oc (id) (zs225_0) ?_
      refine oe 7100 ?_
      refine on ?_
      refine pr [2, 3, 4, 6, 7, 9, 10, 55] ?_
      refine sq ?_
      refine sq ?_
      refine rg 8000 ?_
      refine pr [2, 3, 4, 6, 7, 9, 10, 55] ?_
      refine ct ?_
      refine rs ?_
      refine gt 9000 ?_
      refine gt 9001 ?_
      refine gt 9002 ?_
      refine gt 9003 ?_
      refine gt 9004 ?_
      refine oz 38 9 ?_
      refine oe 9050 ?_
      refine oc id (zs272 k m kids ex wth agg rds) ?_
      refine oe 9100 ?_
      refine on ?_
      refine pr [2, 3, 4, 6, 7, 9, 10, 55] ?_
      refine hz 0 4294967296 0 9 ?_ (e2 := 71) (sz2 := 2) (tbl := []) (hm := is_rfl _)
      refine dr ?_
      refine de 10000 ?_ (h := by simp [*, List.map_take]; exact is_rfl _)
      refine dn ?_
      refine k_nil ?_
      show AK _ _ _ _ _ _
      refine rg 11000 ?_
      refine k_nil ?_
      refine ⟨n - 1, by omega, _, ⟨?_, ?_, ?_⟩, .inr ⟨1, by omega, by omega, rfl⟩⟩ <;> simp [*, Ct.row, famC, fid]
    · intro h15_1
      have hge : cs.length ≤ 0 := by simpa using h15_1
      have hc0 : cs = [] := List.length_eq_zero_iff.1 (by omega)
      have hr0 := h0 hc0
      subst hc0
      refine k_exit ?_
      show AK _ _ _ _ _ _
      refine sq ?_
      refine rg 12000 ?_
      refine pr [4, 5] ?_
      refine fw 4294967296 ([]) (new := [(.tmp 4, .av (.p (.ps ([]))))]) ?_ (hz := ⟨rfl, fun i r s hr hs => by simp at hr⟩) (hn := by simp [FwOK])
      refine k_ret ?_
      show retQ _ _ _ _ _ _ _
      simp [*]
  · skip
    refine sq ?_
    refine rg 4000 ?_
    refine pr [2, 3, 4, 6, 7, 9, 10, 55] ?_
    refine sq ?_
    refine cd ?_ ?_
    · intro h15_2
      have hlt : i < cs.length := by simpa using h15_2
      obtain ⟨x, hxe⟩ : ∃ x, cs[i] = x := ⟨_, rfl⟩
      have hx : cs[i]? = some x := by simp [hlt, hxe]
      have h173 := hcol x (List.mem_of_getElem? hx)
      have hw := wrap_succ (show i < Flat.lim by omega)
      have htk1 := tmap_succ (f := Ct.row) hx
      have hmi : min i cs.length = i := by omega
      have hb1 : (i + 1) * 32 ≤ 140737488355328 := by omega
      have hb2 : i + 1 ≤ 140737488355328 := by omega
      refine k_skip ?_
      refine sq ?_
      refine k_block ?_
      refine sq ?_
      refine rg 5000 ?_
      refine pr [2, 3, 4, 6, 7, 9, 10, 55] ?_
      refine sq ?_
      refine rc 6000 ?_
      refine oc id (h173) ?_
      refine oe 6100 ?_
      refine on ?_
      refine pr [2, 3, 4, 6, 7, 9, 10, 55] ?_
      refine sq ?_
      refine rc 7000 ?_
      refine oc (id) (zs225_1 k m kids ex wth agg rds (((cs.take i).map Ct.row)) i (by simp; omega)) ?_
      refine oe 7100 ?_
      refine on ?_
      refine pr [2, 3, 4, 6, 7, 9, 10, 55] ?_
      refine sq ?_
      refine sq ?_
      refine rg 8000 ?_
      refine pr [2, 3, 4, 6, 7, 9, 10, 55] ?_
      refine ce ?_
      refine k_skip ?_
      refine dr ?_
      refine de 10000 ?_ (h := by simp [*, List.map_take]; exact is_rfl _)
      refine dn ?_
      refine k_nil ?_
      show AK _ _ _ _ _ _
      refine rg 11000 ?_
      refine k_nil ?_
      refine ⟨n - 1, by omega, _, ⟨?_, ?_, ?_⟩, .inr ⟨i + 1, by omega, by omega, rfl⟩⟩ <;> simp [*, Ct.row]
    · intro h15_2
      have hge : cs.length ≤ i := by simpa using h15_2
      obtain rfl : i = cs.length := by omega
      have hr0 := h1 (by intro hc; rw [hc] at hi; simp at hi)
      have htl : cs.take cs.length = cs := List.take_length
      have htl2 : (cs.map Ct.row).take cs.length = cs.map Ct.row := List.take_of_length_le (by simp)
      refine k_exit ?_
      show AK _ _ _ _ _ _
      refine sq ?_
      refine rg 12000 ?_
      refine pr [4, 5] ?_
      refine fw 4294967296 ([[.v (.int .u8 k), .v (.int .i64 m), .ps (kids.map Pl.row), .ps (ex.map E.row), .ps [], .ps (wth.map irow), .v (.int .u8 agg), .v (.int .i64 rds), .ps [], .ps (cs.map Ct.row)]]) (new := [(.tmp 4, .av (.p (.ps ([[.v (.int .u8 k), .v (.int .i64 m), .ps (kids.map Pl.row), .ps (ex.map E.row), .ps [], .ps (wth.map irow), .v (.int .u8 agg), .v (.int .i64 rds), .ps [], .ps (cs.map Ct.row)]]))))]) ?_ (hz := frz_group (by simp) (by simp [htl2])) (hn := by simp [FwOK])
      refine k_ret ?_
      show retQ _ _ _ _ _ _ _
      simp [*]
end
section
attribute [local simp] famOK bigB
/-- Each once. -/
def onceL (cs : List Ct) : List Ct := cs.map fun c => onceC [c.r]
@[simp] theorem onceL_len (cs : List Ct) : (onceL cs).length = cs.length := by simp [onceL]
theorem onceL_snoc {cs : List Ct} {i : Nat} {x : Ct} (h : cs[i]? = some x) : onceL (cs.take (i + 1)) = onceL (cs.take i) ++ [onceC [x.r]] := by
  simp [onceL, List.take_add_one, h]

attribute [local simp] Ct.row Ct.av Pl.av in
theorem zs141_d (m : Int) (kids : List Pl) (ex : List E) (cols wth : List Int) (agg rds : Int) (cs : List Ct) (hlen : cs.length ≤ Cap) (hcs : ∀ c ∈ cs, c.r.length ≤ Bnd) (T : List Ct) (hT : thereC cs = T) : Flat.Sp Tryz.prog 141 [(Pl.mk 9 m kids ex cols wth agg rds).av, .p (.ps []), .p (.ps (cs.map Ct.row))] [] (.tup [.p (.ps ((onceL T).map Ct.row)), vv (.int .i64 0)]) [] := by
  refine sk Tryz.func141 ?_
  intro F G hn hG
  have hcap : Cap = 1073741824 := rfl
  have hTl : T.length ≤ cs.length := by rw [← hT]; exact List.length_filter_le ..
  have hlim : T.length ≤ Flat.lim := by simp only [Flat.lim]; omega
  have hsm : ∀ c ∈ T, c.r.length ≤ Bnd := fun c hc => hcs c (by rw [← hT] at hc; exact (List.mem_filter.1 hc).1)
  have h228 : Flat.Sp Tryz.prog 228 [.agg [vv (.int .u8 0), vv (.int .i64 0), .p (.ps []), .p (.ps []), .p (.ps []), .p (.ps []), vv (.int .u8 0), vv (.int .i64 0), .p (.ps []), .p (.ps (cs.map Ct.row))]] [] (.p (.ps (T.map Ct.row))) [] := by have := zs228 0 0 [] [] [] [] 0 0 [] cs hlen; rw [hT] at this; exact this
  refine sq ?_
  refine rg 1000 ?_
  refine pr [1, 4, 6, 9, 10, 38] ?_
  refine sq ?_
  refine sq ?_
  refine rg 2000 ?_
  refine pr [1, 4, 6, 9, 10, 11, 13, 38] ?_
  refine ct ?_
  refine sq ?_
  refine rg 3000 ?_
  refine pr [1, 4, 6, 9, 10, 11, 14, 38] ?_
  refine sq ?_
  refine sq ?_
  refine rc 4000 ?_
  refine oc id (h228) ?_
  refine oe 4100 ?_
  refine on ?_
  refine pr [1, 4, 6, 9, 10, 11, 16, 38] ?_
  refine k_block ?_
  refine ow (.tmp 8) 900 71 2 ?_
  refine k_loop (fun n l => ∃ i, i + n = T.length ∧ (True) ∧ l = [(.tmp 8, .av (.sl 900 i 0 i)), (.tmp 16, .av (.p (.ps (T.map Ct.row)))), (.tmp 17, .av (vv (.int .i64 T.length))), (.tmp 18, .av (vv (.int .i64 i))), (.arr 900, .arr 71 2 ((onceL (T.take i)).map Ct.row) 0)]) (T.length) hG ⟨_, ⟨by simp [onceL], by simp, by simp⟩, 0, by simp, trivial, rfl⟩ ?_
  rintro n _ ⟨i, hin, hfa, rfl⟩
  refine sq ?_
  refine rg 5000 ?_
  refine pr [1, 4, 6, 9, 10, 11, 16, 38] ?_
  refine sq ?_
  refine cd ?_ ?_
  · intro h19_1
    have hlt : i < T.length := by simpa using h19_1
    obtain ⟨x, hxe⟩ : ∃ x, T[i] = x := ⟨_, rfl⟩
    have hx : T[i]? = some x := by simp [hlt, hxe]
    have hw := wrap_succ (show i < Flat.lim by omega)
    have h227 : Flat.Sp Tryz.prog 227 [.p (.ps [[.ps (x.r.map Val.row)]])] [] ((onceC [x.r]).av) [] := zs227_1 x.r (hsm x (List.mem_of_getElem? hx))
    simp only [Ct.av, Ct.row, onceC, List.map_cons, List.map_nil] at h227
    have hol : (onceL (T.take i)).length = i := by rw [onceL_len, List.length_take]; omega
    have hb1 : (i + 1) * 32 ≤ 140737488355328 := by omega
    have hb2 : i + 1 ≤ 140737488355328 := by omega
    refine k_skip ?_
    refine sq ?_
    refine k_block ?_
    refine sq ?_
    refine rg 6000 ?_
    refine pr [1, 4, 6, 9, 10, 11, 16, 38] ?_
    refine rc 7000 ?_
    refine oc id (h227) ?_
    refine oe 7100 ?_
    refine on ?_
    refine k_nil ?_
    show AK _ _ _ _ _ _
    refine rg 8000 ?_
    refine k_nil ?_
    refine ⟨n - 1, by omega, _, ⟨?_, ?_, ?_⟩, i + 1, by omega, trivial, rfl⟩ <;> simp [*, onceL_snoc hx, Ct.row, onceC]
  · intro h19_1
    have hge : T.length ≤ i := by simpa using h19_1
    obtain rfl : i = T.length := by omega
    have htk2 : T.take T.length = T := List.take_length
    have htk3 : ((onceL T).map Ct.row).take T.length = (onceL T).map Ct.row := List.take_of_length_le (by simp [onceL_len])
    refine fz 900 ?_
    refine k_exit ?_
    show AK _ _ _ _ _ _
    refine sq ?_
    refine rg 9000 ?_
    refine pr [1, 4, 6, 8, 31, 38] ?_
    refine k_ret ?_
    show retQ _ _ _ _ _ _ _
    simp [*]
end
section
attribute [local simp] famOK bigB
attribute [local simp] Ct.row Ct.av Pl.av in
theorem zs141_r (k m : Int) (kids : List Pl) (ex : List E) (wth : List Int) (agg rds : Int) (h9 : (k == 9) = false) (key : List Val) (cs D : List Ct) (e : Int) (h229 : Flat.Sp Tryz.prog 229 [.agg [vv (.int .u8 k), vv (.int .i64 m), .p (.ps (kids.map Pl.row)), .p (.ps (ex.map E.row)), .p (.ps []), .p (.ps (wth.map irow)), vv (.int .u8 agg), vv (.int .i64 rds), .p (.ps (key.map Val.row)), .p (.ps (cs.map Ct.row))]] [] (.tup [.p (.ps (D.map Ct.row)), vv (.int .i64 e)]) []) : Flat.Sp Tryz.prog 141 [(Pl.mk k m kids ex [] wth agg rds).av, .p (.ps (key.map Val.row)), .p (.ps (cs.map Ct.row))] [] (.tup [.p (.ps (D.map Ct.row)), vv (.int .i64 e)]) [] := by
  refine sk Tryz.func141 ?_
  intro F G hn hG
  refine sq ?_
  refine rg 1000 ?_
  refine pr [1, 4, 6, 9, 10, 38] ?_
  refine sq ?_
  refine sq ?_
  refine rg 2000 ?_
  refine pr [1, 4, 6, 9, 10, 11, 13, 38] ?_
  refine ce ?_
  refine k_skip ?_
  refine sq ?_
  refine rc 10000 ?_
  refine oc id (h229) ?_
  refine oe 10100 ?_
  refine on ?_
  refine pr [6, 8] ?_
  refine k_ret ?_
  show retQ _ _ _ _ _ _ _
  simp [*]

attribute [local simp] lrowk Pl.av Ct.row in
theorem zs140_1 (S : List (List Ct)) (k m : Int) (kids : List Pl) (ex : List E) (wth : List Int) (agg rds : Int) (cs D : List Ct) (e : Int) (hD : Sml D) (h223 : Flat.Sp Tryz.prog 223 [(Pl.mk k m kids ex [] wth agg rds).av, .p (.ps (cs.map Ct.row))] [] (.p (.ps [[.v (.int .u8 k), .v (.int .i64 m), .ps (kids.map Pl.row), .ps (ex.map E.row), .ps [], .ps (wth.map irow), .v (.int .u8 agg), .v (.int .i64 rds), .ps [], .ps (cs.map Ct.row)]])) []) (h141 : Flat.Sp Tryz.prog 141 [(Pl.mk k m kids ex [] wth agg rds).av, .p (.ps []), .p (.ps (cs.map Ct.row))] [] (.tup [.p (.ps (D.map Ct.row)), vv (.int .i64 e)]) []) : Flat.Sp Tryz.prog 140 [.ptr 0 0, (Pl.mk k m kids ex [] wth agg rds).av, .p (.ps (cs.map Ct.row))] [(.var 0, .n 3), (.cell 0 0, .av (vv (.int .i64 (0)))), (.cell 0 1, .av (.p (.ps (S.map lrowk)))), (.cell 0 2, .av (.psf []))] (.p (.ps ((mrgR [D]).1.map Ct.row))) [(.var 0, .n 3), (.cell 0 0, .av (vv (.int .i64 (tkW e (mrgR [D]).2)))), (.cell 0 1, .av (.p (.ps (S.map lrowk)))), (.cell 0 2, .av (.psf []))] := by
  refine sk Tryz.func140 ?_
  intro F G hn hG
  have h27 : Flat.Sp Tryz.prog 27 [.p (.ps [[.ps (D.map Ct.row)]])] [] (.tup [.p (.ps ((mrgR [D]).1.map Ct.row)), vv (.int .i64 (mrgR [D]).2)]) [] := zs27_one D hD
  simp only [Pl.av] at h223 h141
  have hDl := hD.1
  have hcap : Cap = 1073741824 := rfl
  have hb1 : D.length * 32 ≤ 140737488355328 := by omega
  have hb2 : D.length ≤ 140737488355328 := by omega
  have htD : (D.map Ct.row).take D.length = D.map Ct.row := List.take_of_length_le (by simp)
  have ht0 : tkW 0 e = e := rfl
  have h138 := zs138_0 0 S D e
  rw [ht0] at h138
  refine sq ?_
  refine rg 1000 ?_
  refine pr [0, 1, 2, 3, 4, 5, 6, 8, 9, 40] ?_
  refine sq ?_
  refine rg 2000 ?_
  refine pr [0, 1, 2, 3, 4, 5, 6, 8, 9, 40] ?_
  refine sq ?_
  refine sq ?_
  refine rc 3000 ?_
  refine oc id (h223) ?_
  refine oe 3100 ?_
  refine on ?_
  refine pr [0, 1, 4, 5, 6, 8, 9, 11, 13, 40] ?_
  refine k_block ?_
  refine k_rounds 2 ?_
  show AK _ _ _ _ _ _
  refine sq ?_
  refine rg 4000 ?_
  refine pr [0, 1, 4, 5, 6, 8, 9, 11, 13, 40] ?_
  refine sq ?_
  refine ct ?_
  refine k_skip ?_
  refine sq ?_
  refine k_block ?_
  refine sq ?_
  refine rg 5000 ?_
  refine pr [0, 1, 4, 5, 6, 8, 9, 11, 13, 40] ?_
  refine sq ?_
  refine rc 6000 ?_
  refine oc id (h141) ?_
  refine oe 6100 ?_
  refine oc (id) (h138) ?_
  refine oe 6200 ?_
  refine on ?_
  refine pr [0, 1, 4, 5, 6, 8, 9, 11, 13, 40] ?_
  refine rg 7000 ?_
  refine k_nil ?_
  show AK _ _ _ _ _ _
  refine rg 8000 ?_
  refine k_nil ?_
  show AK _ _ _ _ _ _
  refine sq ?_
  refine rg 1004000 ?_
  refine pr [0, 1, 4, 5, 6, 8, 9, 11, 13, 40] ?_
  refine sq ?_
  refine ce ?_
  refine k_exit ?_
  show AK _ _ _ _ _ _
  refine sq ?_
  refine fz 7002 ?_
  refine rc 9000 ?_
  refine oc id (h27) ?_
  refine oe 9100 ?_
  refine oc (id) (zs138_0 e S (mrgR [D]).1 (mrgR [D]).2) ?_
  refine oe 9200 ?_
  refine on ?_
  refine pr [6, 7] ?_
  refine k_ret ?_
  show retQ _ _ _ _ _ _ _
  simp [*]

attribute [local simp] Pl.row_eq Pl.av
attribute [local simp] lrowk in
theorem zs64_red (S : List (List Ct)) (m : Int) (ex : List E) (wth : List Int) (agg rds : Int) (xk xn : Int) (xq : List Pl) (xe : List E) (xc xw : List Int) (xa xr : Int) (a b : List Ct) (e : Int) (hx : Flat.Sp Tryz.prog 64 [.ptr 0 0, (Pl.mk xk xn xq xe xc xw xa xr).av] [(.var 0, .n 3), (.cell 0 0, .av (vv (.int .i64 (0)))), (.cell 0 1, .av (.p (.ps (S.map lrowk)))), (.cell 0 2, .av (.psf []))] (.p (.ps (a.map Ct.row))) [(.var 0, .n 3), (.cell 0 0, .av (vv (.int .i64 (0)))), (.cell 0 1, .av (.p (.ps (S.map lrowk)))), (.cell 0 2, .av (.psf []))]) (h140 : Flat.Sp Tryz.prog 140 [.ptr 0 0, (Pl.mk 8 m [(Pl.mk xk xn xq xe xc xw xa xr)] ex [] wth agg rds).av, .p (.ps (a.map Ct.row))] [(.var 0, .n 3), (.cell 0 0, .av (vv (.int .i64 (0)))), (.cell 0 1, .av (.p (.ps (S.map lrowk)))), (.cell 0 2, .av (.psf []))] (.p (.ps (b.map Ct.row))) [(.var 0, .n 3), (.cell 0 0, .av (vv (.int .i64 (e)))), (.cell 0 1, .av (.p (.ps (S.map lrowk)))), (.cell 0 2, .av (.psf []))]) : Flat.Sp Tryz.prog 64 [.ptr 0 0, (Pl.mk 8 m [(Pl.mk xk xn xq xe xc xw xa xr)] ex [] wth agg rds).av] [(.var 0, .n 3), (.cell 0 0, .av (vv (.int .i64 (0)))), (.cell 0 1, .av (.p (.ps (S.map lrowk)))), (.cell 0 2, .av (.psf []))] (.p (.ps (b.map Ct.row))) [(.var 0, .n 3), (.cell 0 0, .av (vv (.int .i64 (e)))), (.cell 0 1, .av (.p (.ps (S.map lrowk)))), (.cell 0 2, .av (.psf []))] := by
  refine sk Tryz.func64 ?_
  intro F G hn hG
  simp only [Pl.av] at h140
  refine sq ?_
  refine rg 1000 ?_
  refine pr [0, 1, 3, 112] ?_
  refine sq ?_
  refine sq ?_
  refine rg 2000 ?_
  refine pr [0, 1, 3, 8, 9, 112] ?_
  refine k_block ?_
  refine sq ?_
  refine rg 3000 ?_
  refine pr [0, 1, 3, 8, 9, 11, 12, 112] ?_
  refine ce ?_
  refine sq ?_
  refine rg 5000 ?_
  refine pr [0, 1, 3, 8, 9, 10, 20, 21, 22, 112] ?_
  refine ce ?_
  refine sq ?_
  refine rg 7000 ?_
  refine pr [0, 1, 3, 8, 37, 38, 39, 112] ?_
  refine ce ?_
  refine k_skip ?_
  refine k_nil ?_
  show AK _ _ _ _ _ _
  refine sq ?_
  refine rg 9000 ?_
  refine pr [0, 1, 3, 8, 46, 112] ?_
  refine sq ?_
  refine sq ?_
  refine rg 10000 ?_
  refine pr [0, 1, 3, 8, 47, 112] ?_
  refine k_block ?_
  refine k_rounds 2 ?_
  show AK _ _ _ _ _ _
  refine sq ?_
  refine rg 11000 ?_
  refine pr [0, 1, 3, 8, 47, 112] ?_
  refine sq ?_
  refine ct ?_
  refine k_skip ?_
  refine sq ?_
  refine k_block ?_
  refine sq ?_
  refine rg 12000 ?_
  refine pr [0, 1, 3, 8, 47, 112] ?_
  refine rc 13000 ?_
  refine oc (id) (hx) ?_
  refine oe 13100 ?_
  refine on ?_
  refine k_nil ?_
  show AK _ _ _ _ _ _
  refine rg 14000 ?_
  refine k_nil ?_
  show AK _ _ _ _ _ _
  refine sq ?_
  refine rg 1011000 ?_
  refine pr [0, 1, 3, 8, 47, 112] ?_
  refine sq ?_
  refine ce ?_
  refine k_exit ?_
  show AK _ _ _ _ _ _
  refine sq ?_
  refine sq ?_
  refine rg 15000 ?_
  refine pr [0, 1, 3, 6, 65, 112] ?_
  refine ce ?_
  refine k_skip ?_
  refine sq ?_
  refine sq ?_
  refine rg 17000 ?_
  refine pr [0, 1, 3, 6, 67, 112] ?_
  refine k_block ?_
  refine sq ?_
  refine rg 18000 ?_
  refine pr [0, 1, 3, 6, 67, 69, 70, 112] ?_
  refine ce ?_
  refine sq ?_
  refine rg 20000 ?_
  refine pr [0, 1, 3, 6, 67, 68, 76, 77, 78, 112] ?_
  refine ce ?_
  refine sq ?_
  refine rg 22000 ?_
  refine pr [0, 1, 3, 6, 67, 68, 87, 88, 89, 112] ?_
  refine ct ?_
  refine sq ?_
  refine dr ?_
  refine de 23000 ?_
  refine dc (id) (h140) ?_
  refine de 23100 ?_
  refine dn ?_
  refine pr [0, 1, 3, 6, 106, 112] ?_
  refine k_ret ?_
  show retQ _ _ _ _ _ _ _
  simp [*]

attribute [local simp] lrowk tkW in
theorem zs64_dis (S : List (List Ct)) (m : Int) (ex : List E) (cols wth : List Int) (agg rds : Int) (xk xn : Int) (xq : List Pl) (xe : List E) (xc xw : List Int) (xa xr : Int) (a T : List Ct) (hx : Flat.Sp Tryz.prog 64 [.ptr 0 0, (Pl.mk xk xn xq xe xc xw xa xr).av] [(.var 0, .n 3), (.cell 0 0, .av (vv (.int .i64 (0)))), (.cell 0 1, .av (.p (.ps (S.map lrowk)))), (.cell 0 2, .av (.psf []))] (.p (.ps (a.map Ct.row))) [(.var 0, .n 3), (.cell 0 0, .av (vv (.int .i64 (0)))), (.cell 0 1, .av (.p (.ps (S.map lrowk)))), (.cell 0 2, .av (.psf []))]) (h141 : Flat.Sp Tryz.prog 141 [(Pl.mk 9 m [(Pl.mk xk xn xq xe xc xw xa xr)] ex cols wth agg rds).av, .p (.ps []), .p (.ps (a.map Ct.row))] [] (.tup [.p (.ps (T.map Ct.row)), vv (.int .i64 0)]) []) : Flat.Sp Tryz.prog 64 [.ptr 0 0, (Pl.mk 9 m [(Pl.mk xk xn xq xe xc xw xa xr)] ex cols wth agg rds).av] [(.var 0, .n 3), (.cell 0 0, .av (vv (.int .i64 (0)))), (.cell 0 1, .av (.p (.ps (S.map lrowk)))), (.cell 0 2, .av (.psf []))] (.p (.ps (T.map Ct.row))) [(.var 0, .n 3), (.cell 0 0, .av (vv (.int .i64 (0)))), (.cell 0 1, .av (.p (.ps (S.map lrowk)))), (.cell 0 2, .av (.psf []))] := by
  refine sk Tryz.func64 ?_
  intro F G hn hG
  simp only [Pl.av] at h141
  refine sq ?_
  refine rg 1000 ?_
  refine pr [0, 1, 3, 112] ?_
  refine sq ?_
  refine sq ?_
  refine rg 2000 ?_
  refine pr [0, 1, 3, 8, 9, 112] ?_
  refine k_block ?_
  refine sq ?_
  refine rg 3000 ?_
  refine pr [0, 1, 3, 8, 9, 11, 12, 112] ?_
  refine ce ?_
  refine sq ?_
  refine rg 5000 ?_
  refine pr [0, 1, 3, 8, 9, 10, 20, 21, 22, 112] ?_
  refine ce ?_
  refine sq ?_
  refine rg 7000 ?_
  refine pr [0, 1, 3, 8, 37, 38, 39, 112] ?_
  refine ce ?_
  refine k_skip ?_
  refine k_nil ?_
  show AK _ _ _ _ _ _
  refine sq ?_
  refine rg 9000 ?_
  refine pr [0, 1, 3, 8, 46, 112] ?_
  refine sq ?_
  refine sq ?_
  refine rg 10000 ?_
  refine pr [0, 1, 3, 8, 47, 112] ?_
  refine k_block ?_
  refine k_rounds 2 ?_
  show AK _ _ _ _ _ _
  refine sq ?_
  refine rg 11000 ?_
  refine pr [0, 1, 3, 8, 47, 112] ?_
  refine sq ?_
  refine ct ?_
  refine k_skip ?_
  refine sq ?_
  refine k_block ?_
  refine sq ?_
  refine rg 12000 ?_
  refine pr [0, 1, 3, 8, 47, 112] ?_
  refine rc 13000 ?_
  refine oc (id) (hx) ?_
  refine oe 13100 ?_
  refine on ?_
  refine k_nil ?_
  show AK _ _ _ _ _ _
  refine rg 14000 ?_
  refine k_nil ?_
  show AK _ _ _ _ _ _
  refine sq ?_
  refine rg 1011000 ?_
  refine pr [0, 1, 3, 8, 47, 112] ?_
  refine sq ?_
  refine ce ?_
  refine k_exit ?_
  show AK _ _ _ _ _ _
  refine sq ?_
  refine sq ?_
  refine rg 15000 ?_
  refine pr [0, 1, 3, 6, 65, 112] ?_
  refine ce ?_
  refine k_skip ?_
  refine sq ?_
  refine sq ?_
  refine rg 17000 ?_
  refine pr [0, 1, 3, 6, 67, 112] ?_
  refine k_block ?_
  refine sq ?_
  refine rg 18000 ?_
  refine pr [0, 1, 3, 6, 67, 69, 70, 112] ?_
  refine ce ?_
  refine sq ?_
  refine rg 20000 ?_
  refine pr [0, 1, 3, 6, 67, 68, 76, 77, 78, 112] ?_
  refine ce ?_
  refine sq ?_
  refine rg 22000 ?_
  refine pr [0, 1, 3, 6, 67, 68, 87, 88, 89, 112] ?_
  refine ce ?_
  refine sq ?_
  refine rg 24000 ?_
  refine pr [0, 1, 3, 6, 95, 96, 97, 112] ?_
  refine ct ?_
  refine sq ?_
  refine dr ?_
  refine de 25000 ?_
  refine dc id (h141) ?_
  refine de 25100 ?_
  refine dc (id) (zs138_0 0 S T 0) ?_
  refine de 25200 ?_
  refine dn ?_
  refine pr [0, 1, 3, 6, 106, 112] ?_
  refine k_ret ?_
  show retQ _ _ _ _ _ _ _
  simp [*]

attribute [local simp] lrowk tkW in
theorem zs64_cat (S : List (List Ct)) (m : Int) (ex : List E) (cols wth : List Int) (agg rds : Int) (xk xn : Int) (xq : List Pl) (xe : List E) (xc xw : List Int) (xa xr : Int) (yk yn : Int) (yq : List Pl) (ye : List E) (yc yw : List Int) (ya yr : Int) (a b : List Ct) (ha : Sml a) (hb : Sml b) (hx : Flat.Sp Tryz.prog 64 [.ptr 0 0, (Pl.mk xk xn xq xe xc xw xa xr).av] [(.var 0, .n 3), (.cell 0 0, .av (vv (.int .i64 (0)))), (.cell 0 1, .av (.p (.ps (S.map lrowk)))), (.cell 0 2, .av (.psf []))] (.p (.ps (a.map Ct.row))) [(.var 0, .n 3), (.cell 0 0, .av (vv (.int .i64 (0)))), (.cell 0 1, .av (.p (.ps (S.map lrowk)))), (.cell 0 2, .av (.psf []))]) (hcc : (catk [a, b]).length ≤ Cap ∧ ∀ c ∈ catk [a, b], c.r.length ≤ Bnd) (hy : Flat.Sp Tryz.prog 64 [.ptr 0 0, (Pl.mk yk yn yq ye yc yw ya yr).av] [(.var 0, .n 3), (.cell 0 0, .av (vv (.int .i64 (0)))), (.cell 0 1, .av (.p (.ps (S.map lrowk)))), (.cell 0 2, .av (.psf []))] (.p (.ps (b.map Ct.row))) [(.var 0, .n 3), (.cell 0 0, .av (vv (.int .i64 (0)))), (.cell 0 1, .av (.p (.ps (S.map lrowk)))), (.cell 0 2, .av (.psf []))]) : Flat.Sp Tryz.prog 64 [.ptr 0 0, (Pl.mk 5 m [(Pl.mk xk xn xq xe xc xw xa xr), (Pl.mk yk yn yq ye yc yw ya yr)] ex cols wth agg rds).av] [(.var 0, .n 3), (.cell 0 0, .av (vv (.int .i64 (0)))), (.cell 0 1, .av (.p (.ps (S.map lrowk)))), (.cell 0 2, .av (.psf []))] (.p (.ps ((mrgR [a, b]).1.map Ct.row))) [(.var 0, .n 3), (.cell 0 0, .av (vv (.int .i64 ((mrgR [a, b]).2)))), (.cell 0 1, .av (.p (.ps (S.map lrowk)))), (.cell 0 2, .av (.psf []))] := by
  refine sk Tryz.func64 ?_
  intro F G hn hG
  have hcap : Cap = 1073741824 := rfl
  have hc : (catk [a, b]).length ≤ Cap ∧ ∀ c ∈ catk [a, b], c.r.length ≤ Bnd := hcc
  have h27 : Flat.Sp Tryz.prog 27 [.p (.ps [[.ps (a.map Ct.row)], [.ps (b.map Ct.row)]])] [] (.tup [.p (.ps ((mrgR [a, b]).1.map Ct.row)), vv (.int .i64 (mrgR [a, b]).2)]) [] := zs27 [a, b] (by simp [Cap]) hc.1 hc.2
  refine sq ?_
  refine rg 1000 ?_
  refine pr [0, 1, 3, 112] ?_
  refine sq ?_
  refine sq ?_
  refine rg 2000 ?_
  refine pr [0, 1, 3, 8, 9, 112] ?_
  refine k_block ?_
  refine sq ?_
  refine rg 3000 ?_
  refine pr [0, 1, 3, 8, 9, 11, 12, 112] ?_
  refine ce ?_
  refine sq ?_
  refine rg 5000 ?_
  refine pr [0, 1, 3, 8, 9, 10, 20, 21, 22, 112] ?_
  refine ce ?_
  refine sq ?_
  refine rg 7000 ?_
  refine pr [0, 1, 3, 8, 37, 38, 39, 112] ?_
  refine ce ?_
  refine k_skip ?_
  refine k_nil ?_
  show AK _ _ _ _ _ _
  refine sq ?_
  refine rg 9000 ?_
  refine pr [0, 1, 3, 8, 46, 112] ?_
  refine sq ?_
  refine sq ?_
  refine rg 10000 ?_
  refine pr [0, 1, 3, 8, 47, 112] ?_
  refine k_block ?_
  refine k_rounds 3 ?_
  show AK _ _ _ _ _ _
  refine sq ?_
  refine rg 11000 ?_
  refine pr [0, 1, 3, 8, 47, 112] ?_
  refine sq ?_
  refine ct ?_
  refine k_skip ?_
  refine sq ?_
  refine k_block ?_
  refine sq ?_
  refine rg 12000 ?_
  refine pr [0, 1, 3, 8, 47, 112] ?_
  refine rc 13000 ?_
  refine oc (id) (hx) ?_
  refine oe 13100 ?_
  refine on ?_
  refine k_nil ?_
  show AK _ _ _ _ _ _
  refine rg 14000 ?_
  refine k_nil ?_
  show AK _ _ _ _ _ _
  refine sq ?_
  refine rg 1011000 ?_
  refine pr [0, 1, 3, 8, 47, 112] ?_
  refine sq ?_
  refine ct ?_
  refine k_skip ?_
  refine sq ?_
  refine k_block ?_
  refine sq ?_
  refine rg 1012000 ?_
  refine pr [0, 1, 3, 8, 47, 112] ?_
  refine rc 1013000 ?_
  refine oc (id) (hy) ?_
  refine oe 1013100 ?_
  refine on ?_
  refine k_nil ?_
  show AK _ _ _ _ _ _
  refine rg 1014000 ?_
  refine k_nil ?_
  show AK _ _ _ _ _ _
  refine sq ?_
  refine rg 2011000 ?_
  refine pr [0, 1, 3, 8, 47, 112] ?_
  refine sq ?_
  refine ce ?_
  refine k_exit ?_
  show AK _ _ _ _ _ _
  refine sq ?_
  refine sq ?_
  refine rg 15000 ?_
  refine pr [0, 1, 3, 6, 65, 112] ?_
  refine ce ?_
  refine k_skip ?_
  refine sq ?_
  refine sq ?_
  refine rg 17000 ?_
  refine pr [0, 1, 3, 6, 67, 112] ?_
  refine k_block ?_
  refine sq ?_
  refine rg 18000 ?_
  refine pr [0, 1, 3, 6, 67, 69, 70, 112] ?_
  refine ct ?_
  refine sq ?_
  refine fz 9003 ?_
  refine rc 19000 ?_
  refine oc id (h27) ?_
  refine oe 19100 ?_
  refine oc (id) (zs138_0 0 S (mrgR [a, b]).1 (mrgR [a, b]).2) ?_
  refine oe 19200 ?_
  refine on ?_
  refine pr [0, 1, 3, 6, 106, 112] ?_
  refine k_ret ?_
  show retQ _ _ _ _ _ _ _
  simp [*]
end
section
attribute [local simp] famOK bigB Pl.row_eq Pl.av
attribute [local simp] Ct.av Ct.row in
theorem zs222_ne (a b : Ct) (h : (a.n == b.n) = false) : Flat.Sp Tryz.prog 222 [a.av, b.av] [] (vv (.bool false)) [] := by
  refine sk Tryz.func222 ?_
  intro F G hn hG
  refine sq ?_
  refine rg 1000 ?_
  refine pr [2, 18] ?_
  refine sq ?_
  refine rc 2000 ?_
  iterate 4 (first | refine gp 2350 ?_ | refine os ?_ | refine gt 2350 ?_)
  refine os ?_
  first | refine gp 2550 ?_ | refine os ?_ | refine gt 2550 ?_
  refine oe 2600 ?_
  refine on ?_
  refine pr [4, 5] ?_
  refine k_ret ?_
  show retQ _ _ _ _ _ _ _
  simp [*]

attribute [local simp] Ct.av Ct.row in
theorem zs221_ne (a b : Ct) (r s : List Ct) (hl : s.length = r.length) (hr : r.length ≤ Cap) (h : (a.n == b.n) = false) : Flat.Sp Tryz.prog 221 [.p (.ps (a.row :: r.map Ct.row)), .p (.ps (b.row :: s.map Ct.row)), .fn (.func 222) []] [] (vv (.bool false)) [] := by
  refine sk Tryz.func221 ?_
  intro F G hn hG
  have hcap : Cap = 1073741824 := rfl
  have hpos : (0 : Int) < (r.length : Int) + 1 := by omega
  refine sq ?_
  refine rg 1000 ?_
  refine pr [0, 3, 6, 32] ?_
  refine sq ?_
  refine sq ?_
  refine rg 2000 ?_
  refine pr [0, 3, 6, 10, 14, 32] ?_
  refine ce ?_
  refine k_skip ?_
  refine sq ?_
  refine sq ?_
  refine rg 4000 ?_
  refine pr [1, 3, 6, 10, 15, 32] ?_
  refine k_block ?_
  refine k_rounds 1 ?_
  show AK _ _ _ _ _ _
  refine sq ?_
  refine rg 5000 ?_
  refine pr [1, 3, 6, 10, 15, 32] ?_
  refine sq ?_
  refine ct ?_
  refine k_skip ?_
  refine sq ?_
  refine k_block ?_
  refine sq ?_
  refine rg 6000 ?_
  refine pr [1, 3, 6, 10, 15, 32] ?_
  refine sq ?_
  refine rg 7000 ?_
  refine pr [1, 3, 6, 10, 15, 32] ?_
  refine sq ?_
  refine rc 8000 ?_
  refine oc id (zs222_ne a b h) ?_
  refine oe 8100 ?_
  refine on ?_
  refine pr [1, 3, 6, 10, 15, 32] ?_
  refine ct ?_
  refine sq ?_
  refine rg 9000 ?_
  refine pr [1, 3, 6, 10, 15, 32] ?_
  refine k_ret ?_
  show retQ _ _ _ _ _ _ _
  simp [*]

attribute [local simp] lrowk in
theorem zs138_it (S : List (List Ct)) (x1 : List Ct) : Flat.Sp Tryz.prog 138 [.ptr 0 0, .p (.ps []), vv (.int .i64 12)] [(.var 0, .n 3), (.cell 0 0, .av (vv (.int .i64 0))), (.cell 0 1, .av (.p (.ps (S.map lrowk)))), (.cell 0 2, .av (.sl 9007 1 0 0)), (.arr 9007, .arr 64 1 [lrowk x1] 0)] (.p (.ps [])) [(.var 0, .n 3), (.cell 0 0, .av (vv (.int .i64 12))), (.cell 0 1, .av (.p (.ps (S.map lrowk)))), (.cell 0 2, .av (.sl 9007 1 0 0)), (.arr 9007, .arr 64 1 [lrowk x1] 0)] := by
  refine sk Tryz.func138 ?_
  intro F G hn hG
  refine sq ?_
  refine rg 1000 ?_
  refine pr [0, 3, 6, 17] ?_
  refine sq ?_
  refine sq ?_
  refine rg 2000 ?_
  refine pr [0, 3, 6, 7, 11, 17] ?_
  refine ct ?_
  refine rg 3000 ?_
  refine pr [1, 2, 6, 7, 16, 17] ?_
  refine sq ?_
  refine rg 4000 ?_
  refine pr [6, 7] ?_
  refine k_ret ?_
  show retQ _ _ _ _ _ _ _
  simp [*]

attribute [local simp] lrowk tkW in
theorem zs137 (S : List (List Ct)) (m : Int) (ex : List E) (cols wth : List Int) (agg : Int) (xk xn : Int) (xq : List Pl) (xe : List E) (xc xw : List Int) (xa xr : Int) (yk yn : Int) (yq : List Pl) (ye : List E) (yc yw : List Int) (ya yr : Int) (x0 x1 x2 : List Ct) (hx : Flat.Sp Tryz.prog 64 [.ptr 0 0, (Pl.mk xk xn xq xe xc xw xa xr).av] [(.var 0, .n 3), (.cell 0 0, .av (vv (.int .i64 (0)))), (.cell 0 1, .av (.p (.ps (S.map lrowk)))), (.cell 0 2, .av (.psf []))] (.p (.ps (x0.map Ct.row))) [(.var 0, .n 3), (.cell 0 0, .av (vv (.int .i64 (0)))), (.cell 0 1, .av (.p (.ps (S.map lrowk)))), (.cell 0 2, .av (.psf []))]) (hy1 : Flat.Sp Tryz.prog 64 [.ptr 0 0, (Pl.mk yk yn yq ye yc yw ya yr).av] [(.var 0, .n 3), (.cell 0 0, .av (vv (.int .i64 (0)))), (.cell 0 1, .av (.p (.ps (S.map lrowk)))), (.cell 0 2, .av (.sl 2 1 0 1)), (.arr 2, .arr 64 1 [lrowk x0] 0)] (.p (.ps (x1.map Ct.row))) [(.var 0, .n 3), (.cell 0 0, .av (vv (.int .i64 (0)))), (.cell 0 1, .av (.p (.ps (S.map lrowk)))), (.cell 0 2, .av (.sl 2 1 0 1)), (.arr 2, .arr 64 1 [lrowk x0] 0)]) (hy2 : Flat.Sp Tryz.prog 64 [.ptr 0 0, (Pl.mk yk yn yq ye yc yw ya yr).av] [(.var 0, .n 3), (.cell 0 0, .av (vv (.int .i64 (0)))), (.cell 0 1, .av (.p (.ps (S.map lrowk)))), (.cell 0 2, .av (.sl 2 1 0 1)), (.arr 2, .arr 64 1 [lrowk x1] 0)] (.p (.ps (x2.map Ct.row))) [(.var 0, .n 3), (.cell 0 0, .av (vv (.int .i64 (0)))), (.cell 0 1, .av (.p (.ps (S.map lrowk)))), (.cell 0 2, .av (.sl 2 1 0 1)), (.arr 2, .arr 64 1 [lrowk x1] 0)]) (hq : Flat.Sp Tryz.prog 221 [.p (.ps (x2.map Ct.row)), .p (.ps (x1.map Ct.row)), .fn (.func 222) []] [] (vv (.bool false)) []) : Flat.Sp Tryz.prog 137 [.ptr 0 0, (Pl.mk 10 m [(Pl.mk xk xn xq xe xc xw xa xr), (Pl.mk yk yn yq ye yc yw ya yr)] ex cols wth agg 2).av] [(.var 0, .n 3), (.cell 0 0, .av (vv (.int .i64 (0)))), (.cell 0 1, .av (.p (.ps (S.map lrowk)))), (.cell 0 2, .av (.psf []))] (.p (.ps [])) [(.var 0, .n 3), (.cell 0 0, .av (vv (.int .i64 12))), (.cell 0 1, .av (.p (.ps (S.map lrowk)))), (.cell 0 2, .av (.sl 9007 1 0 0)), (.arr 9007, .arr 64 1 [lrowk x1] 0)] := by
  refine sk Tryz.func137 ?_
  intro F G hn hG
  refine sq ?_
  refine rg 1000 ?_
  refine pr [0, 1, 3, 64] ?_
  refine sq ?_
  refine rc 2000 ?_
  refine oc (id) (hx) ?_
  refine oe 2100 ?_
  refine on ?_
  refine pr [0, 1, 3, 8, 14, 64] ?_
  refine sq ?_
  refine rg 3000 ?_
  refine pr [0, 1, 3, 8, 15, 64] ?_
  refine sq ?_
  refine sq ?_
  refine rg 4000 ?_
  refine pr [0, 1, 3, 8, 16, 64] ?_
  refine k_block ?_
  refine k_rounds 3 ?_
  show AK _ _ _ _ _ _
  refine sq ?_
  refine rg 5000 ?_
  refine pr [0, 1, 3, 8, 16, 64] ?_
  refine sq ?_
  refine ct ?_
  refine k_skip ?_
  refine sq ?_
  refine k_block ?_
  refine sq ?_
  refine sq ?_
  refine rg 6000 ?_
  refine pr [0, 1, 3, 8, 16, 64] ?_
  refine ce ?_
  refine k_skip ?_
  refine sq ?_
  refine rg 8000 ?_
  refine pr [0, 1, 3, 8, 16, 64] ?_
  refine sq ?_
  refine rg 9000 ?_
  refine pr [0, 1, 3, 8, 16, 64] ?_
  refine sq ?_
  refine rc 10000 ?_
  refine oc (fun k => if k = 2 then 9007 else k) (hy1) ?_
  refine oe 10100 ?_
  refine on ?_
  refine pr [0, 1, 3, 8, 16, 64] ?_
  refine dr ?_
  refine de 11000 ?_
  refine dn ?_
  refine k_nil ?_
  show AK _ _ _ _ _ _
  refine rg 12000 ?_
  refine k_nil ?_
  show AK _ _ _ _ _ _
  refine sq ?_
  refine rg 1005000 ?_
  refine pr [0, 1, 3, 8, 16, 64] ?_
  refine sq ?_
  refine ct ?_
  refine k_skip ?_
  refine sq ?_
  refine k_block ?_
  refine sq ?_
  refine sq ?_
  refine rg 1006000 ?_
  refine pr [0, 1, 3, 8, 16, 64] ?_
  refine ce ?_
  refine k_skip ?_
  refine sq ?_
  refine rg 1008000 ?_
  refine pr [0, 1, 3, 8, 16, 64] ?_
  refine sq ?_
  refine rg 1009000 ?_
  refine pr [0, 1, 3, 8, 16, 64] ?_
  refine sq ?_
  refine rc 1010000 ?_
  refine oc (fun k => if k = 2 then 9007 else k) (hy2) ?_
  refine oe 1010100 ?_
  refine on ?_
  refine pr [0, 1, 3, 8, 16, 64] ?_
  refine dr ?_
  refine de 1011000 ?_
  refine dn ?_
  refine k_nil ?_
  show AK _ _ _ _ _ _
  refine rg 1012000 ?_
  refine k_nil ?_
  show AK _ _ _ _ _ _
  refine sq ?_
  refine rg 2005000 ?_
  refine pr [0, 1, 3, 8, 16, 64] ?_
  refine sq ?_
  refine ce ?_
  refine k_exit ?_
  show AK _ _ _ _ _ _
  refine sq ?_
  refine rc 13000 ?_
  refine oc id (hq) ?_
  refine oe 13100 ?_
  refine on ?_
  refine pr [0, 1, 4, 6, 7, 8, 59, 64] ?_
  refine sq ?_
  refine sq ?_
  refine rg 14000 ?_
  refine pr [0, 1, 4, 6, 60, 64] ?_
  refine ct ?_
  refine sq ?_
  refine rc 15000 ?_
  refine oc (id) ((show Flat.Sp Tryz.prog 138 [.ptr 0 0, .p (.ps []), vv (.int .i64 12)] [(.var 0, .n 3), (.cell 0 0, .av (vv (.int .i64 0))), (.cell 0 1, .av (.p (.ps (S.map lrowk)))), (.cell 0 2, .av (.sl 9007 1 0 0)), (.arr 9007, .arr 64 1 [lrowk x1] 0)] (.p (.ps [])) [(.var 0, .n 3), (.cell 0 0, .av (vv (.int .i64 12))), (.cell 0 1, .av (.p (.ps (S.map lrowk)))), (.cell 0 2, .av (.sl 9007 1 0 0)), (.arr 9007, .arr 64 1 [lrowk x1] 0)] from zs138_it S x1)) ?_
  refine oe 15100 ?_
  refine on ?_
  refine pr [4, 6, 63, 64] ?_
  refine k_ret ?_
  show retQ _ _ _ _ _ _ _
  simp [*]

attribute [local simp] lrowk in
theorem zs64_it (S : List (List Ct)) (m : Int) (ex : List E) (cols wth : List Int) (agg : Int) (xk xn : Int) (xq : List Pl) (xe : List E) (xc xw : List Int) (xa xr : Int) (yk yn : Int) (yq : List Pl) (ye : List E) (yc yw : List Int) (ya yr : Int) (x0 x1 x2 : List Ct) (hx : Flat.Sp Tryz.prog 64 [.ptr 0 0, (Pl.mk xk xn xq xe xc xw xa xr).av] [(.var 0, .n 3), (.cell 0 0, .av (vv (.int .i64 (0)))), (.cell 0 1, .av (.p (.ps (S.map lrowk)))), (.cell 0 2, .av (.psf []))] (.p (.ps (x0.map Ct.row))) [(.var 0, .n 3), (.cell 0 0, .av (vv (.int .i64 (0)))), (.cell 0 1, .av (.p (.ps (S.map lrowk)))), (.cell 0 2, .av (.psf []))]) (hy1 : Flat.Sp Tryz.prog 64 [.ptr 0 0, (Pl.mk yk yn yq ye yc yw ya yr).av] [(.var 0, .n 3), (.cell 0 0, .av (vv (.int .i64 (0)))), (.cell 0 1, .av (.p (.ps (S.map lrowk)))), (.cell 0 2, .av (.sl 2 1 0 1)), (.arr 2, .arr 64 1 [lrowk x0] 0)] (.p (.ps (x1.map Ct.row))) [(.var 0, .n 3), (.cell 0 0, .av (vv (.int .i64 (0)))), (.cell 0 1, .av (.p (.ps (S.map lrowk)))), (.cell 0 2, .av (.sl 2 1 0 1)), (.arr 2, .arr 64 1 [lrowk x0] 0)]) (hy2 : Flat.Sp Tryz.prog 64 [.ptr 0 0, (Pl.mk yk yn yq ye yc yw ya yr).av] [(.var 0, .n 3), (.cell 0 0, .av (vv (.int .i64 (0)))), (.cell 0 1, .av (.p (.ps (S.map lrowk)))), (.cell 0 2, .av (.sl 2 1 0 1)), (.arr 2, .arr 64 1 [lrowk x1] 0)] (.p (.ps (x2.map Ct.row))) [(.var 0, .n 3), (.cell 0 0, .av (vv (.int .i64 (0)))), (.cell 0 1, .av (.p (.ps (S.map lrowk)))), (.cell 0 2, .av (.sl 2 1 0 1)), (.arr 2, .arr 64 1 [lrowk x1] 0)]) (hq : Flat.Sp Tryz.prog 221 [.p (.ps (x2.map Ct.row)), .p (.ps (x1.map Ct.row)), .fn (.func 222) []] [] (vv (.bool false)) []) : Flat.Sp Tryz.prog 64 [.ptr 0 0, (Pl.mk 10 m [(Pl.mk xk xn xq xe xc xw xa xr), (Pl.mk yk yn yq ye yc yw ya yr)] ex cols wth agg 2).av] [(.var 0, .n 3), (.cell 0 0, .av (vv (.int .i64 (0)))), (.cell 0 1, .av (.p (.ps (S.map lrowk)))), (.cell 0 2, .av (.psf []))] (.p (.ps [])) [(.var 0, .n 3), (.cell 0 0, .av (vv (.int .i64 12))), (.cell 0 1, .av (.p (.ps (S.map lrowk)))), (.cell 0 2, .av (.sl 9007 1 0 0)), (.arr 9007, .arr 64 1 [lrowk x1] 0)] := by
  refine sk Tryz.func64 ?_
  intro F G hn hG
  have h137 := zs137 S m ex cols wth agg xk xn xq xe xc xw xa xr yk yn yq ye yc yw ya yr x0 x1 x2 hx hy1 hy2 hq
  simp only [Pl.av, lrowk] at h137
  refine sq ?_
  refine rg 1000 ?_
  refine pr [0, 1, 3, 112] ?_
  refine sq ?_
  refine sq ?_
  refine rg 2000 ?_
  refine pr [0, 1, 3, 8, 9, 112] ?_
  refine k_block ?_
  refine sq ?_
  refine rg 3000 ?_
  refine pr [0, 1, 3, 8, 9, 11, 12, 112] ?_
  refine ce ?_
  refine sq ?_
  refine rg 5000 ?_
  refine pr [0, 1, 3, 8, 9, 10, 20, 21, 22, 112] ?_
  refine ce ?_
  refine sq ?_
  refine rg 7000 ?_
  refine pr [0, 1, 3, 8, 37, 38, 39, 112] ?_
  refine ct ?_
  refine sq ?_
  refine rc 8000 ?_
  refine oc (id) (h137) ?_
  refine oe 8100 ?_
  refine on ?_
  refine pr [0, 1, 3, 8, 42, 112] ?_
  refine k_ret ?_
  show retQ _ _ _ _ _ _ _
  simp [*]

attribute [local simp] lrowk in
theorem zs20_s (k m : Int) (kids : List Pl) (ex : List E) (cols wth : List Int) (agg rds : Int) (ss : List (List Int)) (S : List (List Ct)) (tt : List Int) (er hv : Int) (h21 : Flat.Sp Tryz.prog 21 [(Pl.mk k m kids ex cols wth agg rds).av, .p (.ps (ss.map srow))] [] (.tup [.p (.ps (tt.map trow)), vv (.int .i64 er)]) []) (h63 : Flat.Sp Tryz.prog 63 [.p (.ps (S.map lrowk)), .p (.ps (ss.map srow))] [] (vv (.int .i64 hv)) []) (a : List Ct) (e : Int) (ha : Sml a) (r : List Ct × Int) (hr1 : (er != 0) = true → r = ([], er)) (hr2 : (er != 0) = false → (hv != 0) = true → r = ([], hv)) (hr3 : (er != 0) = false → (hv != 0) = false → (e != 0) = true → r = ([], e)) (hr4 : (er != 0) = false → (hv != 0) = false → (e != 0) = false → r = mrgR [a]) (h64 : (er != 0) = false → (hv != 0) = false → Flat.Sp Tryz.prog 64 [.ptr 0 0, (Pl.mk k m kids ex cols wth agg rds).av] [(.var 0, .n 3), (.cell 0 0, .av (vv (.int .i64 (0)))), (.cell 0 1, .av (.p (.ps (S.map lrowk)))), (.cell 0 2, .av (.psf []))] (.p (.ps (a.map Ct.row))) [(.var 0, .n 3), (.cell 0 0, .av (vv (.int .i64 (e)))), (.cell 0 1, .av (.p (.ps (S.map lrowk)))), (.cell 0 2, .av (.psf []))]) : Flat.Sp Tryz.prog 20 [(Pl.mk k m kids ex cols wth agg rds).av, .p (.ps (S.map lrowk)), .p (.ps (ss.map srow))] [] (.tup [.p (.ps (r.1.map Ct.row)), vv (.int .i64 r.2)]) [] := by
  refine sk Tryz.func20 ?_
  intro F G hn hG
  have h27 : Flat.Sp Tryz.prog 27 [.p (.ps [[.ps (a.map Ct.row)]])] [] (.tup [.p (.ps ((mrgR [a]).1.map Ct.row)), vv (.int .i64 (mrgR [a]).2)]) [] := zs27_one a ha
  simp only [Pl.av] at h21 h64
  refine sq ?_
  refine rg 1000 ?_
  refine pr [1, 4, 6, 8, 9, 48] ?_
  refine sq ?_
  refine sq ?_
  refine rc 2000 ?_
  refine oc id (h21) ?_
  refine oe 2100 ?_
  refine on ?_
  refine pr [1, 4, 6, 8, 9, 13, 19, 48] ?_
  refine sq ?_
  refine rg 3000 ?_
  refine pr [1, 4, 6, 8, 9, 13, 20, 48] ?_
  refine cd ?_ ?_
  · intro h20_1
    have hfin := hr1 h20_1
    refine sq ?_
    refine rg 4000 ?_
    refine pr [1, 4, 6, 8, 10, 13, 22, 48] ?_
    refine k_ret ?_
    show retQ _ _ _ _ _ _ _
    simp [*]
  · intro h20_1
    have he0 := h20_1
    refine k_skip ?_
    refine sq ?_
    refine sq ?_
    refine rc 5000 ?_
    refine oc id (h63) ?_
    refine oe 5100 ?_
    refine on ?_
    refine pr [1, 2, 3, 4, 6, 8, 10, 13, 25, 48] ?_
    refine sq ?_
    refine rg 6000 ?_
    refine pr [1, 2, 3, 4, 6, 8, 10, 13, 26, 48] ?_
    refine cd ?_ ?_
    · intro h26_2
      have hfin := hr2 he0 h26_2
      refine sq ?_
      refine rg 7000 ?_
      refine pr [1, 2, 3, 4, 6, 8, 11, 13, 28, 48] ?_
      refine k_ret ?_
      show retQ _ _ _ _ _ _ _
      simp [*]
    · intro h26_2
      have h64b := h64 he0 h26_2
      have hv0 := h26_2
      refine k_skip ?_
      refine sq ?_
      refine rg 8000 ?_
      refine pr [3, 4, 6, 8, 11, 13, 31, 48] ?_
      refine sq ?_
      refine rc 9000 ?_
      refine oc (fun _ => 8002) (h64b) ?_
      refine oe 9100 ?_
      refine on ?_
      refine pr [6, 8, 11, 13, 34, 48] ?_
      refine sq ?_
      refine sq ?_
      refine rg 10000 ?_
      refine pr [6, 8, 11, 13, 38, 48] ?_
      refine cd ?_ ?_
      · intro h38_3
        have hfin := hr3 he0 hv0 h38_3
        refine sq ?_
        refine dr ?_
        refine de 11000 ?_
        refine dn ?_
        refine pr [6, 8, 12, 13, 43, 48] ?_
        refine k_ret ?_
        show retQ _ _ _ _ _ _ _
        simp [*]
      · intro h38_3
        have hfin := hr4 he0 hv0 h38_3
        refine k_skip ?_
        refine sq ?_
        refine rc 12000 ?_
        refine oc id (h27) ?_
        refine oe 12100 ?_
        refine on ?_
        refine pr [6, 8] ?_
        refine k_ret ?_
        show retQ _ _ _ _ _ _ _
        simp [*]

attribute [local simp] lrowk in
theorem zs20_it (k m : Int) (kids : List Pl) (ex : List E) (cols wth : List Int) (agg rds : Int) (ss : List (List Int)) (S : List (List Ct)) (tt : List Int) (er hv : Int) (h21 : Flat.Sp Tryz.prog 21 [(Pl.mk k m kids ex cols wth agg rds).av, .p (.ps (ss.map srow))] [] (.tup [.p (.ps (tt.map trow)), vv (.int .i64 er)]) []) (h63 : Flat.Sp Tryz.prog 63 [.p (.ps (S.map lrowk)), .p (.ps (ss.map srow))] [] (vv (.int .i64 hv)) []) (x1 : List Ct) (he0 : (er != 0) = false) (hv0 : (hv != 0) = false) (h64 : Flat.Sp Tryz.prog 64 [.ptr 0 0, (Pl.mk k m kids ex cols wth agg rds).av] [(.var 0, .n 3), (.cell 0 0, .av (vv (.int .i64 (0)))), (.cell 0 1, .av (.p (.ps (S.map lrowk)))), (.cell 0 2, .av (.psf []))] (.p (.ps [])) [(.var 0, .n 3), (.cell 0 0, .av (vv (.int .i64 12))), (.cell 0 1, .av (.p (.ps (S.map lrowk)))), (.cell 0 2, .av (.sl 9007 1 0 0)), (.arr 9007, .arr 64 1 [lrowk x1] 0)]) : Flat.Sp Tryz.prog 20 [(Pl.mk k m kids ex cols wth agg rds).av, .p (.ps (S.map lrowk)), .p (.ps (ss.map srow))] [] (.tup [.p (.ps []), vv (.int .i64 12)]) [] := by
  refine sk Tryz.func20 ?_
  intro F G hn hG
  simp only [Pl.av] at h21 h64
  refine sq ?_
  refine rg 1000 ?_
  refine pr [1, 4, 6, 8, 9, 48] ?_
  refine sq ?_
  refine sq ?_
  refine rc 2000 ?_
  refine oc id (h21) ?_
  refine oe 2100 ?_
  refine on ?_
  refine pr [1, 4, 6, 8, 9, 13, 19, 48] ?_
  refine sq ?_
  refine rg 3000 ?_
  refine pr [1, 4, 6, 8, 9, 13, 20, 48] ?_
  refine ce ?_
  refine k_skip ?_
  refine sq ?_
  refine sq ?_
  refine rc 5000 ?_
  refine oc id (h63) ?_
  refine oe 5100 ?_
  refine on ?_
  refine pr [1, 2, 3, 4, 6, 8, 10, 13, 25, 48] ?_
  refine sq ?_
  refine rg 6000 ?_
  refine pr [1, 2, 3, 4, 6, 8, 10, 13, 26, 48] ?_
  refine ce ?_
  refine k_skip ?_
  refine sq ?_
  refine rg 8000 ?_
  refine pr [3, 4, 6, 8, 11, 13, 31, 48] ?_
  refine sq ?_
  refine rc 9000 ?_
  refine oc (fun k => if k = 0 then 8002 else 9999) (h64) ?_
  refine oe 9100 ?_
  refine on ?_
  refine pr [6, 8, 11, 13, 34, 48] ?_
  refine sq ?_
  refine sq ?_
  refine rg 10000 ?_
  refine pr [6, 8, 11, 13, 38, 48] ?_
  refine ct ?_
  refine sq ?_
  refine dr ?_
  refine de 11000 ?_
  refine dn ?_
  refine pr [6, 8, 12, 13, 43, 48] ?_
  refine k_ret ?_
  show retQ _ _ _ _ _ _ _
  simp [*]
end
section
attribute [local simp] famOK bigB Pl.row_eq Pl.av
def lA : Val := ⟨false, 1, ⟨#[]⟩⟩
def lB : Val := ⟨false, 2, ⟨#[]⟩⟩
def l4 : Val := ⟨false, 4, ⟨#[]⟩⟩
def lC : List Ct := [⟨[lA], 2⟩, ⟨[lB], 1⟩]
def lN : List Ct := [⟨[lA], -2⟩, ⟨[lB], -1⟩]
def lO : List Ct := [⟨[lA], 1⟩, ⟨[lB], 1⟩]
def lF : List Ct := [⟨[l4], 1⟩]
def lX : Pl := .mk 1 0 [] [] [] [] 0 0
def lV : Pl := .mk 2 0 [] [] [] [] 0 0
def lp1 : Pl := .mk 8 0 [lX] [] [] [] 2 0
def lp2 : Pl := .mk 9 0 [lX] [] [] [] 0 0
def lNeg : Pl := .mk 6 0 [lX] [] [] [] 0 0
def lp3 : Pl := .mk 5 0 [lX, lNeg] [] [] [] 0 0
def lNv : Pl := .mk 6 0 [lV] [] [] [] 0 0
def lp4 : Pl := .mk 10 0 [lX, lNv] [] [] [] 0 2
theorem lf1 : (inferP [[1]] lp1).2 = 0 := by decide +kernel
theorem lf2 : (inferP [[1]] lp2).2 = 0 := by decide +kernel
theorem lf3 : (inferP [[1]] lp3).2 = 0 := by decide +kernel
theorem lf4 : (inferP [[1]] lp4).2 = 0 := by decide +kernel
theorem lh : haveR [lC] [[1]] = 0 := by decide +kernel
theorem lm1 : mrgR [lF] = (lF, 0) := by kernel_rfl
theorem lm2 : mrgR [lO] = (lO, 0) := by kernel_rfl
theorem lm3 : eachR 6 [] lC = (lN, 0) := by kernel_rfl
theorem lm4 : eachR 6 [] lN = (lC, 0) := by kernel_rfl
theorem lm5 : mrgR [lC, lN] = ([], 0) := by kernel_rfl
theorem lm6 : mrgR [[]] = ([], 0) := by kernel_rfl
theorem ltr : thereC lC = lC := by kernel_rfl
theorem lon : onceL lC = lO := by kernel_rfl
theorem lo4 : onceC [[], [l4]] = ⟨[l4], 1⟩ := by kernel_rfl
theorem lt1 : timesR 2 1 = (2, 0) := by decide
theorem lt2 : timesR 1 2 = (2, 0) := by decide
theorem lsu : tfit (tsum [2, 2]) = (4, 0) := by decide
theorem sml_lC : Sml lC := ⟨by decide, by intro c hc; simp [lC] at hc; rcases hc with rfl | rfl <;> decide⟩
theorem sml_lN : Sml lN := ⟨by decide, by intro c hc; simp [lN] at hc; rcases hc with rfl | rfl <;> decide⟩
theorem sml_lO : Sml lO := ⟨by decide, by intro c hc; simp [lO] at hc; rcases hc with rfl | rfl <;> decide⟩
theorem sml_lF : Sml lF := ⟨by decide, by intro c hc; simp [lF] at hc; rcases hc with rfl; decide⟩
theorem colsR_ok {row : List Val} (h : row.length ≤ Flat.lim) (hc : checkRow row = 0) : Flat.Sp Tryz.prog 173 [.p (.ps (row.map Val.row)), .p (.ps [])] [] (.tup [.p (.ps []), vv (.int .i64 0)]) [] := by
  have := spec93 row h [] (by simp [Bnd])
  rw [colsR_nil hc] at this
  exact this
theorem l223 : Flat.Sp Tryz.prog 223 [lp1.av, .p (.ps (lC.map Ct.row))] [] (.p (.ps [[.v (.int .u8 8), .v (.int .i64 0), .ps ([lX].map Pl.row), .ps (([] : List E).map E.row), .ps [], .ps (([] : List Int).map irow), .v (.int .u8 2), .v (.int .i64 0), .ps [], .ps (lC.map Ct.row)]])) [] :=
  zs223 8 0 [lX] [] [] 2 0 lC (by decide) (by intro x hx; simp [lC] at hx; rcases hx with rfl | rfl; exact colsR_ok (by decide) (by decide +kernel); exact colsR_ok (by decide) (by decide +kernel)) _ (fun h => by cases h) (fun _ => rfl)

attribute [local simp] lC lA lB l4 lX Ct.row Val.row Ct.av irow in
theorem l277 : Flat.Sp Tryz.prog 277 [.agg [vv (.int .u8 8), vv (.int .i64 0), .p (.ps ([lX].map Pl.row)), .p (.ps (([] : List E).map E.row)), .p (.ps []), .p (.ps (([] : List Int).map irow)), vv (.int .u8 2), vv (.int .i64 0), .p (.ps []), .p (.ps (lC.map Ct.row))]] [] (.tup [vv (.int .i64 4), vv (.int .i64 0)]) [] := by
  refine sk Tryz.func277 ?_
  intro F G hn hG
  have h95a := spec95 2 1
  rw [lt1] at h95a
  have h95b := spec95 1 2
  rw [lt2] at h95b
  have h202 := spec165 [2, 2] (by decide)
  rw [lsu] at h202
  refine sq ?_
  refine rg 1000 ?_
  refine pr [1, 56] ?_
  refine sq ?_
  refine rg 2000 ?_
  refine pr [1, 9, 13, 56] ?_
  refine sq ?_
  refine sq ?_
  refine rg 3000 ?_
  refine pr [1, 9, 14, 56] ?_
  refine k_block ?_
  refine k_rounds 3 ?_
  show AK _ _ _ _ _ _
  refine sq ?_
  refine rg 4000 ?_
  refine pr [1, 9, 14, 56] ?_
  refine sq ?_
  refine ct ?_
  refine k_skip ?_
  refine sq ?_
  refine k_block ?_
  refine sq ?_
  refine rg 5000 ?_
  refine pr [1, 9, 14, 56] ?_
  refine sq ?_
  refine rg 6000 ?_
  refine pr [1, 9, 14, 56] ?_
  refine sq ?_
  refine sq ?_
  refine rg 7000 ?_
  refine pr [1, 9, 14, 56] ?_
  refine ce ?_
  refine k_skip ?_
  refine sq ?_
  refine dr ?_
  refine de 8000 ?_
  refine dc id (h95a) ?_
  refine de 8100 ?_
  refine dn ?_
  refine pr [1, 9, 14, 56] ?_
  refine sq ?_
  refine sq ?_
  refine rg 9000 ?_
  refine pr [1, 9, 14, 56] ?_
  refine ce ?_
  refine k_skip ?_
  refine rg 11000 ?_
  refine k_nil ?_
  show AK _ _ _ _ _ _
  refine rg 12000 ?_
  refine k_nil ?_
  show AK _ _ _ _ _ _
  refine sq ?_
  refine rg 1004000 ?_
  refine pr [1, 9, 14, 56] ?_
  refine sq ?_
  refine ct ?_
  refine k_skip ?_
  refine sq ?_
  refine k_block ?_
  refine sq ?_
  refine rg 1005000 ?_
  refine pr [1, 9, 14, 56] ?_
  refine sq ?_
  refine rg 1006000 ?_
  refine pr [1, 9, 14, 56] ?_
  refine sq ?_
  refine sq ?_
  refine rg 1007000 ?_
  refine pr [1, 9, 14, 56] ?_
  refine ce ?_
  refine k_skip ?_
  refine sq ?_
  refine dr ?_
  refine de 1008000 ?_
  refine dc id (h95b) ?_
  refine de 1008100 ?_
  refine dn ?_
  refine pr [1, 9, 14, 56] ?_
  refine sq ?_
  refine sq ?_
  refine rg 1009000 ?_
  refine pr [1, 9, 14, 56] ?_
  refine ce ?_
  refine k_skip ?_
  refine rg 1011000 ?_
  refine k_nil ?_
  show AK _ _ _ _ _ _
  refine rg 1012000 ?_
  refine k_nil ?_
  show AK _ _ _ _ _ _
  refine sq ?_
  refine rg 2004000 ?_
  refine pr [1, 9, 14, 56] ?_
  refine sq ?_
  refine ce ?_
  refine k_exit ?_
  show AK _ _ _ _ _ _
  refine sq ?_
  refine fz 2003 ?_
  refine rc 13000 ?_
  refine oc id (h202) ?_
  refine oe 13100 ?_
  refine on ?_
  refine pr [2, 4] ?_
  refine k_ret ?_
  show retQ _ _ _ _ _ _ _
  simp [*]

attribute [local simp] lC lA lB l4 lX Ct.row Val.row lF Ct.av in
theorem l229 : Flat.Sp Tryz.prog 229 [.agg [vv (.int .u8 8), vv (.int .i64 0), .p (.ps ([lX].map Pl.row)), .p (.ps (([] : List E).map E.row)), .p (.ps []), .p (.ps (([] : List Int).map irow)), vv (.int .u8 2), vv (.int .i64 0), .p (.ps []), .p (.ps (lC.map Ct.row))]] [] (.tup [.p (.ps (lF.map Ct.row)), vv (.int .i64 0)]) [] := by
  refine sk Tryz.func229 ?_
  intro F G hn hG
  have h227 : Flat.Sp Tryz.prog 227 [.p (.ps [lrowv [], lrowv [l4]])] [] ((⟨[l4], 1⟩ : Ct).av) [] := by have := zs227_2 [] [l4] (by decide) (by decide); rw [lo4] at this; exact this
  have h277 := l277
  simp only [Ct.av, Ct.row, lrowv, l4, Val.row, List.map_cons, List.map_nil] at h227
  simp only [lC, lA, lB, lX, List.map_cons, List.map_nil, Ct.row, Val.row, Pl.row_eq] at h277
  refine sq ?_
  refine rg 1000 ?_
  refine pr [1, 8, 9, 73] ?_
  refine sq ?_
  refine sq ?_
  refine rg 2000 ?_
  refine pr [1, 8, 9, 10, 12, 73] ?_
  refine k_block ?_
  refine sq ?_
  refine sq ?_
  refine rg 3000 ?_
  refine pr [1, 8, 9, 10, 12, 14, 15, 73] ?_
  refine ce ?_
  refine rg 4000 ?_
  refine pr [1, 8, 9, 10, 13, 14, 16, 73] ?_
  refine ct ?_
  refine sq ?_
  refine rc 5000 ?_
  refine oc id (h277) ?_
  refine oe 5100 ?_
  refine on ?_
  refine pr [1, 8, 9, 10, 21, 73] ?_
  refine sq ?_
  refine sq ?_
  refine rg 6000 ?_
  refine pr [1, 8, 9, 10, 22, 73] ?_
  refine ce ?_
  refine k_skip ?_
  refine sq ?_
  refine rc 8000 ?_
  refine oc id (h227) ?_
  refine oe 8100 ?_
  refine on ?_
  refine pr [1, 4, 6, 8, 9, 10, 32, 73] ?_
  refine k_ret ?_
  show retQ _ _ _ _ _ _ _
  simp [*]


theorem l141 : Flat.Sp Tryz.prog 141 [lp1.av, .p (.ps []), .p (.ps (lC.map Ct.row))] [] (.tup [.p (.ps (lF.map Ct.row)), vv (.int .i64 0)]) [] := zs141_r 8 0 [lX] [] [] 2 0 (by decide) [] lC lF 0 l229
theorem l140 : Flat.Sp Tryz.prog 140 [.ptr 0 0, lp1.av, .p (.ps (lC.map Ct.row))] [(.var 0, .n 3), (.cell 0 0, .av (vv (.int .i64 (0)))), (.cell 0 1, .av (.p (.ps ([lC].map lrowk)))), (.cell 0 2, .av (.psf []))] (.p (.ps (lF.map Ct.row))) [(.var 0, .n 3), (.cell 0 0, .av (vv (.int .i64 (0)))), (.cell 0 1, .av (.p (.ps ([lC].map lrowk)))), (.cell 0 2, .av (.psf []))] := by
  have := zs140_1 [lC] 8 0 [lX] [] [] 2 0 lC lF 0 sml_lF l223 l141
  rw [lm1] at this
  exact this
theorem lsrc : Flat.Sp Tryz.prog 64 [.ptr 0 0, lX.av] [(.var 0, .n 3), (.cell 0 0, .av (vv (.int .i64 (0)))), (.cell 0 1, .av (.p (.ps ([lC].map lrowk)))), (.cell 0 2, .av (.psf []))] (.p (.ps (lC.map Ct.row))) [(.var 0, .n 3), (.cell 0 0, .av (vv (.int .i64 (0)))), (.cell 0 1, .av (.p (.ps ([lC].map lrowk)))), (.cell 0 2, .av (.psf []))] := zs64_src0 0 [lC] 0 lC rfl [] [] [] [] 0 0
theorem lof1 : Flat.Sp Tryz.prog 64 [.ptr 0 0, lp1.av] [(.var 0, .n 3), (.cell 0 0, .av (vv (.int .i64 (0)))), (.cell 0 1, .av (.p (.ps ([lC].map lrowk)))), (.cell 0 2, .av (.psf []))] (.p (.ps (lF.map Ct.row))) [(.var 0, .n 3), (.cell 0 0, .av (vv (.int .i64 (0)))), (.cell 0 1, .av (.p (.ps ([lC].map lrowk)))), (.cell 0 2, .av (.psf []))] := zs64_red [lC] 0 [] [] 2 0 1 0 [] [] [] [] 0 0 lC lF 0 lsrc l140
theorem lof2 : Flat.Sp Tryz.prog 64 [.ptr 0 0, lp2.av] [(.var 0, .n 3), (.cell 0 0, .av (vv (.int .i64 (0)))), (.cell 0 1, .av (.p (.ps ([lC].map lrowk)))), (.cell 0 2, .av (.psf []))] (.p (.ps (lO.map Ct.row))) [(.var 0, .n 3), (.cell 0 0, .av (vv (.int .i64 (0)))), (.cell 0 1, .av (.p (.ps ([lC].map lrowk)))), (.cell 0 2, .av (.psf []))] := by
  have h := zs141_d 0 [lX] [] [] [] 0 0 lC (by decide) sml_lC.2 lC ltr
  rw [lon] at h
  exact zs64_dis [lC] 0 [] [] [] 0 0 1 0 [] [] [] [] 0 0 lC lO lsrc h
theorem lofn : Flat.Sp Tryz.prog 64 [.ptr 0 0, lNeg.av] [(.var 0, .n 3), (.cell 0 0, .av (vv (.int .i64 (0)))), (.cell 0 1, .av (.p (.ps ([lC].map lrowk)))), (.cell 0 2, .av (.psf []))] (.p (.ps (lN.map Ct.row))) [(.var 0, .n 3), (.cell 0 0, .av (vv (.int .i64 (0)))), (.cell 0 1, .av (.p (.ps ([lC].map lrowk)))), (.cell 0 2, .av (.psf []))] := by
  have h := zs64_lin0 [lC] 6 0 [] [] [] 0 0 1 0 [] [] [] [] 0 0 rfl rfl rfl rfl rfl rfl rfl (by decide) (fun h => by cases h) lC sml_lC lsrc
  rw [lm3] at h
  exact h
theorem lcat : (catk [lC, lN]).length ≤ Cap ∧ ∀ c ∈ catk [lC, lN], c.r.length ≤ Bnd := by
  refine ⟨by decide, fun c hc => ?_⟩
  obtain ⟨l, hl, hc⟩ := List.mem_flatten.1 hc
  simp at hl
  rcases hl with rfl | rfl
  · exact sml_lC.2 c hc
  · exact sml_lN.2 c hc
theorem lof3 : Flat.Sp Tryz.prog 64 [.ptr 0 0, lp3.av] [(.var 0, .n 3), (.cell 0 0, .av (vv (.int .i64 (0)))), (.cell 0 1, .av (.p (.ps ([lC].map lrowk)))), (.cell 0 2, .av (.psf []))] (.p (.ps (([] : List Ct).map Ct.row))) [(.var 0, .n 3), (.cell 0 0, .av (vv (.int .i64 (0)))), (.cell 0 1, .av (.p (.ps ([lC].map lrowk)))), (.cell 0 2, .av (.psf []))] := by
  have h := zs64_cat [lC] 0 [] [] [] 0 0 1 0 [] [] [] [] 0 0 6 0 [lX] [] [] [] 0 0 lC lN sml_lC sml_lN lsrc lcat lofn
  rw [lm5] at h
  exact h

theorem lofv1 : Flat.Sp Tryz.prog 64 [.ptr 0 0, lNv.av] [(.var 0, .n 3), (.cell 0 0, .av (vv (.int .i64 (0)))), (.cell 0 1, .av (.p (.ps ([lC].map lrowk)))), (.cell 0 2, .av (.sl 2 1 0 1)), (.arr 2, .arr 64 1 [lrowk lC] 0)] (.p (.ps (lN.map Ct.row))) [(.var 0, .n 3), (.cell 0 0, .av (vv (.int .i64 (0)))), (.cell 0 1, .av (.p (.ps ([lC].map lrowk)))), (.cell 0 2, .av (.sl 2 1 0 1)), (.arr 2, .arr 64 1 [lrowk lC] 0)] := by
  have h := zs64_lin1 [lC] lC 6 0 [] [] [] 0 0 2 0 [] [] [] [] 0 0 rfl rfl rfl rfl rfl rfl rfl (by decide) (fun h => by cases h) lC sml_lC (zs64_var1 0 [lC] lC [] [] [] [] 0 0)
  rw [lm3] at h
  exact h
theorem lofv2 : Flat.Sp Tryz.prog 64 [.ptr 0 0, lNv.av] [(.var 0, .n 3), (.cell 0 0, .av (vv (.int .i64 (0)))), (.cell 0 1, .av (.p (.ps ([lC].map lrowk)))), (.cell 0 2, .av (.sl 2 1 0 1)), (.arr 2, .arr 64 1 [lrowk lN] 0)] (.p (.ps (lC.map Ct.row))) [(.var 0, .n 3), (.cell 0 0, .av (vv (.int .i64 (0)))), (.cell 0 1, .av (.p (.ps ([lC].map lrowk)))), (.cell 0 2, .av (.sl 2 1 0 1)), (.arr 2, .arr 64 1 [lrowk lN] 0)] := by
  have h := zs64_lin1 [lC] lN 6 0 [] [] [] 0 0 2 0 [] [] [] [] 0 0 rfl rfl rfl rfl rfl rfl rfl (by decide) (fun h => by cases h) lN sml_lN (zs64_var1 0 [lC] lN [] [] [] [] 0 0)
  rw [lm4] at h
  exact h
theorem lof4 : Flat.Sp Tryz.prog 64 [.ptr 0 0, lp4.av] [(.var 0, .n 3), (.cell 0 0, .av (vv (.int .i64 (0)))), (.cell 0 1, .av (.p (.ps ([lC].map lrowk)))), (.cell 0 2, .av (.psf []))] (.p (.ps [])) [(.var 0, .n 3), (.cell 0 0, .av (vv (.int .i64 12))), (.cell 0 1, .av (.p (.ps ([lC].map lrowk)))), (.cell 0 2, .av (.sl 9007 1 0 0)), (.arr 9007, .arr 64 1 [lrowk lN] 0)] :=
  zs64_it [lC] 0 [] [] [] 0 1 0 [] [] [] [] 0 0 6 0 [lV] [] [] [] 0 0 lC lN lC lsrc lofv1 lofv2 (zs221_ne ⟨[lA], 2⟩ ⟨[lA], -2⟩ [⟨[lB], 1⟩] [⟨[lB], -1⟩] rfl (by decide) (by decide))
theorem lhv : Flat.Sp Tryz.prog 63 [.p (.ps ([lC].map lrowk)), .p (.ps (([[1]] : List (List Int)).map srow))] [] (vv (.int .i64 0)) [] := by
  have h := zs63 [lC] (by decide) (by intro l hl; simp at hl; rw [hl]; exact sml_lC) [[1]]
  rw [lh] at h
  exact h
theorem lof_in {p : Pl} (hb : p.bnd) (h : (inferP [[1]] p).2 = 0) : Flat.Sp Tryz.prog 21 [p.av, .p (.ps (([[1]] : List (List Int)).map srow))] [] (.tup [.p (.ps ((inferP [[1]] p).1.map trow)), vv (.int .i64 0)]) [] := by
  have := spec29 p hb [[1]]
  rw [h] at this
  exact this

theorem lOlp1 : Flat.Sp Tryz.prog 20 [lp1.av, .p (.ps ([lC].map lrowk)), .p (.ps (([[1]] : List (List Int)).map srow))] [] (.tup [.p (.ps (lF.map Ct.row)), vv (.int .i64 0)]) [] := zs20_s 8 0 [lX] [] [] [] 2 0 [[1]] [lC] _ 0 0 (lof_in (by simp [lp1, lX, lV, lNeg, lNv, Pl.bnd, Pl.bndL, Bnd]) lf1) lhv lF 0 sml_lF _ (fun h => by cases h) (fun _ h => by cases h) (fun _ _ h => by cases h) (fun _ _ _ => lm1.symm) (fun _ _ => lof1)

theorem lOlp2 : Flat.Sp Tryz.prog 20 [lp2.av, .p (.ps ([lC].map lrowk)), .p (.ps (([[1]] : List (List Int)).map srow))] [] (.tup [.p (.ps (lO.map Ct.row)), vv (.int .i64 0)]) [] := zs20_s 9 0 [lX] [] [] [] 0 0 [[1]] [lC] _ 0 0 (lof_in (by simp [lp2, lX, lV, lNeg, lNv, Pl.bnd, Pl.bndL, Bnd]) lf2) lhv lO 0 sml_lO _ (fun h => by cases h) (fun _ h => by cases h) (fun _ _ h => by cases h) (fun _ _ _ => lm2.symm) (fun _ _ => lof2)

theorem lOlp3 : Flat.Sp Tryz.prog 20 [lp3.av, .p (.ps ([lC].map lrowk)), .p (.ps (([[1]] : List (List Int)).map srow))] [] (.tup [.p (.ps (([] : List Ct).map Ct.row)), vv (.int .i64 0)]) [] := zs20_s 5 0 [lX, lNeg] [] [] [] 0 0 [[1]] [lC] _ 0 0 (lof_in (by simp [lp3, lX, lV, lNeg, lNv, Pl.bnd, Pl.bndL, Bnd]) lf3) lhv [] 0 ⟨by simp, by simp⟩ _ (fun h => by cases h) (fun _ h => by cases h) (fun _ _ h => by cases h) (fun _ _ _ => lm6.symm) (fun _ _ => lof3)

theorem lOlp4 : Flat.Sp Tryz.prog 20 [lp4.av, .p (.ps ([lC].map lrowk)), .p (.ps (([[1]] : List (List Int)).map srow))] [] (.tup [.p (.ps (([] : List Ct).map Ct.row)), vv (.int .i64 12)]) [] := zs20_it 10 0 [lX, lNv] [] [] [] 0 2 [[1]] [lC] _ 0 0 (lof_in (by simp [lp4, lX, lV, lNeg, lNv, Pl.bnd, Pl.bndL, Bnd]) lf4) lhv lN (by decide) (by decide) lof4

theorem zs26 (q : Int) : Flat.Sp Tryz.prog 26 [vv (.int .i64 q)] [] ((Pl.mk 1 q [] [] [] [] 0 0).av) [] := by
  refine sk Tryz.func26 ?_
  intro F G hn hG
  refine sq ?_
  refine rg 1000 ?_
  refine pr [0, 1, 2, 5] ?_
  refine sq ?_
  refine rg 2000 ?_
  refine pr [2, 3] ?_
  refine k_ret ?_
  show retQ _ _ _ _ _ _ _
  simp [*]

theorem zs24 (k : Int) (kids : List Pl) : Flat.Sp Tryz.prog 24 [vv (.int .u8 k), .p (.ps (kids.map Pl.row))] [] ((Pl.mk k 0 kids [] [] [] 0 0).av) [] := by
  refine sk Tryz.func24 ?_
  intro F G hn hG
  refine sq ?_
  refine rg 1000 ?_
  refine pr [0, 2, 4, 8] ?_
  refine sq ?_
  refine rg 2000 ?_
  refine pr [4, 5] ?_
  refine k_ret ?_
  show retQ _ _ _ _ _ _ _
  simp [*]

attribute [local simp] lC lA lB l4 lO lF lX lV lNeg lNv lp1 lp2 lp3 lp4 Ct.row Val.row lrowk srow trow in
set_option maxHeartbeats 2000000 in
theorem zs19  : Flat.Sp Tryz.prog 19 [] [] (vv (.bool true)) [] := by
  refine sk Tryz.func19 ?_
  intro F G hn hG
  have f1 := lOlp1
  have f2 := lOlp2
  have f3 := lOlp3
  have f4 := lOlp4
  have s0 := zs26 0
  have o0 := zs24 9 [lX]
  have o1 := zs24 6 [lX]
  have o2 := zs24 5 [lX, lNeg]
  have o3 := zs24 6 [lV]
  simp only [lC, lA, lB, l4, lO, lF, lX, lV, lNeg, lNv, lp1, lp2, lp3, lp4, Ct.row, Val.row, lrowk, srow, trow, List.map_cons, List.map_nil, Pl.av, Pl.row_eq] at f1 f2 f3 f4 s0 o0 o1 o2 o3
  refine sq ?_
  refine rg 1000 ?_
  refine pr [0, 9, 10, 109] ?_
  refine sq ?_
  refine rg 2000 ?_
  refine pr [0, 9, 10, 11, 19, 109] ?_
  refine sq ?_
  refine rg 3000 ?_
  refine pr [0, 9, 10, 11, 21, 109] ?_
  refine sq ?_
  refine rc 4000 ?_
  refine oc id (s0) ?_
  refine oe 4100 ?_
  refine oc id (f1) ?_
  refine oe 4200 ?_
  refine on ?_
  refine pr [0, 9, 10, 11, 30, 109] ?_
  refine sq ?_
  refine rc 5000 ?_
  refine oc id (s0) ?_
  refine oe 5100 ?_
  refine oc id (o0) ?_
  refine oe 5200 ?_
  refine oc id (f2) ?_
  refine oe 5300 ?_
  refine on ?_
  refine pr [0, 9, 10, 11, 39, 109] ?_
  refine sq ?_
  refine rc 6000 ?_
  refine oc id (s0) ?_
  refine oc id (s0) ?_
  refine oe 6200 ?_
  refine oc id (o1) ?_
  refine oe 6300 ?_
  refine oc id (o2) ?_
  refine oe 6400 ?_
  refine oc id (f3) ?_
  refine oe 6500 ?_
  refine on ?_
  refine pr [0, 9, 10, 11, 51, 109] ?_
  refine sq ?_
  refine rc 7000 ?_
  refine oc id (s0) ?_
  refine oe 7100 ?_
  refine oc id (o3) ?_
  refine oe 7200 ?_
  refine oc id (f4) ?_
  refine oe 7300 ?_
  refine on ?_
  refine pr [0, 1, 3, 9, 10, 11, 63, 109] ?_
  refine sq ?_
  refine rc 8000 ?_
  iterate 8 (first | refine gp 8750 ?_ | refine os ?_ | refine gt 8750 ?_)
  refine oe 8800 ?_
  iterate 2 (first | refine gp 8950 ?_ | refine os ?_ | refine gt 8950 ?_)
  refine oe 9000 ?_
  iterate 3 (first | refine gp 9250 ?_ | refine os ?_ | refine gt 9250 ?_)
  refine oe 9300 ?_
  iterate 5 (first | refine gp 9750 ?_ | refine os ?_ | refine gt 9750 ?_)
  refine oe 9800 ?_
  iterate 2 (first | refine gp 9950 ?_ | refine os ?_ | refine gt 9950 ?_)
  refine oe 10000 ?_
  iterate 3 (first | refine gp 10250 ?_ | refine os ?_ | refine gt 10250 ?_)
  refine oe 10300 ?_
  iterate 2 (first | refine gp 10450 ?_ | refine os ?_ | refine gt 10450 ?_)
  refine oe 10500 ?_
  iterate 2 (first | refine gp 10650 ?_ | refine os ?_ | refine gt 10650 ?_)
  refine oe 10700 ?_
  refine on ?_
  refine pr [0, 1] ?_
  refine k_ret ?_
  show retQ _ _ _ _ _ _ _
  simp [*]
end
end Go.Proofs
end
section
set_option linter.unusedVariables false
set_option linter.unusedSimpArgs false
namespace Go.Proofs
open Go.Flat
set_option linter.unusedSimpArgs false
set_option linter.unusedVariables false
/-! ### values as they are told apart -/
def nfV (v : Val) : Val := ⟨v.t, v.kn, v.ks⟩
theorem nf_cmp {a b : Val} (h : a.cmp b = 0) : nfV a = nfV b := by
  obtain ⟨ta, na, sa⟩ := a
  obtain ⟨tb, nb, sb⟩ := b
  cases ta <;> cases tb <;> simp [Val.cmp, cmpI_eq, cmpS_list, nfV, Val.kn, Val.ks] at h ⊢
  · exact h
  · exact toList_inj h
theorem nf_right {v : Val} (h : v.right = true) : nfV v = v := by
  obtain ⟨t, n, s⟩ := v
  cases t <;> simp [Val.right] at h <;> simp [nfV, Val.kn, Val.ks]
  · exact toList_inj (by rw [h, ByteArray.toList_eq])
  · exact h.1.symm
def nfR (r : List Val) : List Val := r.map nfV
theorem nfR_cmp : ∀ {a b : List Val}, rowsC a b = 0 → nfR a = nfR b
  | [], [], _ => rfl
  | [], _ :: _, h => by simp [rowsC, cmpBy] at h
  | _ :: _, [], h => by simp [rowsC, cmpBy] at h
  | x :: a, y :: b, h => by
    unfold rowsC at h
    rw [cmpBy_cons] at h
    by_cases hx : x.cmp y = 0
    · rw [hx] at h
      simp only [bne_self_eq_false, Bool.false_eq_true, if_false] at h
      simp only [nfR, List.map_cons]
      rw [nf_cmp hx, show a.map nfV = b.map nfV from nfR_cmp (a := a) (b := b) h]
    · rw [if_pos (by simpa using hx)] at h
      exact absurd h hx
theorem nfR_right {r : List Val} (h : checkRow r = 0) : nfR r = r := by
  have hr := row_right h
  unfold nfR
  rw [List.map_congr_left fun v hv => nf_right (hr v hv), List.map_id']
/-! ### sums -/
theorem sumP_congr {α : Type} {P Q : α → Bool} {nm : α → Int} {l : List α} (h : ∀ x ∈ l, P x = Q x) : sumP P nm l = sumP Q nm l := by
  unfold sumP
  rw [List.filter_congr h]
theorem piles_fit {cs : List Ct} (hg : ∀ c ∈ cs, i64 c.n) (hl : cs.length ≤ 4294967296) (h0 : (cntR cs).2 = 0) : ∀ g ∈ pilesK cs, gfit g = (g.2.sum, 0) := by
  have hperm : (isrt (ltU cmpK) cs).Perm cs := isrt_perm _
  have hG : Grp cmpK Ct.n (isrt (ltU cmpK) cs) (pilesK cs) := grp_ok cmpK_ok.cmp Ct.n _ (isrt_line cmpK_ord _)
  intro g hg'
  have hns : (∀ n ∈ g.2, i64 n) ∧ g.2.length ≤ 4294967296 := by
    rw [hG.pile g hg']
    refine ⟨fun n hn => ?_, ?_⟩
    · obtain ⟨x, hx, rfl⟩ := List.mem_map.1 hn
      exact hg x (hperm.mem_iff.1 (List.mem_filter.1 hx).1)
    · rw [alike, List.length_map]
      have := List.length_filter_le (fun x => decide (cmpK g.1 x = 0)) (isrt (ltU cmpK) cs)
      rw [isrt_length] at this
      omega
  have e : gerr (pilesK cs) = 0 := h0
  rw [gerr, orI_zero] at e
  have h3 := e _ (List.mem_map.2 ⟨g, hg', rfl⟩)
  rw [gfit, fit_sum hns.1 hns.2] at h3 ⊢
  split at h3
  · rename_i q; rw [if_pos q]
  · simp at h3
theorem cnt_out {cs : List Ct} (h0 : (cntR cs).2 = 0) : (cntR cs).1 = gout Ct.put (pilesK cs) := by
  have e : gerr (pilesK cs) = 0 := h0
  show (if gerr (pilesK cs) != 0 then [] else gout Ct.put (pilesK cs)) = _
  rw [if_neg (by rw [e]; decide)]
/-- All counts of which something holds: as many as before they were added up. -/
theorem cnt_sum {L : List Ct} (hg : ∀ c ∈ L, i64 c.n) (hl : L.length ≤ 4294967296) (hr : ∀ c ∈ L, checkRow c.r = 0) (h0 : (cntR L).2 = 0) (P : List Val → Bool) :
    sumP (fun c => P c.r) Ct.n (cntR L).1 = sumP (fun c : Ct => P c.r) Ct.n L := by
  have A := cnt_ok hg hl
  have e1 : sumP (fun c : Ct => P c.r) Ct.n L = sumP (fun c : Ct => P (nfR c.r)) Ct.n L := sumP_congr fun c hc => by rw [nfR_right (hr c hc)]
  have e2 : sumP (fun c : Ct => P c.r) Ct.n (cntR L).1 = sumP (fun c : Ct => P (nfR c.r)) Ct.n (cntR L).1 := sumP_congr fun c hc => by
    obtain ⟨-, ⟨v, hv, hvr⟩, -⟩ := A.mem c hc
    rw [hvr, nfR_right (hr v hv)]
  rw [e1, e2, cnt_out h0, sum_out (P := fun c : Ct => P (nfR c.r)) (put := Ct.put) (nm := Ct.n) (fun x n => rfl) (fun x n => rfl) (piles_fit hg hl h0), pilesK, sumG_grp (fun x y h => by rw [nfR_cmp h]), sumP_perm (isrt_perm _)]
/-! ### collections -/
structure Col (L : List Ct) : Prop where
  st : L.Pairwise fun x y => ltC cmpK x y = true
  ok : ∀ c ∈ L, checkRow c.r = 0 ∧ c.n ≠ 0 ∧ i64 c.n
theorem TK_mem {L : List Ct} (hE : L.Pairwise fun x y => ltC cmpK x y = true) {u : Ct} (hu : u ∈ L) : TK L u = u.n := by
  induction L with
  | nil => simp at hu
  | cons x l ih =>
    obtain ⟨h1, h2⟩ := List.pairwise_cons.1 hE
    unfold TK
    rw [sumP_cons]
    rcases List.mem_cons.1 hu with rfl | hm
    · have h0 : sumP (fun y => decide (cmpK u y = 0)) Ct.n l = 0 := by
        have : l.filter (fun y => decide (cmpK u y = 0)) = [] := by
          rw [List.filter_eq_nil_iff]
          intro y hy
          simpa using cmpK_ok.cmp.ne_of_lt (h1 y hy)
        rw [sumP, this]; rfl
      rw [h0, cmpK_ok.cmp.refl]
      simp
    · have hne := cmpK_ok.cmp.ne_of_gt (h1 u hm)
      have := ih h2 hm
      unfold TK at this
      rw [this]
      simp [hne]
/-- A collection added up is itself. -/
theorem colK_cnt {L : List Ct} (hc : Col L) (hl : L.length ≤ 4294967296) : cntR L = (L, 0) := by
  have A := cnt_ok (fun c h => (hc.ok c h).2.2) hl
  have h0 : (cntR L).2 = 0 := A.err.2 fun u hu => by rw [TK_mem hc.st hu]; exact (hc.ok u hu).2.2
  refine Prod.ext ?_ h0
  refine strict_ext cmpK_ok.cmp _ _ A.st hc.st fun u => ⟨fun hu => ?_, fun hu => ?_⟩
  · obtain ⟨n1, ⟨v, hv, hvr⟩, n2⟩ := A.mem u hu
    have : TK L u = TK L v := TK_congr (by show rowsC u.r v.r = 0; rw [hvr]; exact rowsC_ok.refl _)
    rw [TK_mem hc.st hv] at this
    have : u = v := by cases u; cases v; simp only [Ct.mk.injEq]; exact ⟨hvr, by simp only at n2 this; omega⟩
    rw [this]; exact hv
  · have hz : TK L u ≠ 0 := by rw [TK_mem hc.st hu]; exact (hc.ok u hu).2.1
    obtain ⟨w, hw, hwc⟩ := A.all h0 u hu hz
    obtain ⟨m1, ⟨y, hy, hyr⟩, m2⟩ := A.mem w hw
    have e := (cmpK_eq (by rw [hyr]; exact (hc.ok y hy).1) (hc.ok u hu).1).1 hwc
    have : w = u := by
      have hn : w.n = u.n := by rw [← m2, TK_congr hwc, TK_mem hc.st hu]
      cases w; cases u; simp only [Ct.mk.injEq]; exact ⟨e, hn⟩
    rw [← this]; exact hw
/-- What is added up is a collection. -/
theorem cnt_col {L : List Ct} (hg : ∀ c ∈ L, i64 c.n) (hl : L.length ≤ 4294967296) (hr : ∀ c ∈ L, checkRow c.r = 0) (h0 : (cntR L).2 = 0) : Col (cntR L).1 := by
  have A := cnt_ok hg hl
  refine ⟨A.st, fun u hu => ?_⟩
  obtain ⟨n1, ⟨v, hv, hvr⟩, n2⟩ := A.mem u hu
  refine ⟨by rw [hvr]; exact hr v hv, n1, ?_⟩
  have := A.err.1 h0 v hv
  rw [← n2, TK_congr (show cmpK u v = 0 from by show rowsC u.r v.r = 0; rw [hvr]; exact rowsC_ok.refl _)]
  exact this
theorem mrg_of {ls : List (List Ct)} (h : ∀ c ∈ catk ls, checkRow c.r = 0) : mrgR ls = cntR (catk ls) := by
  have : orI ((catk ls).map ckC) = 0 := orI_zero.2 fun x hx => by obtain ⟨c, hc, rfl⟩ := List.mem_map.1 hx; exact h c hc
  unfold mrgR
  rw [if_neg (by rw [this]; decide)]
theorem mrg_ok {ls : List (List Ct)} (h : (mrgR ls).2 = 0) : (∀ c ∈ catk ls, checkRow c.r = 0) ∧ mrgR ls = cntR (catk ls) := by
  have h1 : ∀ c ∈ catk ls, checkRow c.r = 0 := by
    unfold mrgR at h
    split at h
    · rename_i hh
      simp only at h
      rw [h] at hh
      simp at hh
    · rename_i hh
      have h0 : orI ((catk ls).map ckC) = 0 := by simpa using hh
      exact fun c hc => orI_zero.1 h0 _ (List.mem_map.2 ⟨c, hc, rfl⟩)
  exact ⟨h1, mrg_of h1⟩
theorem mrg_col {L : List Ct} (hc : Col L) (hl : L.length ≤ 4294967296) : mrgR [L] = (L, 0) := by
  rw [mrg_of (by rw [catk_one]; exact fun c h => (hc.ok c h).1), catk_one, colK_cnt hc hl]
theorem ltC_trans {x y z : Ct} (h1 : ltC cmpK x y = true) (h2 : ltC cmpK y z = true) : ltC cmpK x z = true := by
  refine cmpK_ok.cmp.lt_le h1 ?_
  have := cmpK_ok.anti y z
  simp only [ltC, decide_eq_true_eq, decide_eq_false_iff_not] at h2 ⊢
  omega
theorem chk_col {l : List Ct} (h : chkK l = 0) (hg : ∀ c ∈ l, i64 c.n) : Col l := by
  have hb : ∀ i x, l[i]? = some x → bad3 l i x = false := by
    intro i x hx
    cases hq : bad3 l i x with
    | false => rfl
    | true => rw [chkK_bad hx hq] at h; cases h
  have hel : ∀ i (hi : i < l.length), bad3 l i l[i] = false := fun i hi => hb i _ (List.getElem?_eq_getElem hi)
  have adj : ∀ i (hi : i + 1 < l.length), ltC cmpK l[i] l[i + 1] = true := by
    intro i hi
    have := hel (i + 1) hi
    simp only [bad3, prevB, Bool.or_eq_false_iff, Bool.and_eq_false_iff, decide_eq_false_iff_not] at this
    have h3 := this.2.2
    rcases h3 with h3 | h3
    · omega
    · rw [Nat.add_sub_cancel, List.getD_eq_getElem?_getD, List.getElem?_eq_getElem (show i < l.length by omega)] at h3
      simp only [ltC, decide_eq_true_eq]
      show rowsC l[i].r l[i + 1].r < 0
      simp only [Option.getD_some] at h3
      omega
  have far : ∀ d i (hi : i + d + 1 < l.length), ltC cmpK (l[i]'(by omega)) l[i + d + 1] = true := by
    intro d
    induction d with
    | zero => intro i hi; exact adj i hi
    | succ d ih => intro i hi; exact ltC_trans (ih i (by omega)) (adj (i + d + 1) hi)
  refine ⟨List.pairwise_iff_getElem.2 fun i j hi hj hij => ?_, fun c hc => ?_⟩
  · have := far (j - i - 1) i (by omega)
    simpa [show i + (j - i - 1) + 1 = j by omega] using this
  · obtain ⟨i, hi⟩ := List.mem_iff_getElem?.1 hc
    have := hb i c hi
    simp only [bad3, Bool.or_eq_false_iff, beq_eq_false_iff_ne, bne_eq_false_iff_eq] at this
    exact ⟨this.2.1, this.1, hg c hc⟩
/-! ### each once -/
theorem row_eight {r : List Val} (h : checkRow r = 0) : r.length ≤ 8 := by
  unfold checkRow at h
  split at h
  · cases h
  · rename_i hb
    simp only [badRow, Bool.or_eq_true, decide_eq_true_eq, not_or] at hb
    omega
theorem sameBy_refl {α : Type} {f : α → α → Bool} (h : ∀ x, f x x = true) : ∀ l : List α, sameBy f l l = true
  | [] => rfl
  | x :: l => by rw [sameBy, h x, sameBy_refl h l]; rfl
theorem sameK_refl (x : Ct) : sameK x x = true := by
  have : sameV x.r x.r = true := sameBy_refl (fun v => by simp [Val.eqB]) _
  simp [sameK, diffK, this]
end Go.Proofs
end
section
namespace Go.Proofs
open Go.Flat
set_option maxRecDepth 100000
set_option linter.unusedVariables false
set_option linter.unusedSimpArgs false
attribute [local simp] Bool.and_assoc Bool.or_assoc evalG evalX efD skF guardG guardL isCall stepL evalOp ev evs lk tmpsL app AV.ok fresh vv putCells insV ins del putL place Go.Flat.look fillC fillR getCells loadF storeF binF scalarBin intBin strBin isShift shiftBin unF lenF maxF minF rowsF appendF builtinF idxF natOf sliceP sliceF optEv Flat.cut overwrite toPV toPVs constAV scalarC scalarCs AV.cells TI.isAgg allSome andAll scalarEq buildable Go.Flat.lim retQ resL resAll resOne PartOf noTmp closedIn refs refs.refsL isSomeV hasB ids leA leA.leL renA renA.renL callB refsAll backL dropIds renS LiesAt injB ownB freshB memN locId insAll leA_refl leL_refl okS frzS frzA frzA.frzL evalD feet fine updCells cellsFrom memP footRf footWf noTmpU updIds opOps opIds idsA footR footW guardTs opTs dstTs callR callW renLoc renC inBlockQ thenQ Value.oneCell' IntKind.bits IntKind.signed PV.up toPH toPHs
section
attribute [local simp] Pl.row_eq Pl.av
theorem lX_row : lX.row = [.v (.int .u8 1), .v (.int .i64 0), .ps [], .ps [], .ps [], .ps [], .v (.int .u8 0), .v (.int .i64 0)] := by simp [lX]
end
section
def ofR (er hv e : Int) (a : List Ct) : List Ct × Int := if er != 0 then ([], er) else if hv != 0 then ([], hv) else if e != 0 then ([], e) else mrgR [a]
theorem zs20_r (p : Pl) (ss : List (List Int)) (S : List (List Ct)) (tt : List Int) (er hv : Int) (h21 : Flat.Sp Tryz.prog 21 [p.av, .p (.ps (ss.map srow))] [] (.tup [.p (.ps (tt.map trow)), vv (.int .i64 er)]) []) (h63 : Flat.Sp Tryz.prog 63 [.p (.ps (S.map lrowk)), .p (.ps (ss.map srow))] [] (vv (.int .i64 hv)) []) (a : List Ct) (e : Int) (ha : Sml a) (h64 : (er != 0) = false → (hv != 0) = false → Flat.Sp Tryz.prog 64 [.ptr 0 0, p.av] [(.var 0, .n 3), (.cell 0 0, .av (vv (.int .i64 (0)))), (.cell 0 1, .av (.p (.ps (S.map lrowk)))), (.cell 0 2, .av (.psf []))] (.p (.ps (a.map Ct.row))) [(.var 0, .n 3), (.cell 0 0, .av (vv (.int .i64 (e)))), (.cell 0 1, .av (.p (.ps (S.map lrowk)))), (.cell 0 2, .av (.psf []))]) :
    Flat.Sp Tryz.prog 20 [p.av, .p (.ps (S.map lrowk)), .p (.ps (ss.map srow))] [] (.tup [.p (.ps ((ofR er hv e a).1.map Ct.row)), vv (.int .i64 (ofR er hv e a).2)]) [] := by
  obtain ⟨k, m, kids, ex, cols, wth, agg, rds⟩ := p
  refine zs20_s k m kids ex cols wth agg rds ss S tt er hv h21 h63 a e ha _ (fun h => ?_) (fun h h2 => ?_) (fun h h2 h3 => ?_) (fun h h2 h3 => ?_) h64
  · unfold ofR; rw [if_pos h]
  · unfold ofR; rw [if_neg (by rw [h]; decide), if_pos h2]
  · unfold ofR; rw [if_neg (by rw [h]; decide), if_neg (by rw [h2]; decide), if_pos h3]
  · unfold ofR; rw [if_neg (by rw [h]; decide), if_neg (by rw [h2]; decide), if_neg (by rw [h3]; decide)]
theorem have_zero {srcs : List (List Ct)} {ss : List (List Int)} (h : haveR srcs ss = 0) : ∀ l ∈ srcs, chkK l = 0 := by
  intro l hl
  unfold haveR at h
  split at h
  · rename_i hc; rw [h] at hc; simp at hc
  · split at h
    · cases h
    · rename_i hb
      simp only [List.any_eq_true, not_exists, not_and] at hb
      have := hb l hl
      simpa [badK] using this
theorem src_l (l : List Ct) : Flat.Sp Tryz.prog 64 [.ptr 0 0, lX.av] [(.var 0, .n 3), (.cell 0 0, .av (vv (.int .i64 (0)))), (.cell 0 1, .av (.p (.ps ([l].map lrowk)))), (.cell 0 2, .av (.psf []))] (.p (.ps (l.map Ct.row))) [(.var 0, .n 3), (.cell 0 0, .av (vv (.int .i64 (0)))), (.cell 0 1, .av (.p (.ps ([l].map lrowk)))), (.cell 0 2, .av (.psf []))] := zs64_src0 0 [l] 0 l rfl [] [] [] [] 0 0
end
end Go.Proofs
end
section
set_option linter.unusedVariables false
set_option linter.unusedSimpArgs false
namespace Go.Proofs
open Go.Flat Go.ChangeShapes Go.WideShapes Go.ChangeAt Go.RowKit
set_option linter.unusedVariables false
theorem cl2m : Tryz.prog.cellsOf 2 = 1 := by kernel_rfl
theorem cl31m : Tryz.prog.cellsOf 31 = 1 := by kernel_rfl
theorem cl71m : Tryz.prog.cellsOf 71 = 2 := by kernel_rfl
theorem list2m {α : Type} {l : List α} (h : l.length = 2) : ∃ a b, l = [a, b] := by
  match l, h with | [a, b], _ => exact ⟨a, b, rfl⟩
theorem shp_ct {d : Nat} {xs : List PV} (h : Shp Tryz.prog 1048576 d 71 xs) : ∃ c : Ct, xs = c.row ∧ (c.r.length ≤ Bnd ∧ i64 c.n) := by
  obtain ⟨hl, d, rfl, hf⟩ := shp_st h Tryz.underlying71
  rw [cl71m] at hl
  obtain ⟨a, b, rfl⟩ := list2m hl
  simp [cl31m, cl2m] at hf
  obtain ⟨h1, h2⟩ := hf
  obtain ⟨r, e1, hr, _⟩ := shp_row h1
  obtain ⟨n, e2, hn⟩ := shp_int h2 Tryz.underlying2
  simp only [List.cons.injEq, and_true] at e1 e2
  subst e1; subst e2
  exact ⟨⟨r, n⟩, rfl, hr, i64_wf hn⟩
theorem shp_cts {d : Nat} {xs : List PV} (h : Shp Tryz.prog 1048576 d 64 xs) : ∃ cs : List Ct, xs = [.ps (cs.map Ct.row)] ∧ (Sml cs ∧ cs.length ≤ Bnd ∧ ∀ c ∈ cs, i64 c.n) := by
  obtain ⟨rows, rfl, hl, d, rfl, hr⟩ := shp_sl h Tryz.underlying64
  obtain ⟨cs, rfl, hc⟩ := rows_of (row := Ct.row) (p := fun c => c.r.length ≤ Bnd ∧ i64 c.n) fun r hm => shp_ct (hr r hm)
  have hl' : cs.length ≤ Bnd := by simpa [Bnd] using hl
  exact ⟨cs, rfl, ⟨Nat.le_trans hl' (by decide), fun c h => (hc c h).1⟩, hl', fun c h => (hc c h).2⟩
end Go.Proofs
end
section
set_option linter.unusedVariables false
set_option linter.unusedSimpArgs false
namespace Go.Proofs
open Go.Flat
set_option linter.unusedSimpArgs false
set_option linter.unusedVariables false
def sgK (k : Int) : Int := if k == 6 then -1 else 1
def selK (k : Int) (ex : List E) (P : List Val → Bool) (r : List Val) : Bool := if k == 6 then P r else if k == 3 then P (evR ex r).1 else !(((evR ex r).1.getD 0 vZ).n == 0) && P r
theorem one_sum {k : Int} {ex : List E} {c : Ct} (hg : i64 c.n) (h : (oneM k ex c).2 = 0) (P : List Val → Bool) : sumP (fun c => P c.r) Ct.n (oneM k ex c).1 = sgK k * (if selK k ex P c.r then c.n else 0) := by
  unfold oneM at h ⊢
  unfold sgK selK
  by_cases h6 : (k == 6) = true
  · rw [if_pos h6] at h
    rw [if_pos h6, if_pos h6, if_pos h6]
    have := times_neg hg h
    rw [sumP_cons, sumP_nil]
    simp only [this]
    cases P c.r <;> simp
  · rw [if_neg h6] at h
    rw [if_neg h6, if_neg h6, if_neg h6]
    by_cases he : ((evR ex c.r).2 != 0) = true
    · rw [if_pos he] at h
      simp only at h
      rw [h] at he
      simp at he
    · rw [if_neg he]
      by_cases h3 : (k == 3) = true
      · rw [if_pos h3, if_pos h3, sumP_cons, sumP_nil]
        cases P (evR ex c.r).1 <;> simp
      · rw [if_neg h3, if_neg h3]
        by_cases hz : (((evR ex c.r).1.getD 0 vZ).n == 0) = true
        · rw [if_pos hz, hz]
          simp [sumP]
        · rw [if_neg hz, show (((evR ex c.r).1.getD 0 vZ).n == 0) = false by simpa using hz, sumP_cons, sumP_nil]
          cases P c.r <;> simp
theorem err_each {k : Int} {ex : List E} {L : List Ct} (h : oneErr k ex L = 0) : ∀ c ∈ L, (oneM k ex c).2 = 0 := fun c hc => orI_zero.1 h _ (List.mem_map.2 ⟨c, hc, rfl⟩)
theorem all_sum {k : Int} {ex : List E} : ∀ {L : List Ct}, (∀ c ∈ L, i64 c.n) → (∀ c ∈ L, (oneM k ex c).2 = 0) → ∀ P : List Val → Bool, sumP (fun c => P c.r) Ct.n (oneAll k ex L) = sgK k * sumP (fun c : Ct => selK k ex P c.r) Ct.n L
  | [], _, _, P => by simp [oneAll, sumP]
  | c :: L, hg, he, P => by
    have h1 := one_sum (hg c (by simp)) (he c (by simp)) P
    have h2 := all_sum (L := L) (fun x hx => hg x (by simp [hx])) (fun x hx => he x (by simp [hx])) P
    have e : oneAll k ex (c :: L) = (oneM k ex c).1 ++ oneAll k ex L := by simp [oneAll]
    rw [e, sumP_app, h1, h2, sumP_cons, Int.mul_add]
theorem oneM_i64 {k : Int} {ex : List E} {c : Ct} (hg : i64 c.n) : ∀ x ∈ (oneM k ex c).1, i64 x.n := by
  unfold oneM
  repeat' split
  · intro x hx; simp at hx; subst hx; exact times_i64 _ _
  · intro x hx; simp at hx
  · intro x hx; simp at hx; subst hx; exact hg
  · intro x hx; simp at hx
  · intro x hx; simp at hx; subst hx; exact hg
theorem oneAll_i64 {k : Int} {ex : List E} {L : List Ct} (hg : ∀ c ∈ L, i64 c.n) : ∀ x ∈ oneAll k ex L, i64 x.n := fun x hx => by
  obtain ⟨c, hc, hx⟩ := List.mem_flatMap.1 hx
  exact oneM_i64 (hg c hc) x hx
theorem TK_P (cs : List Ct) (r : Ct) : TK cs r = sumP (fun c : Ct => decide (rowsC r.r c.r = 0)) Ct.n cs := rfl
theorem each_ok {k : Int} {ex : List E} {L : List Ct} (h : (eachR k ex L).2 = 0) : oneErr k ex L = 0 ∧ (∀ c ∈ oneAll k ex L, checkRow c.r = 0) ∧ (cntR (oneAll k ex L)).2 = 0 ∧ eachR k ex L = cntR (oneAll k ex L) := by
  have h0 : oneErr k ex L = 0 := by
    unfold eachR at h
    split at h
    · exact h
    · rename_i hh; simpa using hh
  have e : eachR k ex L = mrgR [oneAll k ex L] := by unfold eachR; rw [if_neg (by rw [h0]; decide)]
  rw [e] at h
  obtain ⟨h1, h2⟩ := mrg_ok h
  rw [catk_one] at h1 h2
  exact ⟨h0, h1, by rw [← h2]; exact h, by rw [e, h2]⟩
theorem bnd_ex : ∀ L : List Ct, ∃ B, ∀ c ∈ L, c.r.length ≤ B
  | [] => ⟨0, by simp⟩
  | c :: L => by
    obtain ⟨B, h⟩ := bnd_ex L
    refine ⟨max B c.r.length, fun x hx => ?_⟩
    rcases List.mem_cons.1 hx with rfl | hx
    · omega
    · have := h x hx; omega
theorem cnt_len {L : List Ct} : (cntR L).1.length ≤ L.length := by
  obtain ⟨B, h⟩ := bnd_ex L
  exact (cnt_sms h).2
/-- The sums of what is made. -/
theorem sums_fin {k : Int} {ex : List E} {a b : List Ct} (ha : Col a) (hb : Col b) (la : a.length ≤ 1048576) (lb : b.length ≤ 1048576) (hab : (cntR (a ++ b)).2 = 0)
    (ea : (eachR k ex a).2 = 0) (eb : (eachR k ex b).2 = 0) (ez : (eachR k ex (cntR (a ++ b)).1).2 = 0) :
    mrgR [(eachR k ex a).1, (eachR k ex b).1] = ((eachR k ex (cntR (a ++ b)).1).1, 0) ∧ Col (eachR k ex a).1 ∧ Col (eachR k ex b).1 ∧ Col (eachR k ex (cntR (a ++ b)).1).1 := by
  have gab : ∀ c ∈ a ++ b, i64 c.n := fun c hc => by rcases List.mem_append.1 hc with h | h; exact (ha.ok c h).2.2; exact (hb.ok c h).2.2
  have rab : ∀ c ∈ a ++ b, checkRow c.r = 0 := fun c hc => by rcases List.mem_append.1 hc with h | h; exact (ha.ok c h).1; exact (hb.ok c h).1
  have lab : (a ++ b).length ≤ 4294967296 := by rw [List.length_append]; omega
  have hz := cnt_col gab lab rab hab
  have lz : (cntR (a ++ b)).1.length ≤ 2097152 := Nat.le_trans cnt_len (by rw [List.length_append]; omega)
  obtain ⟨a1, a2, a3, a4⟩ := each_ok ea
  obtain ⟨b1, b2, b3, b4⟩ := each_ok eb
  obtain ⟨z1, z2, z3, z4⟩ := each_ok ez
  have ga := oneAll_i64 (k := k) (ex := ex) (fun c hc => (ha.ok c hc).2.2)
  have gb := oneAll_i64 (k := k) (ex := ex) (fun c hc => (hb.ok c hc).2.2)
  have gz := oneAll_i64 (k := k) (ex := ex) (fun c hc => (hz.ok c hc).2.2)
  have lA := oneAll_len k ex a
  have lB := oneAll_len k ex b
  have lZ := oneAll_len k ex (cntR (a ++ b)).1
  have ca := cnt_col ga (by omega) a2 a3
  have cb := cnt_col gb (by omega) b2 b3
  have cz := cnt_col gz (by omega) z2 z3
  rw [a4, b4, z4]
  refine ⟨?_, ca, cb, cz⟩
  have lx := cnt_len (L := oneAll k ex a)
  have ly := cnt_len (L := oneAll k ex b)
  have lz2 := cnt_len (L := oneAll k ex (cntR (a ++ b)).1)
  have hc2 : catk [(cntR (oneAll k ex a)).1, (cntR (oneAll k ex b)).1] = (cntR (oneAll k ex a)).1 ++ (cntR (oneAll k ex b)).1 := by simp [catk]
  have rxy : ∀ c ∈ (cntR (oneAll k ex a)).1 ++ (cntR (oneAll k ex b)).1, checkRow c.r = 0 := fun c hc => by rcases List.mem_append.1 hc with h | h; exact (ca.ok c h).1; exact (cb.ok c h).1
  rw [mrg_of (by rw [hc2]; exact rxy), hc2]
  rw [← colK_cnt cz (by omega)]
  refine cnt_ext (fun c hc => by rcases List.mem_append.1 hc with h | h; exact (ca.ok c h).2.2; exact (cb.ok c h).2.2) (fun c hc => (cz.ok c hc).2.2) (by rw [List.length_append]; omega) (by omega) rxy (fun c hc => (cz.ok c hc).1) fun r => ?_
  rw [TK_P, TK_P, sumP_app]
  rw [cnt_sum ga (by omega) a2 a3 fun row => decide (rowsC r.r row = 0), cnt_sum gb (by omega) b2 b3 fun row => decide (rowsC r.r row = 0), cnt_sum gz (by omega) z2 z3 fun row => decide (rowsC r.r row = 0)]
  rw [all_sum (fun c hc => (ha.ok c hc).2.2) (err_each a1) fun row => decide (rowsC r.r row = 0), all_sum (fun c hc => (hb.ok c hc).2.2) (err_each b1) fun row => decide (rowsC r.r row = 0), all_sum (fun c hc => (hz.ok c hc).2.2) (err_each z1) fun row => decide (rowsC r.r row = 0)]
  rw [cnt_sum gab lab rab hab, sumP_app, Int.mul_add]
end Go.Proofs
end
section
namespace Go.Proofs
open Go.Flat
set_option maxRecDepth 100000
set_option linter.unusedVariables false
set_option linter.unusedSimpArgs false
attribute [local simp] Bool.and_assoc Bool.or_assoc evalG evalX efD skF guardG guardL isCall stepL evalOp ev evs lk tmpsL app AV.ok fresh vv putCells insV ins del putL place Go.Flat.look fillC fillR getCells loadF storeF binF scalarBin intBin strBin isShift shiftBin unF lenF maxF minF rowsF appendF builtinF idxF natOf sliceP sliceF optEv Flat.cut overwrite toPV toPVs constAV scalarC scalarCs AV.cells TI.isAgg allSome andAll scalarEq buildable Go.Flat.lim retQ resL resAll resOne PartOf noTmp closedIn refs refs.refsL isSomeV hasB ids leA leA.leL renA renA.renL callB refsAll backL dropIds renS LiesAt injB ownB freshB memN locId insAll leA_refl leL_refl okS frzS frzA frzA.frzL evalD feet fine updCells cellsFrom memP footRf footWf noTmpU updIds opOps opIds idsA footR footW guardTs opTs dstTs callR callW renLoc renC inBlockQ thenQ Value.oneCell' IntKind.bits IntKind.signed PV.up toPH toPHs
section
attribute [local simp] Pl.row_eq Pl.av
def selS (k : Int) (n : Nat) : Bool := ((n : Int) != 1) || ((k != 3) && ((k != 4) && (k != 6)))
attribute [local simp] Ct.row srow trow lrowk in
set_option maxHeartbeats 2000000 in
theorem zs6 (k m : Int) (kids : List Pl) (ex : List E) (cols wth : List Int) (agg rds : Int) (a b : List Ct) (ts : List Int) (both x y z : List Ct) (w0 w1 w2 w3 : Int) (h0 : Flat.Sp Tryz.prog 27 [.p (.ps [[.ps (a.map Ct.row)], [.ps (b.map Ct.row)]])] [] (.tup [.p (.ps (both.map Ct.row)), vv (.int .i64 w0)]) []) (h1 : selS k kids.length = false → Flat.Sp Tryz.prog 20 [(Pl.mk k m [lX] ex cols wth agg rds).av, .p (.ps [[.ps (a.map Ct.row)]]), .p (.ps [[.ps (ts.map trow)]])] [] (.tup [.p (.ps (x.map Ct.row)), vv (.int .i64 w1)]) []) (h2 : selS k kids.length = false → Flat.Sp Tryz.prog 20 [(Pl.mk k m [lX] ex cols wth agg rds).av, .p (.ps [[.ps (b.map Ct.row)]]), .p (.ps [[.ps (ts.map trow)]])] [] (.tup [.p (.ps (y.map Ct.row)), vv (.int .i64 w2)]) []) (h3 : selS k kids.length = false → Flat.Sp Tryz.prog 20 [(Pl.mk k m [lX] ex cols wth agg rds).av, .p (.ps [[.ps (both.map Ct.row)]]), .p (.ps [[.ps (ts.map trow)]])] [] (.tup [.p (.ps (z.map Ct.row)), vv (.int .i64 w3)]) []) (h4 : selS k kids.length = false → w0 = 0 → w1 = 0 → w2 = 0 → w3 = 0 → Flat.Sp Tryz.prog 27 [.p (.ps [[.ps (x.map Ct.row)], [.ps (y.map Ct.row)]])] [] (.tup [.p (.ps (z.map Ct.row)), vv (.int .i64 0)]) [] ∧ z.length ≤ Cap ∧ ∀ c ∈ z, c.r.length ≤ Bnd) : Flat.Sp Tryz.prog 6 [(Pl.mk k m kids ex cols wth agg rds).av, .p (.ps (a.map Ct.row)), .p (.ps (b.map Ct.row)), .p (.ps (ts.map trow))] [] (vv (.bool true)) [] := by
  refine sk Tryz.func6 ?_
  intro F G hn hG
  have s0 := zs26 0
  simp only [Pl.av, lX_row, List.map_cons, List.map_nil] at s0 h1 h2 h3
  refine sq ?_
  refine rg 1000 ?_
  refine pr [1, 5, 8, 105] ?_
  refine sq ?_
  refine sq ?_
  refine rc 2000 ?_
  refine oc id (zs19) ?_
  refine oe 2100 ?_
  refine on ?_
  refine pr [1, 5, 8, 20, 21, 105] ?_
  refine ce ?_
  refine k_skip ?_
  refine sq ?_
  refine sq ?_
  refine cv [(.tmp 40, vv (.bool (selS k kids.length)))] ?_ ?_
  · skip
    rcases q0 : (((kids.length : Int) != 1) : Bool) with _ | _
    · skip
      rcases q1 : (k != 3 : Bool) with _ | _
      · skip
        refine rc 4000 ?_ (h := by simp [*, selS, q0, q1]; exact is_rfl _)
        iterate 13 (first | refine gp 5250 ?_ (he := by intro hgg; (try simp only [Bool.and_eq_true] at hgg); simp [*, selS, q0, q1]; exact is_rfl _) | refine os ?_ | refine gt 5250 ?_ (he := by simp [*, selS, q0, q1]; exact is_rfl _))
        refine oe 5300 ?_ (h := by simp [*, selS, q0, q1]; exact is_rfl _)
        refine on ?_
        refine k_nil ?_
        refine ⟨rfl, ?_, ?_, ?_⟩ <;> simp [*, selS, q0, q1]
      · skip
        rcases q2 : (k != 4 : Bool) with _ | _
        · skip
          refine rc 1004000 ?_ (h := by simp [*, selS, q0, q1, q2]; exact is_rfl _)
          iterate 13 (first | refine gp 1005250 ?_ (he := by intro hgg; (try simp only [Bool.and_eq_true] at hgg); simp [*, selS, q0, q1, q2]; exact is_rfl _) | refine os ?_ | refine gt 1005250 ?_ (he := by simp [*, selS, q0, q1, q2]; exact is_rfl _))
          refine oe 1005300 ?_ (h := by simp [*, selS, q0, q1, q2]; exact is_rfl _)
          refine on ?_
          refine k_nil ?_
          refine ⟨rfl, ?_, ?_, ?_⟩ <;> simp [*, selS, q0, q1, q2]
        · skip
          refine rc 2004000 ?_ (h := by simp [*, selS, q0, q1, q2]; exact is_rfl _)
          iterate 13 (first | refine gp 2005250 ?_ (he := by intro hgg; (try simp only [Bool.and_eq_true] at hgg); simp [*, selS, q0, q1, q2]; exact is_rfl _) | refine os ?_ | refine gt 2005250 ?_ (he := by simp [*, selS, q0, q1, q2]; exact is_rfl _))
          refine oe 2005300 ?_ (h := by simp [*, selS, q0, q1, q2]; exact is_rfl _)
          refine on ?_
          refine k_nil ?_
          refine ⟨rfl, ?_, ?_, ?_⟩ <;> simp [*, selS, q0, q1, q2]
    · skip
      refine rc 3004000 ?_ (h := by simp [*, selS, q0]; exact is_rfl _)
      iterate 13 (first | refine gp 3005250 ?_ (he := by intro hgg; (try simp only [Bool.and_eq_true] at hgg); simp [*, selS, q0]; exact is_rfl _) | refine os ?_ | refine gt 3005250 ?_ (he := by simp [*, selS, q0]; exact is_rfl _))
      refine oe 3005300 ?_ (h := by simp [*, selS, q0]; exact is_rfl _)
      refine on ?_
      refine k_nil ?_
      refine ⟨rfl, ?_, ?_, ?_⟩ <;> simp [*, selS, q0]
  refine pr [1, 5, 8, 20, 40, 105] ?_
  refine cd ?_ ?_
  · intro h40_1
    refine sq ?_
    refine rg 5000 ?_
    refine pr [1, 5, 8, 20, 41, 105] ?_
    refine k_ret ?_
    show retQ _ _ _ _ _ _ _
    simp [*]
  · intro h40_1
    have f1 := h1 h40_1
    have f2 := h2 h40_1
    have f3 := h3 h40_1
    have h4b := h4 h40_1
    clear h1 h2 h3 h4 h40_1
    refine k_skip ?_
    refine sq ?_
    refine rc 6000 ?_
    refine oc id (s0) ?_
    refine oe 6100 ?_
    refine on ?_
    refine pr [1, 5, 8, 20, 44, 105] ?_
    refine sq ?_
    refine rc 7000 ?_
    refine oc id (h0) ?_
    refine oe 7100 ?_
    refine on ?_
    refine pr [1, 5, 8, 20, 51, 105] ?_
    refine sq ?_
    refine rg 8000 ?_
    refine pr [1, 3, 4, 5, 8, 20, 53, 105] ?_
    refine sq ?_
    refine rc 9000 ?_
    refine oc id (f1) ?_
    refine oe 9100 ?_
    refine on ?_
    refine pr [2, 3, 4, 5, 8, 20, 61, 105] ?_
    refine sq ?_
    refine rc 10000 ?_
    refine oc id (f2) ?_
    refine oe 10100 ?_
    refine on ?_
    refine pr [4, 5, 8, 20, 69, 105] ?_
    refine sq ?_
    refine rc 11000 ?_
    refine oc id (f3) ?_
    refine oe 11100 ?_
    refine on ?_
    refine pr [8, 9, 10, 11, 12, 20, 77, 105] ?_
    refine sq ?_
    refine sq ?_
    refine cv [(.tmp 90, vv (.bool ((w0 != 0) || ((w1 != 0) || ((w2 != 0) || (w3 != 0))))))] ?_ ?_
    · skip
      rcases q0 : (w0 != 0 : Bool) with _ | _
      · skip
        rcases q1 : (w1 != 0 : Bool) with _ | _
        · skip
          rcases q2 : (w2 != 0 : Bool) with _ | _
          · skip
            refine rc 12000 ?_ (h := by simp [*, q0, q1, q2]; exact is_rfl _)
            iterate 2 (first | refine gp 12150 ?_ (he := by intro hgg; (try simp only [Bool.and_eq_true] at hgg); simp [*, q0, q1, q2]; exact is_rfl _) | refine os ?_ | refine gt 12150 ?_ (he := by simp [*, q0, q1, q2]; exact is_rfl _))
            refine oe 12200 ?_ (h := by simp [*, q0, q1, q2]; exact is_rfl _)
            iterate 2 (first | refine gp 12350 ?_ (he := by intro hgg; (try simp only [Bool.and_eq_true] at hgg); simp [*, q0, q1, q2]; exact is_rfl _) | refine os ?_ | refine gt 12350 ?_ (he := by simp [*, q0, q1, q2]; exact is_rfl _))
            refine oe 12400 ?_ (h := by simp [*, q0, q1, q2]; exact is_rfl _)
            iterate 2 (first | refine gp 12550 ?_ (he := by intro hgg; (try simp only [Bool.and_eq_true] at hgg); simp [*, q0, q1, q2]; exact is_rfl _) | refine os ?_ | refine gt 12550 ?_ (he := by simp [*, q0, q1, q2]; exact is_rfl _))
            refine oe 12600 ?_ (h := by simp [*, q0, q1, q2]; exact is_rfl _)
            refine on ?_
            refine k_nil ?_
            refine ⟨rfl, ?_, ?_, ?_⟩ <;> simp [*, q0, q1, q2]
          · skip
            refine rc 1012000 ?_ (h := by simp [*, q0, q1, q2]; exact is_rfl _)
            iterate 2 (first | refine gp 1012150 ?_ (he := by intro hgg; (try simp only [Bool.and_eq_true] at hgg); simp [*, q0, q1, q2]; exact is_rfl _) | refine os ?_ | refine gt 1012150 ?_ (he := by simp [*, q0, q1, q2]; exact is_rfl _))
            refine oe 1012200 ?_ (h := by simp [*, q0, q1, q2]; exact is_rfl _)
            iterate 2 (first | refine gp 1012350 ?_ (he := by intro hgg; (try simp only [Bool.and_eq_true] at hgg); simp [*, q0, q1, q2]; exact is_rfl _) | refine os ?_ | refine gt 1012350 ?_ (he := by simp [*, q0, q1, q2]; exact is_rfl _))
            refine oe 1012400 ?_ (h := by simp [*, q0, q1, q2]; exact is_rfl _)
            iterate 2 (first | refine gp 1012550 ?_ (he := by intro hgg; (try simp only [Bool.and_eq_true] at hgg); simp [*, q0, q1, q2]; exact is_rfl _) | refine os ?_ | refine gt 1012550 ?_ (he := by simp [*, q0, q1, q2]; exact is_rfl _))
            refine oe 1012600 ?_ (h := by simp [*, q0, q1, q2]; exact is_rfl _)
            refine on ?_
            refine k_nil ?_
            refine ⟨rfl, ?_, ?_, ?_⟩ <;> simp [*, q0, q1, q2]
        · skip
          refine rc 2012000 ?_ (h := by simp [*, q0, q1]; exact is_rfl _)
          iterate 2 (first | refine gp 2012150 ?_ (he := by intro hgg; (try simp only [Bool.and_eq_true] at hgg); simp [*, q0, q1]; exact is_rfl _) | refine os ?_ | refine gt 2012150 ?_ (he := by simp [*, q0, q1]; exact is_rfl _))
          refine oe 2012200 ?_ (h := by simp [*, q0, q1]; exact is_rfl _)
          iterate 2 (first | refine gp 2012350 ?_ (he := by intro hgg; (try simp only [Bool.and_eq_true] at hgg); simp [*, q0, q1]; exact is_rfl _) | refine os ?_ | refine gt 2012350 ?_ (he := by simp [*, q0, q1]; exact is_rfl _))
          refine oe 2012400 ?_ (h := by simp [*, q0, q1]; exact is_rfl _)
          iterate 2 (first | refine gp 2012550 ?_ (he := by intro hgg; (try simp only [Bool.and_eq_true] at hgg); simp [*, q0, q1]; exact is_rfl _) | refine os ?_ | refine gt 2012550 ?_ (he := by simp [*, q0, q1]; exact is_rfl _))
          refine oe 2012600 ?_ (h := by simp [*, q0, q1]; exact is_rfl _)
          refine on ?_
          refine k_nil ?_
          refine ⟨rfl, ?_, ?_, ?_⟩ <;> simp [*, q0, q1]
      · skip
        refine rc 3012000 ?_ (h := by simp [*, q0]; exact is_rfl _)
        iterate 2 (first | refine gp 3012150 ?_ (he := by intro hgg; (try simp only [Bool.and_eq_true] at hgg); simp [*, q0]; exact is_rfl _) | refine os ?_ | refine gt 3012150 ?_ (he := by simp [*, q0]; exact is_rfl _))
        refine oe 3012200 ?_ (h := by simp [*, q0]; exact is_rfl _)
        iterate 2 (first | refine gp 3012350 ?_ (he := by intro hgg; (try simp only [Bool.and_eq_true] at hgg); simp [*, q0]; exact is_rfl _) | refine os ?_ | refine gt 3012350 ?_ (he := by simp [*, q0]; exact is_rfl _))
        refine oe 3012400 ?_ (h := by simp [*, q0]; exact is_rfl _)
        iterate 2 (first | refine gp 3012550 ?_ (he := by intro hgg; (try simp only [Bool.and_eq_true] at hgg); simp [*, q0]; exact is_rfl _) | refine os ?_ | refine gt 3012550 ?_ (he := by simp [*, q0]; exact is_rfl _))
        refine oe 3012600 ?_ (h := by simp [*, q0]; exact is_rfl _)
        refine on ?_
        refine k_nil ?_
        refine ⟨rfl, ?_, ?_, ?_⟩ <;> simp [*, q0]
    refine pr [8, 9, 12, 13, 14, 15, 16, 17, 18, 20, 90, 105] ?_
    refine cd ?_ ?_
    · intro h90_2
      clear h90_2 h4b
      refine sq ?_
      refine rg 13000 ?_
      refine pr [8, 9, 12, 13, 14, 15, 16, 17, 18, 20, 91, 105] ?_
      refine k_ret ?_
      show retQ _ _ _ _ _ _ _
      simp [*]
    · intro h90_2
      simp only [Bool.or_eq_false_iff, bne_eq_false_iff_eq] at h90_2
      obtain ⟨z0, z1, z2, z3⟩ := h90_2
      obtain ⟨f4, z5, z6⟩ := h4b z0 z1 z2 z3
      have h52 : Flat.Sp Tryz.prog 25 [.p (.ps (z.map Ct.row)), .p (.ps (z.map Ct.row))] [] (vv (.bool true)) [] := by have := spec52 z z (Nat.le_trans z5 (by decide)) (Nat.le_trans z5 (by decide)) (fun c hc => Nat.le_trans (z6 c hc) (by decide)) (fun c hc => Nat.le_trans (z6 c hc) (by decide)); rw [sameBy_refl sameK_refl] at this; exact this
      clear h4b
      refine k_skip ?_
      refine sq ?_
      refine rc 14000 ?_
      refine oc id (f4) ?_
      refine oe 14100 ?_
      refine on ?_
      refine pr [8, 9, 16, 17, 18, 20, 98, 105] ?_
      refine sq ?_
      refine rc 15000 ?_
      iterate 2 (first | refine gp 15150 ?_ | refine os ?_ | refine gt 15150 ?_)
      refine og (fun hg => h52) ?_
      refine oe 15300 ?_
      refine on ?_
      refine pr [8, 9] ?_
      refine k_ret ?_
      show retQ _ _ _ _ _ _ _
      simp [*]

theorem sel_k {k : Int} {n : Nat} (h : selS k n = false) : k = 3 ∨ k = 4 ∨ k = 6 := by
  simp only [selS, Bool.or_eq_false_iff, Bool.and_eq_false_iff, bne_eq_false_iff_eq] at h
  rcases h.2 with h | h | h
  · exact .inl h
  · exact .inr (.inl h)
  · exact .inr (.inr h)

/-- What a filter, a map, a negation of a source comes to. -/
theorem lin_of {k m : Int} {ex : List E} {cols wth : List Int} {agg rds : Int} (hk : k = 3 ∨ k = 4 ∨ k = 6) (hb : (Pl.mk k m [lX] ex cols wth agg rds).bnd) (ts : List Int) (a : List Ct) (ha : Sml a) :
    Flat.Sp Tryz.prog 20 [(Pl.mk k m [lX] ex cols wth agg rds).av, .p (.ps ([a].map lrowk)), .p (.ps ([ts].map srow))] [] (.tup [.p (.ps ((ofR (inferP [ts] (Pl.mk k m [lX] ex cols wth agg rds)).2 (haveR [a] [ts]) (eachR k ex a).2 (eachR k ex a).1).1.map Ct.row)), vv (.int .i64 (ofR (inferP [ts] (Pl.mk k m [lX] ex cols wth agg rds)).2 (haveR [a] [ts]) (eachR k ex a).2 (eachR k ex a).1).2)]) [] := by
  have hb0 := hb
  rw [Pl.bnd] at hb
  have hsm : Sml (eachR k ex a).1 := by
    unfold eachR
    split
    · exact ⟨by simp, by simp⟩
    · exact mrg_sml (oneAll_sml hb.2.1 ha)
  refine zs20_r _ [ts] [a] _ _ _ (spec29 _ hb0 [ts]) (zs63 [a] (by show 1 ≤ Cap; decide) (by intro x hx; simp at hx; rw [hx]; exact ha) [ts]) _ _ hsm fun he _ => ?_
  have h0 : (inferP [ts] (Pl.mk k m [lX] ex cols wth agg rds)).2 = 0 := by simpa using he
  have hg := Pl.good_gd _ 1 (checkP_good (inferP_zero h0).2.1)
  have hf := hg.1
  rw [Pl.gd] at hf
  have h4 := (formed_shape hf.1).2
  have hsrc := src_l a
  rcases hk with rfl | rfl | rfl
  · exact zs64_lin0 [a] 3 m ex cols wth agg rds 1 0 [] [] [] [] 0 0 rfl rfl rfl rfl rfl rfl rfl hb.2.1 (fun _ h => by cases h) a ha hsrc
  · exact zs64_lin0 [a] 4 m ex cols wth agg rds 1 0 [] [] [] [] 0 0 rfl rfl rfl rfl rfl rfl rfl hb.2.1 (fun _ _ => h4 rfl) a ha hsrc
  · exact zs64_lin0 [a] 6 m ex cols wth agg rds 1 0 [] [] [] [] 0 0 rfl rfl rfl rfl rfl rfl rfl hb.2.1 (fun h => by cases h) a ha hsrc
theorem ofR_zero {er hv e : Int} {a : List Ct} (h : (ofR er hv e a).2 = 0) : er = 0 ∧ hv = 0 ∧ e = 0 ∧ ofR er hv e a = mrgR [a] := by
  unfold ofR at h
  by_cases h1 : (er != 0) = true
  · rw [if_pos h1] at h; simp only at h; rw [h] at h1; simp at h1
  · rw [if_neg h1] at h
    by_cases h2 : (hv != 0) = true
    · rw [if_pos h2] at h; simp only at h; rw [h] at h2; simp at h2
    · rw [if_neg h2] at h
      by_cases h3 : (e != 0) = true
      · rw [if_pos h3] at h; simp only at h; rw [h] at h3; simp at h3
      · refine ⟨by simpa using h1, by simpa using h2, by simpa using h3, ?_⟩
        unfold ofR
        rw [if_neg h1, if_neg h2, if_neg h3]
theorem zs6_all (k m : Int) (kids : List Pl) (ex : List E) (cols wth : List Int) (agg rds : Int) (hb : (Pl.mk k m kids ex cols wth agg rds).bnd) (a b : List Ct) (ha : Sml a) (hb2 : Sml b) (la : a.length ≤ Bnd) (lb : b.length ≤ Bnd) (ga : ∀ c ∈ a, i64 c.n) (gb : ∀ c ∈ b, i64 c.n) (ts : List Int) :
    Flat.Sp Tryz.prog 6 [(Pl.mk k m kids ex cols wth agg rds).av, .p (.ps (a.map Ct.row)), .p (.ps (b.map Ct.row)), .p (.ps (ts.map trow))] [] (vv (.bool true)) [] := by
  have hcc : (catk [a, b]).length ≤ Cap ∧ ∀ c ∈ catk [a, b], c.r.length ≤ Bnd := by
    have e : catk [a, b] = a ++ b := by simp [catk]
    rw [e]
    refine ⟨by rw [List.length_append]; simp only [Bnd] at la lb; simp only [Cap]; omega, fun c hc => by rcases List.mem_append.1 hc with h | h; exact ha.2 c h; exact hb2.2 c h⟩
  have h0 := zs27 [a, b] (by show 2 ≤ Cap; decide) hcc.1 hcc.2
  have hbP : (Pl.mk k m [lX] ex cols wth agg rds).bnd := by
    rw [Pl.bnd] at hb ⊢
    exact ⟨by show 1 ≤ Bnd; decide, hb.2.1, hb.2.2.1, hb.2.2.2.1, by simp [lX, Pl.bnd, Pl.bndL, Bnd]⟩
  have hm : Sml (mrgR [a, b]).1 := by
    unfold mrgR
    split
    · exact ⟨by simp, by simp⟩
    · have := cnt_sms (cs := catk [a, b]) hcc.2
      exact ⟨Nat.le_trans this.2 hcc.1, this.1⟩
  refine zs6 k m kids ex cols wth agg rds a b ts _ _ _ _ _ _ _ _ h0 (fun h => lin_of (sel_k h) hbP ts a ha) (fun h => lin_of (sel_k h) hbP ts b hb2) (fun h => lin_of (sel_k h) hbP ts _ hm) fun h z0 z1 z2 z3 => ?_
  obtain ⟨i1, v1, e1, r1⟩ := ofR_zero z1
  obtain ⟨-, v2, e2, r2⟩ := ofR_zero z2
  obtain ⟨-, v3, e3, r3⟩ := ofR_zero z3
  have ca := chk_col (have_zero v1 a (by simp)) ga
  have cb := chk_col (have_zero v2 b (by simp)) gb
  obtain ⟨-, hab⟩ := mrg_ok z0
  have eab : catk [a, b] = a ++ b := by simp [catk]
  rw [eab] at hab
  rw [hab] at z0 e3
  have la' : a.length ≤ 1048576 := la
  have lb' : b.length ≤ 1048576 := lb
  obtain ⟨fin, cx, cy, cz⟩ := sums_fin ca cb la' lb' z0 e1 e2 e3
  have len : ∀ L : List Ct, L.length ≤ 2097152 → (eachR k ex L).2 = 0 → (eachR k ex L).1.length ≤ 2097152 := fun L hL h => by
    obtain ⟨-, -, -, q⟩ := each_ok h
    rw [q]
    exact Nat.le_trans cnt_len (Nat.le_trans (oneAll_len k ex L) hL)
  have lz := len (cntR (a ++ b)).1 (Nat.le_trans cnt_len (by rw [List.length_append]; omega)) e3
  rw [r1, r2, r3, hab, mrg_col cx (by have := len a (by omega) e1; omega), mrg_col cy (by have := len b (by omega) e2; omega), mrg_col cz (by omega)]
  have q := zs27 [(eachR k ex a).1, (eachR k ex b).1] (by show 2 ≤ Cap; decide) (by simp only [catk, List.flatten_cons, List.flatten_nil, List.length_append, List.length_nil]; have := len a (by omega) e1; have := len b (by omega) e2; simp only [Cap]; omega) (by
    intro c hc
    simp only [catk, List.flatten_cons, List.flatten_nil, List.append_nil, List.mem_append] at hc
    rcases hc with hc | hc
    · exact Nat.le_trans (row_eight (cx.ok c hc).1) (by decide)
    · exact Nat.le_trans (row_eight (cy.ok c hc).1) (by decide))
  rw [fin] at q
  exact ⟨q, by simp only [Cap]; omega, fun c hc => Nat.le_trans (row_eight (cz.ok c hc).1) (by decide)⟩
end
end Go.Proofs
end
