/-
  Contracts: what a plan makes of an update.
  Contracts: keys, and loops.
  Contracts: into loops, and out of them.
  Contracts: out of loops, and round.
-/
import Derived.Test.YtgkkoeodinlffaaPartH
section
set_option linter.unusedVariables false
set_option linter.unusedSimpArgs false
namespace Go.Proofs
open Go.Flat
set_option maxRecDepth 100000
set_option linter.unusedSimpArgs false
set_option linter.unusedVariables false
attribute [local simp] Bool.and_assoc Bool.or_assoc evalG evalX efD skF guardG guardL isCall stepL evalOp ev evs lk tmpsL app AV.ok fresh vv putCells insV ins del putL place Go.Flat.look fillC fillR getCells loadF storeF binF scalarBin intBin strBin isShift shiftBin unF lenF maxF minF rowsF appendF builtinF idxF natOf sliceP sliceF optEv Flat.cut overwrite toPV toPVs constAV scalarC scalarCs AV.cells TI.isAgg allSome andAll scalarEq buildable Go.Flat.lim retQ resL resAll resOne PartOf noTmp closedIn refs refs.refsL isSomeV hasB ids leA leA.leL renA renA.renL callB refsAll backL dropIds renS LiesAt injB ownB freshB memN locId insAll leA_refl leL_refl okS frzS frzA frzA.frzL evalD feet fine updCells cellsFrom memP footRf footWf noTmpU updIds opOps opIds idsA footR footW guardTs opTs dstTs callR callW renLoc renC inBlockQ thenQ Value.oneCell' IntKind.bits IntKind.signed

def zeroN (v : Val) : Bool := v.n == 0
def evErr (ex : List E) (row : List Val) : Int := orI (ex.map fun e => (evalE row e).2)
def evVal (row : List Val) (e : E) : Val := (evalE row e).1
/-- What some expressions come to. -/
def evR (ex : List E) (row : List Val) : List Val × Int := if evErr ex row != 0 then ([], evErr ex row) else (ex.map (evVal row), 0)
/-- A row, and how often it is there. -/
structure Ct where
  r : List Val
  n : Int
def Ct.row (c : Ct) : List PV := [.ps (c.r.map Val.row), .v (.int .i64 c.n)]
@[simp] theorem Ct.row_len (c : Ct) : c.row.length = 2 := rfl
def Ct.av (c : Ct) : AV := .agg (c.row.map .p)
def Ct.zero : Ct := ⟨[], 0⟩
def oneM (k : Int) (ex : List E) (c : Ct) : List Ct × Int :=
  if k == 6 then ([⟨c.r, (timesR c.n (-1)).1⟩], (timesR c.n (-1)).2)
  else if (evR ex c.r).2 != 0 then ([], (evR ex c.r).2)
  else if k == 3 then ([⟨(evR ex c.r).1, c.n⟩], 0)
  else if ((evR ex c.r).1.getD 0 vZ).n == 0 then ([], 0) else ([c], 0)
def sevR (ex : List E) (u : Up) : List Up × Bool :=
  if (evR ex u.r).2 != 0 || checkRow (evR ex u.r).1 != 0 then ([], false) else if (evR ex u.r).1.any zeroN then ([], true) else ([u], true)
def Up.bare (u : Up) : Up := ⟨[], u.r, u.t, u.d⟩
def Up.ofC (t : Tm) (c : Ct) : Up := ⟨[], c.r, t, c.n⟩
def badC (l : List Ct) : Bool := l.any fun c => checkRow c.r != 0
def oneR (k : Int) (ex : List E) (u : Up) : List Up × Bool :=
  if k == 5 then ([u.bare], true)
  else if k == 4 && (((ex.length : Nat) : Int) != 1) then sevR ex u.bare
  else if (oneM k ex ⟨u.r, u.d⟩).2 != 0 then ([], false)
  else if badC (oneM k ex ⟨u.r, u.d⟩).1 then ([], false) else ((oneM k ex ⟨u.r, u.d⟩).1.map (Up.ofC u.t), true)
theorem evR_len (ex : List E) (row : List Val) : (evR ex row).1.length ≤ ex.length := by
  unfold evR
  split <;> simp
theorem oneM_len (k : Int) (ex : List E) (c : Ct) : (oneM k ex c).1.length ≤ 1 := by
  unfold oneM
  repeat' split
  all_goals simp
theorem oneM_rows (k : Int) (ex : List E) (c : Ct) (he : ex.length ≤ Bnd) (hc : c.r.length ≤ Bnd) : ∀ x ∈ (oneM k ex c).1, x.r.length ≤ Bnd := by
  intro x hx
  have := evR_len ex c.r
  unfold oneM at hx
  repeat' split at hx
  all_goals simp at hx
  all_goals subst hx
  all_goals first | exact hc | (simp only; omega)
theorem any_take {α : Type} {p : α → Bool} {l : List α} {i : Nat} {x : α} (h : l[i]? = some x) : (l.drop i).any p = (p x || (l.drop (i + 1)).any p) := by rw [drop_at h]; rfl

theorem fill_z {α : Type} {z x : α} {n i : Nat} (h : i < n) : (List.replicate (n - i) z).set 0 x = x :: List.replicate (n - (i + 1)) z := by
  rw [show n - i = (n - (i + 1)) + 1 by omega, List.replicate_succ]; rfl
theorem evR_one {ex : List E} {row : List Val} (h : ex.length = 1) (h2 : ((evR ex row).2 != 0) = false) : (evR ex row).1.length = 1 := by
  unfold evR at h2 ⊢
  split at h2
  · rename_i h3; rw [h3] at h2; exact absurd h2 (by simp)
  · rename_i h3; rw [if_neg h3]; simp [h]
theorem one_of {k : Int} {n : Nat} (hk : k = 3 ∨ k = 4 ∨ k = 5 ∨ k = 6) (h5 : (k == 5) = false) (h4 : (k == 4 && (((n : Nat) : Int) != 1)) = false) (h6 : (k == 6) = false) (h3 : (k == 3) = false) : n = 1 := by
  simp only [beq_eq_false_iff_ne, ne_eq] at h5 h6 h3
  obtain rfl : k = 4 := by omega
  simp at h4
  omega

attribute [local simp] Val.av zeroN in
theorem spec183 (v : Val) : Flat.Sp Try.prog 183 [v.av] [] (vv (.bool (zeroN v))) [] := by
  refine sk Try.func183 ?_
  intro F G hn hG
  refine sq ?_
  refine rg 1000 ?_
  refine pr [1, 2, 3, 4, 5] ?_
  refine sq ?_
  refine rg 2000 ?_
  refine pr [2] ?_
  refine k_ret ?_
  show retQ _ _ _ _ _ _ _
  simp [*]

attribute [local simp] Val.row Val.av in
theorem spec157z (xs : List Val) (hlen : xs.length ≤ Flat.lim) : Flat.Sp Try.prog 157 [.p (.ps (xs.map Val.row)), .fn (.func 183) []] [] (vv (.int .i64 (firstP zeroN xs 0))) [] := by
  refine sk Try.func157 ?_
  intro F G hn hG
  refine sq ?_
  refine rg 1000 ?_
  refine pr [0, 1, 4, 5, 6, 7, 8, 9, 10, 11, 12, 13, 14, 15, 16, 17, 18] ?_
  refine sq ?_
  refine sq ?_
  refine rg 2000 ?_
  refine pr [0, 1, 4, 5, 7, 8, 9, 10, 11, 12, 13, 14, 15, 16, 17, 18] ?_
  refine k_block ?_
  refine k_loop (fun n l => ∃ i, i + n = xs.length ∧ (firstP zeroN xs 0 = firstP zeroN (xs.drop i) i) ∧ l = [(.tmp 0, .av (.p (.ps (xs.map Val.row)))), (.tmp 1, .av (.fn (.func 183) [])), (.tmp 7, .av (vv (.int .i64 xs.length))), (.tmp 8, .av (vv (.int .i64 i)))]) (xs.length) hG ⟨_, ⟨by simp, by simp, by simp⟩, 0, by simp, rfl, rfl⟩ ?_
  rintro n _ ⟨i, hin, hfa, rfl⟩
  have hwi : i < Flat.lim → IntKind.i64.wrap ((i : Int) + 1) = (i : Int) + 1 := wrap_succ
  refine sq ?_
  refine rg 3000 ?_
  refine pr [0, 1, 4, 5, 7, 8, 9, 10, 11, 12, 13, 14, 15, 16, 17, 18] ?_
  refine sq ?_
  refine cd ?_ ?_
  · intro h9_1
    have hlt : i < xs.length := by simpa using h9_1
    obtain ⟨x, hxe⟩ : ∃ x, xs[i] = x := ⟨_, rfl⟩
    have hx : xs[i]? = some x := by simp [hlt, hxe]
    have hfd := firstP_drop (p := zeroN) hx
    have hwi := hwi (by omega)
    refine k_skip ?_
    refine sq ?_
    refine k_block ?_
    refine sq ?_
    refine rg 4000 ?_
    refine pr [0, 1, 4, 5, 7, 8, 9, 10, 11, 12, 13, 14, 15, 16, 17, 18] ?_
    refine sq ?_
    refine rc 5000 ?_
    refine oc id (spec183 x) ?_
    refine on ?_
    refine pr [0, 1, 4, 5, 7, 8, 9, 10, 11, 12, 13, 14, 15, 16, 17, 18] ?_
    refine cd ?_ ?_
    · intro h16_2
      have hr : zeroN x = true := by simpa using h16_2
      refine sq ?_
      refine rg 6000 ?_
      refine pr [0, 1, 4, 5, 7, 8, 9, 10, 11, 12, 13, 14, 15, 16, 17, 18] ?_
      refine k_ret ?_
      show retQ _ _ _ _ _ _ _
      simp [*]
    · intro h16_2
      have hr : zeroN x = false := by simpa using h16_2
      refine k_skip ?_
      refine k_nil ?_
      show AK _ _ _ _ _ _
      refine rg 7000 ?_
      refine k_nil ?_
      refine ⟨n - 1, by omega, _, ⟨?_, ?_, ?_⟩, i + 1, by omega, by rw [hfa, hfd, hr, if_neg (by simp)], rfl⟩ <;> simp [*]
  · intro h9_1
    have hge : xs.length ≤ i := by simpa using h9_1
    have hfe : firstP zeroN (xs.drop i) i = -1 := by rw [List.drop_eq_nil_of_le hge]; rfl
    refine k_exit ?_
    show AK _ _ _ _ _ _
    refine sq ?_
    refine rg 8000 ?_
    refine pr [4] ?_
    refine k_ret ?_
    show retQ _ _ _ _ _ _ _
    simp [*]

attribute [local simp] firstP_any in
theorem spec101z (xs : List Val) (hlen : xs.length ≤ Flat.lim) : Flat.Sp Try.prog 101 [.p (.ps (xs.map Val.row)), .fn (.func 183) []] [] (vv (.bool (xs.any zeroN))) [] := by
  refine sk Try.func101 ?_
  intro F G hn hG
  refine sq ?_
  refine rg 1000 ?_
  refine pr [0, 1, 4, 5, 6, 7, 8] ?_
  refine sq ?_
  refine rc 2000 ?_
  refine oc id (spec157z xs hlen) ?_
  refine oe 2100 ?_
  refine on ?_
  refine pr [4] ?_
  refine k_ret ?_
  show retQ _ _ _ _ _ _ _
  simp [*]

attribute [local simp] E.av Val.row Val.av vZ in
theorem spec182 (ex : List E) (he : ex.length ≤ Bnd) (row : List Val) (hrow : row.length ≤ Flat.lim) : Flat.Sp Try.prog 182 [.p (.ps (ex.map E.row)), .p (.ps (row.map Val.row))] [] (.tup [.p (.ps ((evR ex row).1.map Val.row)), vv (.int .i64 (evR ex row).2)]) [] := by
  refine sk Try.func182 ?_
  intro F G hn hG
  have he1 : ex.length ≤ 140737488355328 := by simp only [Bnd] at he; omega
  have he2 : ex.length * 32 ≤ 140737488355328 := by simp only [Bnd] at he; omega
  have he3 : ex.length ≤ Flat.lim := he1
  obtain ⟨vs, hvs⟩ : ∃ vs, ex.map (evVal row) = vs := ⟨_, rfl⟩
  have hvl : vs.length = ex.length := by rw [← hvs, List.length_map]
  refine sq ?_
  refine rg 1000 ?_
  refine pr [0, 1, 4, 5, 6, 7, 8, 9, 10, 11, 12, 13, 14, 15, 16, 17, 18, 19, 20, 21, 22, 23, 24, 25, 26, 27, 28, 29, 30, 31, 32, 33, 34, 35] ?_
  refine sq ?_
  refine rg 2000 ?_
  refine pr [0, 1, 4, 5, 6, 7, 8, 9, 10, 14, 15, 16, 17, 18, 19, 20, 21, 22, 23, 24, 25, 26, 27, 28, 29, 30, 31, 32, 33, 34, 35] ?_
  refine sq ?_
  refine sq ?_
  refine rg 3000 ?_
  refine pr [1, 4, 5, 6, 7, 8, 9, 10, 14, 15, 16, 17, 18, 19, 20, 21, 22, 23, 24, 25, 26, 27, 28, 29, 30, 31, 32, 33, 34, 35] ?_
  refine k_block ?_
  refine k_loop (fun n l => ∃ i, i + n = ex.length ∧ (orI ((ex.map fun e => (evalE row e).2).drop i) = evErr ex row) ∧ l = [(.tmp 1, .av (.p (.ps (row.map Val.row)))), (.tmp 6, .av (.sl 2002 ex.length 0 ex.length)), (.tmp 14, .av (.p (.ps (ex.map E.row)))), (.tmp 15, .av (vv (.int .i64 ex.length))), (.tmp 16, .av (vv (.int .i64 i))), (.arr 2002, .arr 24 3 ((vs.map Val.row).take i ++ List.replicate (ex.length - i) vZ.row) 0)]) (ex.length) hG ⟨_, ⟨by simp, by simp, by simp⟩, 0, by simp, rfl, rfl⟩ ?_
  rintro n _ ⟨i, hin, hfa, rfl⟩
  have hcm := hfa
  refine sq ?_
  refine rg 4000 ?_
  refine pr [1, 4, 5, 6, 7, 8, 9, 10, 14, 15, 16, 17, 18, 19, 20, 21, 22, 23, 24, 25, 26, 27, 28, 29, 30, 31, 32, 33, 34, 35] ?_
  refine sq ?_
  refine cd ?_ ?_
  · intro h17_1
    have hlt : i < ex.length := by simpa using h17_1
    obtain ⟨x, hxe⟩ : ∃ x, ex[i] = x := ⟨_, rfl⟩
    have hx : ex[i]? = some x := by simp [hlt, hxe]
    have hw := wrap_succ (show i < Flat.lim by omega)
    rw [orI_drop (show (ex.map fun e => (evalE row e).2)[i]? = some (evalE row x).2 by simp [hx])] at hcm
    have hvx : vs[i]? = some (evVal row x) := by rw [← hvs]; simp [hx]
    have hmi : min i ex.length = i := by omega
    have hil : i + (ex.length - i) = ex.length := by omega
    obtain ⟨eo, ec, ev, ek⟩ := x
    obtain ⟨v, hv⟩ : ∃ v, evalE row (E.mk eo ec ev ek) = v := ⟨_, rfl⟩
    obtain ⟨v, y⟩ := v
    simp only [evVal, hv] at hvx hcm
    have htm := tmap_succ (f := Val.row) hvx
    have hset := fill_z (z := vZ.row) (x := v.row) hlt
    simp only [Val.row, vZ] at htm hset
    refine k_skip ?_
    refine sq ?_
    refine k_block ?_
    refine sq ?_
    refine rg 5000 ?_ (h := by simp [*, E.row_eq]; exact is_rfl _)
    refine pr [1, 4, 5, 6, 7, 8, 9, 10, 14, 15, 16, 17, 18, 19, 20, 21, 22, 23, 24, 25, 26, 27, 28, 29, 30, 31, 32, 33, 34, 35] ?_
    refine sq ?_
    refine rc 6000 ?_
    refine oc id (spec23 row hrow (E.mk eo ec ev ek)) ?_
    refine oe 6100 ?_
    refine on ?_
    refine pr [1, 4, 5, 6, 7, 8, 9, 10, 14, 15, 16, 17, 18, 19, 20, 21, 22, 23, 24, 25, 26, 27, 28, 29, 30, 31, 32, 33, 34, 35] ?_
    refine sq ?_
    refine sq ?_
    refine rg 7000 ?_
    refine pr [1, 4, 5, 6, 7, 8, 9, 10, 14, 15, 16, 17, 18, 19, 20, 21, 22, 23, 24, 25, 26, 27, 28, 29, 30, 31, 32, 33, 34, 35] ?_
    refine cd ?_ ?_
    · intro h28_2
      have h2 : (y != 0) = true := h28_2
      rw [h2] at hcm
      have hev0 : evErr ex row = y := by simpa using hcm.symm
      have hevR : evR ex row = ([], y) := by rw [evR, hev0, h2]; rfl
      refine sq ?_
      refine rg 8000 ?_
      refine pr [1, 4, 5, 6, 7, 8, 9, 10, 14, 15, 16, 17, 18, 19, 20, 21, 22, 23, 24, 25, 26, 27, 28, 29, 30, 31, 32, 33, 34, 35] ?_
      refine k_ret ?_
      show retQ _ _ _ _ _ _ _
      simp [*]
    · intro h28_2
      have h2 : (y != 0) = false := h28_2
      rw [h2] at hcm
      have hnext : orI ((ex.map fun e => (evalE row e).2).drop (i + 1)) = evErr ex row := by simpa using hcm
      refine k_skip ?_
      refine rg 9000 ?_
      refine k_nil ?_
      show AK _ _ _ _ _ _
      refine rg 10000 ?_
      refine k_nil ?_
      refine ⟨n - 1, by omega, _, ⟨?_, ?_, ?_⟩, i + 1, by omega, hnext, rfl⟩ <;> simp [*]
  · intro h17_1
    have hge : ex.length ≤ i := by simpa using h17_1
    obtain rfl : i = ex.length := by omega
    rw [List.drop_eq_nil_of_le (by simp)] at hcm
    have hev0 : evErr ex row = 0 := hcm.symm
    have hevR : evR ex row = (vs, 0) := by rw [evR, hev0, hvs]; rfl
    have htk2 : (vs.map Val.row).take ex.length = vs.map Val.row := List.take_of_length_le (by simp [hvl])
    refine k_exit ?_
    show AK _ _ _ _ _ _
    refine sq ?_
    refine rg 11000 ?_
    refine pr [4, 5] ?_
    refine fz 2002 ?_
    refine k_ret ?_
    show retQ _ _ _ _ _ _ _
    simp [*]

attribute [local simp] Pl.av Ct.av Ct.row in
theorem spec139 (k n : Int) (kids : List Pl) (ex : List E) (cols wth : List Int) (agg rds : Int) (he : ex.length ≤ Bnd) (hk4 : (k == 6) = false → (k == 3) = false → ex.length = 1) (c : Ct) (hc : c.r.length ≤ Flat.lim) : Flat.Sp Try.prog 139 [(Pl.mk k n kids ex cols wth agg rds).av, c.av] [] (.tup [.p (.ps ((oneM k ex c).1.map Ct.row)), vv (.int .i64 (oneM k ex c).2)]) [] := by
  refine sk Try.func139 ?_
  intro F G hn hG
  refine sq ?_
  refine rg 1000 ?_
  refine pr [2, 3, 4, 5, 6, 7, 8, 9, 10, 11, 12, 13, 14, 15, 16, 17, 18, 19, 20, 21, 22, 23, 24, 25, 26, 27, 28, 29, 30, 31, 32, 33, 34, 35, 36, 37, 38, 39, 40, 41, 42, 43, 44, 45, 46, 47, 48, 49, 50, 51, 52, 53] ?_
  refine sq ?_
  refine sq ?_
  refine rg 2000 ?_
  refine pr [2, 3, 4, 5, 6, 7, 8, 9, 12, 13, 14, 15, 16, 17, 18, 19, 20, 21, 22, 23, 24, 25, 26, 27, 28, 29, 30, 31, 32, 33, 34, 35, 36, 37, 38, 39, 40, 41, 42, 43, 44, 45, 46, 47, 48, 49, 50, 51, 52, 53] ?_
  refine cd ?_ ?_
  · intro h12_1
    have h6 : (k == 6) = true := by simpa using h12_1
    have hom : oneM k ex c = ([⟨c.r, (timesR c.n (-1)).1⟩], (timesR c.n (-1)).2) := by rw [oneM, h6]; rfl
    refine sq ?_
    refine rc 3000 ?_
    refine oc id (spec95 c.n (-1)) ?_
    refine oe 3100 ?_
    refine on ?_
    refine pr [2, 3, 4, 5, 6, 7, 8, 9, 19, 20, 21, 22, 23, 24, 25, 26, 27, 28, 29, 30, 31, 32, 33, 34, 35, 36, 37, 38, 39, 40, 41, 42, 43, 44, 45, 46, 47, 48, 49, 50, 51, 52, 53] ?_
    refine sq ?_
    refine rg 4000 ?_
    refine pr [2, 3, 4, 5, 8, 9, 25, 26, 27, 28, 29, 30, 31, 32, 33, 34, 35, 36, 37, 38, 39, 40, 41, 42, 43, 44, 45, 46, 47, 48, 49, 50, 51, 52, 53] ?_
    refine k_ret ?_
    show retQ _ _ _ _ _ _ _
    simp [*]
  · intro h12_1
    have h6 : (k == 6) = false := by simpa using h12_1
    refine k_skip ?_
    refine sq ?_
    refine rc 5000 ?_
    refine oc id (spec182 ex he c.r hc) ?_
    refine oe 5100 ?_
    refine on ?_
    refine pr [2, 3, 4, 5, 8, 9, 33, 34, 35, 36, 37, 38, 39, 40, 41, 42, 43, 44, 45, 46, 47, 48, 49, 50, 51, 52, 53] ?_
    refine sq ?_
    refine k_block ?_
    refine sq ?_
    refine rg 6000 ?_
    refine pr [2, 3, 4, 5, 8, 9, 33, 36, 37, 38, 39, 40, 41, 42, 43, 44, 45, 46, 47, 48, 49, 50, 51, 52, 53] ?_
    refine cd ?_ ?_
    · intro h33_2
      have h2 : ((evR ex c.r).2 != 0) = true := h33_2
      have hom : oneM k ex c = ([], (evR ex c.r).2) := by rw [oneM, h6, h2]; rfl
      refine sq ?_
      refine rg 7000 ?_
      refine pr [3, 4, 5, 52, 53] ?_
      refine k_ret ?_
      show retQ _ _ _ _ _ _ _
      simp [*]
    · intro h33_2
      have h2 : ((evR ex c.r).2 != 0) = false := h33_2
      refine sq ?_
      refine rg 8000 ?_
      refine pr [3, 4, 5, 8, 37, 41, 42, 43, 44, 45, 46, 47, 48, 49, 50, 51, 52, 53] ?_
      refine cd ?_ ?_
      · intro h37_3
        have h3 : (k == 3) = true := by simpa using h37_3
        have hom : oneM k ex c = ([⟨(evR ex c.r).1, c.n⟩], 0) := by rw [oneM, h6, h2, h3]; rfl
        refine sq ?_
        refine rg 9000 ?_
        refine pr [3, 4, 5, 52, 53] ?_
        refine k_ret ?_
        show retQ _ _ _ _ _ _ _
        simp [*]
      · intro h37_3
        have h3 : (k == 3) = false := by simpa using h37_3
        have hl1 := hk4 h6 h3
        have hev : (evR ex c.r).1.length = 1 := evR_one hl1 h2
        obtain ⟨v, hv⟩ : ∃ v, (evR ex c.r).1 = [v] := List.length_eq_one_iff.1 hev
        refine sq ?_
        refine rg 10000 ?_ (h := by simp [*, Val.row]; exact is_rfl _)
        refine pr [3, 4, 5, 46, 52, 53] ?_
        refine cd ?_ ?_
        · intro h46_4
          have h4 : (v.n == 0) = true := by simpa using h46_4
          have hom : oneM k ex c = ([], 0) := by rw [oneM, h6, h2, h3, hv]; simp only [List.getD_cons_zero]; rw [h4]; rfl
          refine sq ?_
          refine rg 11000 ?_
          refine pr [3, 4, 5, 52, 53] ?_
          refine k_ret ?_
          show retQ _ _ _ _ _ _ _
          simp [*]
        · intro h46_4
          have h4 : (v.n == 0) = false := by simpa using h46_4
          have hom : oneM k ex c = ([c], 0) := by rw [oneM, h6, h2, h3, hv]; simp only [List.getD_cons_zero]; rw [h4]; rfl
          refine k_skip ?_
          refine k_nil ?_
          show AK _ _ _ _ _ _
          refine sq ?_
          refine rg 12000 ?_
          refine pr [4, 5] ?_
          refine k_ret ?_
          show retQ _ _ _ _ _ _ _
          simp [*]

attribute [local simp] Pl.av Up.av Up.row in
theorem spec138 (k n : Int) (kids : List Pl) (ex : List E) (cols wth : List Int) (agg rds : Int) (he : ex.length ≤ Bnd) (u : Up) (hu : u.sm) : Flat.Sp Try.prog 138 [(Pl.mk k n kids ex cols wth agg rds).av, u.av] [] (.tup [.p (.ps ((sevR ex u).1.map Up.row)), vv (.bool (sevR ex u).2)]) [] := by
  refine sk Try.func138 ?_
  intro F G hn hG
  have hur := (Up.sm_lim hu).2
  have hel := Nat.le_trans (evR_len ex u.r) he
  have hel : (evR ex u.r).1.length ≤ Flat.lim := Nat.le_trans hel (by decide)
  refine sq ?_
  refine rg 1000 ?_
  refine pr [2, 3, 4, 5, 6, 7, 8, 9, 10, 11, 12, 13, 14, 15, 16, 17, 18, 19, 20, 21, 22, 23, 24, 25, 26] ?_
  refine sq ?_
  refine rc 2000 ?_
  refine oc id (spec182 ex he u.r hur) ?_
  refine oe 2100 ?_
  refine on ?_
  refine pr [3, 4, 5, 6, 7, 16, 17, 18, 19, 20, 21, 22, 23, 24, 25, 26] ?_
  refine sq ?_
  refine sq ?_
  refine rc 3000 ?_
  first | refine gp 3050 ?_ | refine os ?_ | refine gt 3050 ?_
  refine og (fun hg => spec54 (evR ex u.r).1 hel) ?_
  first | refine gp 3250 ?_ | refine os ?_ | refine gt 3250 ?_
  refine oe 3300 ?_
  refine on ?_
  refine pr [3, 4, 5, 6, 22, 23, 24, 25, 26] ?_
  refine cd ?_ ?_
  · intro h22_1
    have h2 : ((evR ex u.r).2 != 0 || checkRow (evR ex u.r).1 != 0) = true := h22_1
    have hse : sevR ex u = ([], false) := by rw [sevR, h2]; rfl
    refine sq ?_
    refine rg 4000 ?_
    refine pr [3, 4, 5, 6, 23, 24, 25, 26] ?_
    refine k_ret ?_
    show retQ _ _ _ _ _ _ _
    simp [*]
  · intro h22_1
    have h2 : ((evR ex u.r).2 != 0 || checkRow (evR ex u.r).1 != 0) = false := h22_1
    refine k_skip ?_
    refine sq ?_
    refine sq ?_
    refine rc 5000 ?_
    refine oc id (spec101z (evR ex u.r).1 hel) ?_
    refine on ?_
    refine pr [3, 4, 5, 24, 25, 26] ?_
    refine cd ?_ ?_
    · intro h24_2
      have h3 : (evR ex u.r).1.any zeroN = true := h24_2
      have hse : sevR ex u = ([], true) := by rw [sevR, h2, h3]; rfl
      refine sq ?_
      refine rg 6000 ?_
      refine pr [3, 4, 5, 25, 26] ?_
      refine k_ret ?_
      show retQ _ _ _ _ _ _ _
      simp [*]
    · intro h24_2
      have h3 : (evR ex u.r).1.any zeroN = false := h24_2
      have hse : sevR ex u = ([u], true) := by rw [sevR, h2, h3]; rfl
      refine k_skip ?_
      refine sq ?_
      refine rg 7000 ?_
      refine pr [4, 5] ?_
      refine k_ret ?_
      show retQ _ _ _ _ _ _ _
      simp [*]

attribute [local simp] Pl.av Up.av Up.row Up.bare Ct.av Ct.row in
theorem spec81 (k n : Int) (kids : List Pl) (ex : List E) (cols wth : List Int) (agg rds : Int) (he : ex.length ≤ Bnd) (hk : k = 3 ∨ k = 4 ∨ k = 5 ∨ k = 6) (u : Up) (hu : u.sm) : Flat.Sp Try.prog 81 [(Pl.mk k n kids ex cols wth agg rds).av, u.av] [] (.tup [.p (.ps ((oneR k ex u).1.map Up.row)), vv (.bool (oneR k ex u).2)]) [] := by
  refine sk Try.func81 ?_
  intro F G hn hG
  have hur := (Up.sm_lim hu).2
  obtain ⟨xs, hxs⟩ : ∃ xs, (oneM k ex ⟨u.r, u.d⟩).1 = xs := ⟨_, rfl⟩
  have hx1 : xs.length ≤ 1 := by rw [← hxs]; exact oneM_len _ _ _
  have hxr : ∀ x ∈ xs, x.r.length ≤ Bnd := by rw [← hxs]; exact oneM_rows _ _ _ he hu.2
  obtain ⟨ys, hys⟩ : ∃ ys, xs.map (Up.ofC u.t) = ys := ⟨_, rfl⟩
  have hyl : ys.length = xs.length := by rw [← hys, List.length_map]
  refine sq ?_
  refine rg 1000 ?_
  refine pr [2, 3, 4, 5, 6, 7, 8, 10, 11, 12, 13, 14, 15, 16, 17, 18, 19, 20, 21, 22, 23, 24, 25, 26, 27, 28, 29, 30, 31, 32, 33, 34, 35, 36, 37, 38, 39, 40, 41, 42, 43, 44, 45, 46, 47, 48, 49, 50, 51, 52, 53, 54, 55, 56, 57, 58, 59, 60, 61, 62, 63, 64] ?_
  refine sq ?_
  refine rg 2000 ?_
  refine pr [2, 3, 4, 5, 6, 7, 8, 10, 12, 13, 14, 15, 16, 17, 18, 19, 20, 21, 22, 23, 24, 25, 26, 27, 28, 29, 30, 31, 32, 33, 34, 35, 36, 37, 38, 39, 40, 41, 42, 43, 44, 45, 46, 47, 48, 49, 50, 51, 52, 53, 54, 55, 56, 57, 58, 59, 60, 61, 62, 63, 64] ?_
  refine sq ?_
  refine sq ?_
  refine rg 3000 ?_
  refine pr [2, 3, 4, 5, 6, 7, 8, 10, 14, 15, 16, 17, 18, 19, 20, 21, 22, 23, 24, 25, 26, 27, 28, 29, 30, 31, 32, 33, 34, 35, 36, 37, 38, 39, 40, 41, 42, 43, 44, 45, 46, 47, 48, 49, 50, 51, 52, 53, 54, 55, 56, 57, 58, 59, 60, 61, 62, 63, 64] ?_
  refine cd ?_ ?_
  · intro h14_1
    have h5 : (k == 5) = true := by simpa using h14_1
    have hon : oneR k ex u = ([u.bare], true) := by rw [oneR, h5]; rfl
    refine sq ?_
    refine rg 4000 ?_ (h := by simp [*, Up.bare]; exact is_rfl _)
    refine pr [2, 3, 4, 5, 6, 7, 8, 10, 17, 18, 19, 20, 21, 22, 23, 24, 25, 26, 27, 28, 29, 30, 31, 32, 33, 34, 35, 36, 37, 38, 39, 40, 41, 42, 43, 44, 45, 46, 47, 48, 49, 50, 51, 52, 53, 54, 55, 56, 57, 58, 59, 60, 61, 62, 63, 64] ?_
    refine k_ret ?_
    show retQ _ _ _ _ _ _ _
    simp [*]
  · intro h14_1
    have h5 : (k == 5) = false := by simpa using h14_1
    refine k_skip ?_
    refine sq ?_
    refine sq ?_
    refine rc 5000 ?_
    iterate 4 (first | refine gp 5350 ?_ | refine os ?_ | refine gt 5350 ?_)
    refine oe 5400 ?_
    refine on ?_
    refine pr [2, 3, 4, 5, 6, 7, 8, 10, 25, 26, 27, 28, 29, 30, 31, 32, 33, 34, 35, 36, 37, 38, 39, 40, 41, 42, 43, 44, 45, 46, 47, 48, 49, 50, 51, 52, 53, 54, 55, 56, 57, 58, 59, 60, 61, 62, 63, 64] ?_
    refine cd ?_ ?_
    · intro h25_2
      have h4 : (k == 4 && (((ex.length : Nat) : Int) != 1)) = true := h25_2
      have hon : oneR k ex u = sevR ex u.bare := by rw [oneR, h5, h4]; rfl
      refine sq ?_
      refine rc 6000 ?_ (h := by simp [*, Up.bare]; exact is_rfl _)
      refine oc id ((show Flat.Sp Try.prog 138 [_, u.bare.av] _ _ _ from spec138 k n kids ex cols wth agg rds he u.bare ⟨Nat.zero_le _, hu.2⟩)) ?_ (hg := by simp [*, Up.bare]) (hf := by simp [*, Up.bare]; exact is_rfl _) (hx := by simp [*, Up.bare]; exact is_rfl _) (hargs := by simp [*, Up.bare]) (hB := by simp [*, Up.bare]) (hL := by simp [*, Up.bare]) (hd := by simp [*, Up.bare]; exact is_rfl _)
      refine oe 6100 ?_ (h := by simp [*, Up.bare]; exact is_rfl _)
      refine on ?_
      refine pr [2, 3, 4, 5, 6, 7, 8, 10, 31, 32, 33, 34, 35, 36, 37, 38, 39, 40, 41, 42, 43, 44, 45, 46, 47, 48, 49, 50, 51, 52, 53, 54, 55, 56, 57, 58, 59, 60, 61, 62, 63, 64] ?_
      refine k_ret ?_
      show retQ _ _ _ _ _ _ _
      simp [*]
    · intro h25_2
      have h4 : (k == 4 && (((ex.length : Nat) : Int) != 1)) = false := h25_2
      have hk4 : (k == 6) = false → (k == 3) = false → ex.length = 1 := one_of hk h5 h4
      refine k_skip ?_
      refine sq ?_
      refine rc 7000 ?_
      refine oc id (spec139 k n kids ex cols wth agg rds he hk4 ⟨u.r, u.d⟩ hur) ?_
      refine oe 7100 ?_
      refine on ?_
      refine pr [3, 4, 5, 6, 7, 8, 10, 41, 42, 43, 44, 45, 46, 47, 48, 49, 50, 51, 52, 53, 54, 55, 56, 57, 58, 59, 60, 61, 62, 63, 64] ?_
      refine sq ?_
      refine sq ?_
      refine rg 8000 ?_
      refine pr [3, 4, 5, 6, 8, 10, 42, 43, 44, 45, 46, 47, 48, 49, 50, 51, 52, 53, 54, 55, 56, 57, 58, 59, 60, 61, 62, 63, 64] ?_
      refine cd ?_ ?_
      · intro h42_3
        have h2 : ((oneM k ex ⟨u.r, u.d⟩).2 != 0) = true := h42_3
        have hon : oneR k ex u = ([], false) := by rw [oneR, h5, h4, h2]; rfl
        refine sq ?_
        refine rg 9000 ?_
        refine pr [3, 4, 5, 6, 8, 10, 43, 44, 45, 46, 47, 48, 49, 50, 51, 52, 53, 54, 55, 56, 57, 58, 59, 60, 61, 62, 63, 64] ?_
        refine k_ret ?_
        show retQ _ _ _ _ _ _ _
        simp [*]
      · intro h42_3
        have h2 : ((oneM k ex ⟨u.r, u.d⟩).2 != 0) = false := h42_3
        refine k_skip ?_
        refine sq ?_
        refine rg 10000 ?_
        refine pr [3, 4, 5, 6, 8, 10, 43, 44, 45, 46, 47, 48, 49, 50, 51, 52, 53, 54, 55, 56, 57, 58, 59, 60, 61, 62, 63, 64] ?_
        refine ow (.tmp 8) 900 92 6 ?_
        refine sq ?_
        refine sq ?_
        refine rg 11000 ?_
        refine pr [3, 4, 5, 8, 10, 43, 44, 45, 46, 47, 48, 49, 50, 51, 52, 53, 54, 55, 56, 57, 58, 59, 60, 61, 62, 63, 64] ?_
        refine k_block ?_
        refine k_loop (fun n l => ∃ i, i + n = xs.length ∧ (badC (xs.drop i) = badC xs) ∧ l = [(.tmp 3, .av (.ptr 1001 0)), (.tmp 8, .av (.sl 900 i 0 i)), (.tmp 43, .av (.p (.ps (xs.map Ct.row)))), (.tmp 44, .av (vv (.int .i64 xs.length))), (.tmp 45, .av (vv (.int .i64 i))), (.var 1001, .n 6), (.cell 1001 0, .av (.psf [])), (.cell 1001 1, .av (.p (.ps (u.r.map Val.row)))), (.cell 1001 2, .av (vv (.int .u64 u.t.e))), (.cell 1001 3, .av (vv (.int .u64 u.t.a))), (.cell 1001 4, .av (vv (.int .u64 u.t.b))), (.cell 1001 5, .av (vv (.int .i64 u.d))), (.arr 900, .arr 92 6 ((ys.map Up.row).take i) 0)]) (xs.length) hG ⟨_, ⟨by simp, by simp, by simp⟩, 0, by simp, rfl, rfl⟩ ?_
        rintro n _ ⟨i, hin, hfa, rfl⟩
        have hcm := hfa
        refine sq ?_
        refine rg 12000 ?_
        refine pr [3, 4, 5, 8, 10, 43, 44, 45, 46, 47, 48, 49, 50, 51, 52, 53, 54, 55, 56, 57, 58, 59, 60, 61, 62, 63, 64] ?_
        refine sq ?_
        refine cd ?_ ?_
        · intro h46_4
          have hlt : i < xs.length := by simpa using h46_4
          obtain ⟨x, hxe⟩ : ∃ x, xs[i] = x := ⟨_, rfl⟩
          have hx : xs[i]? = some x := by simp [hlt, hxe]
          have hw := wrap_succ (show i < Flat.lim by simp only [Flat.lim]; omega)
          have hmi : min i xs.length = i := by omega
          have hb1 : (i + 1) * 80 ≤ 140737488355328 := by omega
          have hb2 : i + 1 ≤ 140737488355328 := by omega
          have hxr2 : x.r.length ≤ Flat.lim := Nat.le_trans (hxr x (List.mem_of_getElem? hx)) (by decide)
          have hbd := any_take (p := fun c : Ct => checkRow c.r != 0) hx
          have hcm2 : (checkRow x.r != 0 || badC (xs.drop (i + 1))) = badC xs := by rw [← hcm]; exact hbd.symm
          have hyx : ys[i]? = some (Up.ofC u.t x) := by rw [← hys]; simp [hx]
          have htm := tmap_succ (f := Up.row) hyx
          simp only [Up.ofC, Up.row] at htm
          refine k_skip ?_
          refine sq ?_
          refine k_block ?_
          refine sq ?_
          refine rg 13000 ?_
          refine pr [3, 4, 5, 8, 10, 43, 44, 45, 46, 47, 48, 49, 50, 51, 52, 53, 54, 55, 56, 57, 58, 59, 60, 61, 62, 63, 64] ?_
          refine sq ?_
          refine rg 14000 ?_
          refine pr [3, 4, 5, 8, 10, 43, 44, 45, 46, 47, 48, 49, 50, 51, 52, 53, 54, 55, 56, 57, 58, 59, 60, 61, 62, 63, 64] ?_
          refine sq ?_
          refine rc 15000 ?_
          refine oc id (spec54 x.r hxr2) ?_
          refine oe 15100 ?_
          refine on ?_
          refine pr [3, 4, 5, 8, 10, 43, 44, 45, 46, 47, 48, 49, 50, 51, 52, 53, 54, 55, 56, 57, 58, 59, 60, 61, 62, 63, 64] ?_
          refine cd ?_ ?_
          · intro h62_5
            have h7 : (checkRow x.r != 0) = true := h62_5
            rw [h7] at hcm2
            have hbx : badC xs = true := hcm2.symm
            have hon : oneR k ex u = ([], false) := by rw [oneR, h5, h4, h2, hxs, hbx]; rfl
            refine sq ?_
            refine rg 16000 ?_
            refine pr [3, 4, 5, 8, 10, 43, 44, 45, 46, 47, 48, 49, 50, 51, 52, 53, 54, 55, 56, 57, 58, 59, 60, 61, 62, 63, 64] ?_
            refine k_ret ?_
            show retQ _ _ _ _ _ _ _
            simp [*]
          · intro h62_5
            have h7 : (checkRow x.r != 0) = false := h62_5
            rw [h7] at hcm2
            have hnext : badC (xs.drop (i + 1)) = badC xs := hcm2
            refine k_skip ?_
            refine k_nil ?_
            show AK _ _ _ _ _ _
            refine rg 17000 ?_
            refine k_nil ?_
            refine ⟨n - 1, by omega, _, ⟨?_, ?_, ?_⟩, i + 1, by omega, hnext, rfl⟩ <;> simp [*]
        · intro h46_4
          have hge : xs.length ≤ i := by simpa using h46_4
          obtain rfl : i = xs.length := by omega
          have hbx : badC xs = false := by rw [← hcm, List.drop_eq_nil_of_le (Nat.le_refl _)]; rfl
          have hon : oneR k ex u = (ys, true) := by rw [oneR, h5, h4, h2, hxs, hbx, ← hys]; rfl
          have hfr : (ys.map Up.row).take xs.length = ys.map Up.row := List.take_of_length_le (by simp [hyl])
          refine k_exit ?_
          show AK _ _ _ _ _ _
          refine sq ?_
          refine rg 18000 ?_
          refine pr [4, 5] ?_
          refine fz 900 ?_
          refine k_ret ?_
          show retQ _ _ _ _ _ _ _
          simp [*]

end Go.Proofs
end
section
set_option linter.unusedVariables false
set_option linter.unusedSimpArgs false
namespace Go.Proofs
open Go.Flat
set_option maxRecDepth 100000
set_option linter.unusedSimpArgs false
set_option linter.unusedVariables false
attribute [local simp] Bool.and_assoc Bool.or_assoc evalG evalX efD skF guardG guardL isCall stepL evalOp ev evs lk tmpsL app AV.ok fresh vv putCells insV ins del putL place Go.Flat.look fillC fillR getCells loadF storeF binF scalarBin intBin strBin isShift shiftBin unF lenF maxF minF rowsF appendF builtinF idxF natOf sliceP sliceF optEv Flat.cut overwrite toPV toPVs constAV scalarC scalarCs AV.cells TI.isAgg allSome andAll scalarEq buildable Go.Flat.lim retQ resL resAll resOne PartOf noTmp closedIn refs refs.refsL isSomeV hasB ids leA leA.leL renA renA.renL callB refsAll backL dropIds renS LiesAt injB ownB freshB memN locId insAll leA_refl leL_refl okS frzS frzA frzA.frzL evalD feet fine updCells cellsFrom memP footRf footWf noTmpU updIds opOps opIds idsA footR footW guardTs opTs dstTs callR callW renLoc renC inBlockQ thenQ Value.oneCell' IntKind.bits IntKind.signed

def offC (n : Nat) (c : Int) : Bool := decide (c < 0) || decide ((n : Int) ≤ c)
def colV2 (row : List Val) (c : Int) : Val := row.getD c.toNat vZ
def colsR (row : List Val) (cols : List Int) : List Val × Int :=
  if checkRow row != 0 then ([], checkRow row) else if cols.any (offC row.length) then ([], 1) else if decide (8 < (cols.length : Int)) then ([], 2) else (cols.map (colV2 row), 0)
def badL (l r : Int) : Bool := decide (l < 0) || (decide (2 ≤ l) || (decide (r < 1) || decide (16 < r)))
def refR (l r : Int) (us : List Up) : Int := orI [chkUs us, if badL l r then 1 else 0]
/-- A list of which the first elements were turned. -/
structure MapTo (f : Up → Up) (us cur : List Up) (i : Nat) : Prop where
  len : cur.length = us.length
  lo : ∀ j u, j < i → us[j]? = some u → cur[j]? = some (f u)
  hi : ∀ j, i ≤ j → cur[j]? = us[j]?
theorem MapTo.start (f : Up → Up) (us : List Up) : MapTo f us us 0 := ⟨rfl, fun j u h => by omega, fun _ _ => rfl⟩
theorem MapTo.step {f : Up → Up} {us cur : List Up} {i : Nat} (h : MapTo f us cur i) {u : Up} (hu : us[i]? = some u) : MapTo f us (cur.set i (f u)) (i + 1) := by
  have hi := (List.getElem?_eq_some_iff.1 hu).1
  refine ⟨by rw [List.length_set, h.len], fun j v hj hv => ?_, fun j hj => ?_⟩
  · by_cases e : j = i
    · subst e
      rw [hu] at hv
      simp only [Option.some.injEq] at hv
      subst hv
      rw [List.getElem?_set_self (by rw [h.len]; exact hi)]
    · rw [List.getElem?_set_ne (by omega)]
      exact h.lo j v (by omega) hv
  · rw [List.getElem?_set_ne (by omega)]
    exact h.hi j (by omega)
theorem MapTo.done {f : Up → Up} {us cur : List Up} {i : Nat} (h : MapTo f us cur i) (hi : us.length ≤ i) : cur = us.map f := by
  apply List.ext_getElem?
  intro j
  rw [List.getElem?_map]
  cases hu : us[j]? with
  | some u => exact h.lo j u (by have := (List.getElem?_eq_some_iff.1 hu).1; omega) hu
  | none =>
    have := List.getElem?_eq_none_iff.1 hu
    rw [List.getElem?_eq_none_iff.2 (by rw [h.len]; exact this)]
    rfl
theorem any_step {α : Type} {p : α → Bool} {l : List α} {i : Nat} {x : α} {b : Bool} (h : (l.drop i).any p = b) (hx : l[i]? = some x) : (p x || (l.drop (i + 1)).any p) = b := by rw [← any_take hx]; exact h

theorem off_in {n : Nat} {x : Int} (h : offC n x = false) : ∃ k : Nat, x = (k : Int) ∧ k < n := by
  simp only [offC, Bool.or_eq_false_iff, decide_eq_false_iff_not] at h
  exact ⟨x.toNat, by omega, by omega⟩

attribute [local simp] irow Val.row in
theorem spec93 (row : List Val) (hrow : row.length ≤ Flat.lim) (cols : List Int) (hc : cols.length ≤ Bnd) : Flat.Sp Try.prog 93 [.p (.ps (row.map Val.row)), .p (.ps (cols.map irow))] [] (.tup [.p (.ps ((colsR row cols).1.map Val.row)), vv (.int .i64 (colsR row cols).2)]) [] := by
  refine sk Try.func93 ?_
  intro F G hn hG
  have hb : cols.length ≤ 1048576 := hc
  obtain ⟨vs, hvs⟩ : ∃ vs, cols.map (colV2 row) = vs := ⟨_, rfl⟩
  have hvl : vs.length = cols.length := by rw [← hvs, List.length_map]
  refine sq ?_
  refine rg 1000 ?_
  refine pr [0, 1, 4, 5, 6, 7, 9, 10, 11, 12, 13, 14, 15, 16, 17, 18, 19, 20, 21, 22, 23, 24, 25, 26, 27, 28, 29, 30, 31, 32, 33, 34, 35, 36, 37, 38, 39, 40] ?_
  refine sq ?_
  refine sq ?_
  refine rc 2000 ?_
  refine oc id (spec54 row hrow) ?_
  refine oe 2100 ?_
  refine on ?_
  refine pr [0, 1, 4, 5, 6, 7, 9, 12, 13, 14, 15, 16, 17, 18, 19, 20, 21, 22, 23, 24, 25, 26, 27, 28, 29, 30, 31, 32, 33, 34, 35, 36, 37, 38, 39, 40] ?_
  refine sq ?_
  refine rg 3000 ?_
  refine pr [0, 1, 4, 5, 6, 7, 9, 13, 14, 15, 16, 17, 18, 19, 20, 21, 22, 23, 24, 25, 26, 27, 28, 29, 30, 31, 32, 33, 34, 35, 36, 37, 38, 39, 40] ?_
  refine cd ?_ ?_
  · intro h13_1
    have h1 : (checkRow row != 0) = true := h13_1
    have hR : colsR row cols = ([], checkRow row) := by rw [colsR, h1]; rfl
    refine sq ?_
    refine rg 4000 ?_
    refine pr [0, 1, 4, 5, 7, 9, 15, 16, 17, 18, 19, 20, 21, 22, 23, 24, 25, 26, 27, 28, 29, 30, 31, 32, 33, 34, 35, 36, 37, 38, 39, 40] ?_
    refine k_ret ?_
    show retQ _ _ _ _ _ _ _
    simp [*]
  · intro h13_1
    have h1 : (checkRow row != 0) = false := h13_1
    refine k_skip ?_
    refine sq ?_
    refine rg 5000 ?_
    refine pr [0, 1, 4, 5, 7, 9, 15, 16, 17, 18, 19, 20, 21, 22, 23, 24, 25, 26, 27, 28, 29, 30, 31, 32, 33, 34, 35, 36, 37, 38, 39, 40] ?_
    refine ow (.tmp 7) 900 24 3 ?_
    refine sq ?_
    refine sq ?_
    refine rg 6000 ?_
    refine pr [0, 4, 5, 7, 9, 15, 16, 17, 18, 19, 20, 21, 22, 23, 24, 25, 26, 27, 28, 29, 30, 31, 32, 33, 34, 35, 36, 37, 38, 39, 40] ?_
    refine k_block ?_
    refine k_loop (fun n l => ∃ i, i + n = cols.length ∧ ((cols.drop i).any (offC row.length) = cols.any (offC row.length)) ∧ l = [(.tmp 0, .av (.p (.ps (row.map Val.row)))), (.tmp 7, .av (.sl 900 i 0 i)), (.tmp 15, .av (.p (.ps (cols.map irow)))), (.tmp 16, .av (vv (.int .i64 cols.length))), (.tmp 17, .av (vv (.int .i64 i))), (.arr 900, .arr 24 3 ((vs.map Val.row).take i) 0)]) (cols.length) hG ⟨_, ⟨by simp, by simp, by simp⟩, 0, by simp, rfl, rfl⟩ ?_
    rintro n _ ⟨i, hin, hfa, rfl⟩
    have hcm := hfa
    refine sq ?_
    refine rg 7000 ?_
    refine pr [0, 4, 5, 7, 9, 15, 16, 17, 18, 19, 20, 21, 22, 23, 24, 25, 26, 27, 28, 29, 30, 31, 32, 33, 34, 35, 36, 37, 38, 39, 40] ?_
    refine sq ?_
    refine cd ?_ ?_
    · intro h18_2
      have hlt : i < cols.length := by simpa using h18_2
      obtain ⟨x, hxe⟩ : ∃ x, cols[i] = x := ⟨_, rfl⟩
      have hx : cols[i]? = some x := by simp [hlt, hxe]
      have hw := wrap_succ (show i < Flat.lim by simp only [Flat.lim]; omega)
      have hcm2 := any_step hcm hx
      have hmi : min i cols.length = i := by omega
      have hb1 : (i + 1) * 32 ≤ 140737488355328 := by omega
      have hb2 : i + 1 ≤ 140737488355328 := by omega
      refine k_skip ?_
      refine sq ?_
      refine k_block ?_
      refine sq ?_
      refine rg 8000 ?_
      refine pr [0, 4, 5, 7, 9, 15, 16, 17, 18, 19, 20, 21, 22, 23, 24, 25, 26, 27, 28, 29, 30, 31, 32, 33, 34, 35, 36, 37, 38, 39, 40] ?_
      refine sq ?_
      refine sq ?_
      refine rc 9000 ?_
      iterate 4 (first | refine gp 9350 ?_ | refine os ?_ | refine gt 9350 ?_)
      refine oe 9400 ?_
      refine on ?_
      refine pr [0, 4, 5, 7, 9, 15, 16, 17, 18, 19, 20, 21, 22, 23, 24, 25, 26, 27, 28, 29, 30, 31, 32, 33, 34, 35, 36, 37, 38, 39, 40] ?_
      refine cd ?_ ?_
      · intro h28_3
        have h2 : offC row.length x = true := h28_3
        rw [h2] at hcm2
        have hR : colsR row cols = ([], 1) := by rw [colsR, h1, ← hcm2]; rfl
        refine sq ?_
        refine rg 10000 ?_
        refine pr [0, 4, 5, 7, 9, 15, 16, 17, 18, 19, 20, 21, 22, 23, 24, 25, 26, 27, 28, 29, 30, 31, 32, 33, 34, 35, 36, 37, 38, 39, 40] ?_
        refine k_ret ?_
        show retQ _ _ _ _ _ _ _
        simp [*]
      · intro h28_3
        have h2 : offC row.length x = false := h28_3
        rw [h2] at hcm2
        have hnext : (cols.drop (i + 1)).any (offC row.length) = cols.any (offC row.length) := hcm2
        obtain ⟨xn, rfl, hxn⟩ := off_in h2
        obtain ⟨v, hv⟩ : ∃ v, row[xn]? = some v := ⟨_, List.getElem?_eq_getElem hxn⟩
        have hv2 : ∀ h : xn < row.length, row[xn]'h = v := fun h => (List.getElem?_eq_some_iff.1 hv).2
        have hyx : vs[i]? = some v := by rw [← hvs]; simp [hx, colV2, hv]
        have htm := tmap_succ (f := Val.row) hyx
        simp only [Val.row] at htm
        refine k_skip ?_
        refine rg 11000 ?_
        refine k_nil ?_
        show AK _ _ _ _ _ _
        refine rg 12000 ?_
        refine k_nil ?_
        refine ⟨n - 1, by omega, _, ⟨?_, ?_, ?_⟩, i + 1, by omega, hnext, rfl⟩ <;> simp [*]
    · intro h18_2
      have hge : cols.length ≤ i := by simpa using h18_2
      obtain rfl : i = cols.length := by omega
      have hao : cols.any (offC row.length) = false := by rw [← hcm, List.drop_eq_nil_of_le (Nat.le_refl _)]; rfl
      have hfr : (vs.map Val.row).take cols.length = vs.map Val.row := List.take_of_length_le (by simp [hvl])
      refine k_exit ?_
      show AK _ _ _ _ _ _
      refine sq ?_
      refine sq ?_
      refine rg 13000 ?_
      refine pr [4, 5, 7, 39, 40] ?_
      refine cd ?_ ?_
      · intro h39_4
        have h3 : decide (8 < (cols.length : Int)) = true := by simpa using h39_4
        have hR : colsR row cols = ([], 2) := by rw [colsR, h1, hao, h3]; rfl
        refine sq ?_
        refine rg 14000 ?_
        refine pr [4, 5, 7, 40] ?_
        refine k_ret ?_
        show retQ _ _ _ _ _ _ _
        simp [*]
      · intro h39_4
        have h3 : decide (8 < (cols.length : Int)) = false := by simpa using h39_4
        have hR : colsR row cols = (vs, 0) := by rw [colsR, h1, hao, h3, hvs]; rfl
        refine k_skip ?_
        refine sq ?_
        refine rg 15000 ?_
        refine pr [4, 5] ?_
        refine fz 900 ?_
        refine k_ret ?_
        show retQ _ _ _ _ _ _ _
        simp [*]

attribute [local simp] irow refR in
theorem spec94 (l r : Int) (us : List Up) (hlen : us.length ≤ Flat.lim) (hsm : Up.sms us) : Flat.Sp Try.prog 94 [vv (.int .i64 l), vv (.int .i64 r), .p (.ps (us.map Up.row))] [] (vv (.int .i64 (refR l r us))) [] := by
  refine sk Try.func94 ?_
  intro F G hn hG
  refine sq ?_
  refine rg 1000 ?_
  refine pr [0, 1, 2, 6, 7, 8, 9, 10, 11, 12, 13, 14, 15, 16, 17, 18, 19, 20, 21, 22, 23, 24, 25, 26] ?_
  refine sq ?_
  refine rg 2000 ?_
  refine pr [0, 1, 2, 6, 7, 8, 9, 10, 11, 12, 13, 14, 15, 16, 17, 18, 19, 20, 21, 22, 23, 24, 25, 26] ?_
  refine sq ?_
  refine sq ?_
  refine rc 3000 ?_
  iterate 2 (first | refine gp 3150 ?_ | refine os ?_ | refine gt 3150 ?_)
  refine oe 3200 ?_
  iterate 2 (first | refine gp 3350 ?_ | refine os ?_ | refine gt 3350 ?_)
  refine oe 3400 ?_
  iterate 2 (first | refine gp 3550 ?_ | refine os ?_ | refine gt 3550 ?_)
  refine oe 3600 ?_
  refine on ?_
  refine pr [2, 6, 7, 21, 22, 23, 24, 25, 26] ?_
  refine cd ?_ ?_
  · intro h21_1
    have hb : badL l r = true := by simpa [badL, Bool.or_assoc] using h21_1
    refine rg 4000 ?_
    refine pr [2, 6, 7, 22, 23, 24, 25, 26] ?_
    refine sq ?_
    refine rc 5000 ?_
    refine oc id (spec80 us hlen hsm) ?_
    refine oe 5100 ?_
    refine oc id (spec97 [chkUs us, if badL l r then 1 else 0] (by simp [Flat.lim])) ?_
    refine oe 5200 ?_
    refine on ?_
    refine pr [6] ?_
    refine k_ret ?_
    show retQ _ _ _ _ _ _ _
    simp [*]
  · intro h21_1
    have hb : badL l r = false := by simpa [badL, Bool.or_assoc] using h21_1
    refine k_skip ?_
    refine sq ?_
    refine rc 5000 ?_
    refine oc id (spec80 us hlen hsm) ?_
    refine oe 5100 ?_
    refine oc id (spec97 [chkUs us, if badL l r then 1 else 0] (by simp [Flat.lim])) ?_
    refine oe 5200 ?_
    refine on ?_
    refine pr [6] ?_
    refine k_ret ?_
    show retQ _ _ _ _ _ _ _
    simp [*]

/-- An update with its columns' values as its key. -/
def keyd (cols : List Int) (u : Up) : Up := ⟨(colsR u.r cols).1, u.r, u.t, u.d⟩
def arrErr (cols : List Int) (us : List Up) : Int := orI (us.map fun u => (colsR u.r cols).2)
def arrR (cols : List Int) (us : List Up) : List Up × Int :=
  if chkUs us != 0 then ([], chkUs us) else if arrErr cols us != 0 then ([], arrErr cols us) else consR [us.map (keyd cols)]
theorem colsR_len (row : List Val) (cols : List Int) : (colsR row cols).1.length ≤ cols.length := by
  unfold colsR
  repeat' split
  all_goals simp

attribute [local simp] Up.row lrow in
theorem spec47 (cols : List Int) (hc : cols.length ≤ Bnd) (us : List Up) (hus : us.length ≤ Cap) (hsm : Up.sms us) : Flat.Sp Try.prog 47 [.p (.ps (cols.map irow)), .p (.ps (us.map Up.row))] [] (.tup [.p (.ps ((arrR cols us).1.map Up.row)), vv (.int .i64 (arrR cols us).2)]) [] := by
  refine sk Try.func47 ?_
  intro F G hn hG
  have hcap : Cap ≤ Flat.lim := by decide
  have hcap2 : Cap = 1073741824 := rfl
  have hks : Up.sms (us.map (keyd cols)) := by
    intro u hu
    obtain ⟨v, hv, rfl⟩ := List.mem_map.1 hu
    exact ⟨Nat.le_trans (colsR_len v.r cols) hc, (hsm v hv).2⟩
  refine sq ?_
  refine rg 1000 ?_
  refine pr [0, 1, 4, 5, 6, 7, 8, 9, 10, 11, 12, 13, 14, 15, 16, 17, 18, 19, 20, 21, 22, 23, 24, 25, 26, 27, 28, 29, 30, 31, 32, 33, 34, 35, 36, 37, 38, 39, 40, 41, 42, 43, 44, 45, 46] ?_
  refine sq ?_
  refine sq ?_
  refine rc 2000 ?_
  refine oc id (spec80 us (by omega) hsm) ?_
  refine oe 2100 ?_
  refine on ?_
  refine pr [0, 1, 4, 5, 6, 7, 8, 9, 10, 13, 14, 15, 16, 17, 18, 19, 20, 21, 22, 23, 24, 25, 26, 27, 28, 29, 30, 31, 32, 33, 34, 35, 36, 37, 38, 39, 40, 41, 42, 43, 44, 45, 46] ?_
  refine sq ?_
  refine rg 3000 ?_
  refine pr [0, 1, 4, 5, 6, 7, 8, 9, 10, 14, 15, 16, 17, 18, 19, 20, 21, 22, 23, 24, 25, 26, 27, 28, 29, 30, 31, 32, 33, 34, 35, 36, 37, 38, 39, 40, 41, 42, 43, 44, 45, 46] ?_
  refine cd ?_ ?_
  · intro h14_1
    have h1 : (chkUs us != 0) = true := h14_1
    have hR : arrR cols us = ([], chkUs us) := by rw [arrR, h1]; rfl
    refine sq ?_
    refine rg 4000 ?_
    refine pr [0, 1, 4, 5, 7, 8, 9, 10, 16, 17, 18, 19, 20, 21, 22, 23, 24, 25, 26, 27, 28, 29, 30, 31, 32, 33, 34, 35, 36, 37, 38, 39, 40, 41, 42, 43, 44, 45, 46] ?_
    refine k_ret ?_
    show retQ _ _ _ _ _ _ _
    simp [*]
  · intro h14_1
    have h1 : (chkUs us != 0) = false := h14_1
    refine k_skip ?_
    refine sq ?_
    refine rc 5000 ?_
    refine oc (fun _ => 900) (spec92 us hus) ?_
    refine oe 5100 ?_
    refine on ?_
    refine pr [0, 4, 5, 7, 8, 9, 10, 18, 19, 20, 21, 22, 23, 24, 25, 26, 27, 28, 29, 30, 31, 32, 33, 34, 35, 36, 37, 38, 39, 40, 41, 42, 43, 44, 45, 46] ?_
    refine sq ?_
    refine sq ?_
    refine rg 6000 ?_
    refine pr [0, 4, 5, 7, 8, 9, 10, 19, 20, 21, 22, 23, 24, 25, 26, 27, 28, 29, 30, 31, 32, 33, 34, 35, 36, 37, 38, 39, 40, 41, 42, 43, 44, 45, 46] ?_
    refine k_block ?_
    refine k_loop (fun n l => ∃ (i : Nat) (cur : List Up), i + n = us.length ∧ (MapTo (keyd cols) us cur i ∧ orI ((us.map fun u => (colsR u.r cols).2).drop i) = arrErr cols us) ∧ l = [(.tmp 0, .av (.p (.ps (cols.map irow)))), (.tmp 7, .av (.sl 900 us.length 0 us.length)), (.tmp 19, .av (vv (.int .i64 us.length))), (.tmp 20, .av (vv (.int .i64 i))), (.arr 900, .arr 92 6 (cur.map Up.row) 0)]) (us.length) hG ⟨_, ⟨by simp, by simp, by simp⟩, 0, us, by simp, ⟨.start _ _, rfl⟩, rfl⟩ ?_
    rintro n _ ⟨i, cur, hin, ⟨hM, hcm⟩, rfl⟩
    have hcl := hM.len
    refine sq ?_
    refine rg 7000 ?_
    refine pr [0, 4, 5, 7, 8, 9, 10, 19, 20, 21, 22, 23, 24, 25, 26, 27, 28, 29, 30, 31, 32, 33, 34, 35, 36, 37, 38, 39, 40, 41, 42, 43, 44, 45, 46] ?_
    refine sq ?_
    refine cd ?_ ?_
    · intro h21_2
      have hlt : i < us.length := by simpa using h21_2
      obtain ⟨x, hxe⟩ : ∃ x, us[i] = x := ⟨_, rfl⟩
      have hx : us[i]? = some x := by simp [hlt, hxe]
      have hw := wrap_succ (show i < Flat.lim by omega)
      have hxs := hsm x (List.mem_of_getElem? hx)
      have hcx : cur[i]? = some x := by rw [hM.hi i (Nat.le_refl _)]; exact hx
      have hcx2 : ∀ h : i < cur.length, cur[i]'h = x := fun h => (List.getElem?_eq_some_iff.1 hcx).2
      have hicl : i < cur.length := by omega
      rw [orI_drop (show (us.map fun u => (colsR u.r cols).2)[i]? = some (colsR x.r cols).2 by simp [hx])] at hcm
      refine k_skip ?_
      refine sq ?_
      refine k_block ?_
      refine sq ?_
      refine rg 8000 ?_
      refine pr [0, 4, 5, 7, 8, 9, 10, 19, 20, 21, 22, 23, 24, 25, 26, 27, 28, 29, 30, 31, 32, 33, 34, 35, 36, 37, 38, 39, 40, 41, 42, 43, 44, 45, 46] ?_
      refine sq ?_
      refine rc 9000 ?_
      refine oc id (spec93 x.r (Up.sm_lim hxs).2 cols hc) ?_
      refine oe 9100 ?_
      refine on ?_
      refine pr [0, 4, 5, 7, 8, 9, 10, 19, 20, 21, 22, 23, 24, 25, 26, 27, 28, 29, 30, 31, 32, 33, 34, 35, 36, 37, 38, 39, 40, 41, 42, 43, 44, 45, 46] ?_
      refine sq ?_
      refine sq ?_
      refine rg 10000 ?_
      refine pr [0, 4, 5, 7, 8, 9, 10, 19, 20, 21, 22, 23, 24, 25, 26, 27, 28, 29, 30, 31, 32, 33, 34, 35, 36, 37, 38, 39, 40, 41, 42, 43, 44, 45, 46] ?_
      refine cd ?_ ?_
      · intro h34_3
        have h2 : ((colsR x.r cols).2 != 0) = true := h34_3
        rw [h2] at hcm
        have hae : arrErr cols us = (colsR x.r cols).2 := by simpa using hcm.symm
        have hR : arrR cols us = ([], (colsR x.r cols).2) := by rw [arrR, h1, hae, h2]; rfl
        refine sq ?_
        refine rg 11000 ?_
        refine pr [0, 4, 5, 7, 8, 9, 10, 19, 20, 21, 22, 23, 24, 25, 26, 27, 28, 29, 30, 31, 32, 33, 34, 35, 36, 37, 38, 39, 40, 41, 42, 43, 44, 45, 46] ?_
        refine k_ret ?_
        show retQ _ _ _ _ _ _ _
        simp [*]
      · intro h34_3
        have h2 : ((colsR x.r cols).2 != 0) = false := h34_3
        rw [h2] at hcm
        have hnext : orI ((us.map fun u => (colsR u.r cols).2).drop (i + 1)) = arrErr cols us := by simpa using hcm
        refine k_skip ?_
        refine rg 12000 ?_
        refine k_nil ?_
        show AK _ _ _ _ _ _
        refine rg 13000 ?_
        refine k_nil ?_
        refine ⟨n - 1, by omega, _, ⟨?_, ?_, ?_⟩, i + 1, cur.set i (keyd cols x), by omega, ⟨hM.step hx, hnext⟩, rfl⟩ <;> simp [*, keyd]
    · intro h21_2
      have hge : us.length ≤ i := by simpa using h21_2
      obtain rfl : i = us.length := by omega
      rw [List.drop_eq_nil_of_le (by simp)] at hcm
      have hae : arrErr cols us = 0 := hcm.symm
      obtain rfl := hM.done (Nat.le_refl _)
      have hR : arrR cols us = consR [us.map (keyd cols)] := by rw [arrR, h1, hae]; rfl
      have hfr : (us.map (Up.row ∘ keyd cols)).take us.length = us.map (Up.row ∘ keyd cols) := List.take_of_length_le (by simp)
      refine fz 900 ?_
      refine k_exit ?_
      show AK _ _ _ _ _ _
      refine sq ?_
      refine rc 14000 ?_
      refine oc id (spec45 [us.map (keyd cols)] (by simp [Cap]) (by rw [cat_one]; simp; omega) (by intro l hl; rw [List.mem_singleton] at hl; rw [hl]; exact hks)) ?_
      refine oe 14100 ?_
      refine on ?_
      refine pr [4, 5] ?_
      refine k_ret ?_
      show retQ _ _ _ _ _ _ _
      simp [*]

end Go.Proofs
end
section
set_option linter.unusedVariables false
set_option linter.unusedSimpArgs false
namespace Go.Proofs
open Go.Flat
set_option maxRecDepth 100000
set_option linter.unusedSimpArgs false
set_option linter.unusedVariables false
attribute [local simp] Bool.and_assoc Bool.or_assoc evalG evalX efD skF guardG guardL isCall stepL evalOp ev evs lk tmpsL app AV.ok fresh vv putCells insV ins del putL place Go.Flat.look fillC fillR getCells loadF storeF binF scalarBin intBin strBin isShift shiftBin unF lenF maxF minF rowsF appendF builtinF idxF natOf sliceP sliceF optEv Flat.cut overwrite toPV toPVs constAV scalarC scalarCs AV.cells TI.isAgg allSome andAll scalarEq buildable Go.Flat.lim retQ resL resAll resOne PartOf noTmp closedIn refs refs.refsL isSomeV hasB ids leA leA.leL renA renA.renL callB refsAll backL dropIds renS LiesAt injB ownB freshB memN locId insAll leA_refl leL_refl okS frzS frzA frzA.frzL evalD feet fine updCells cellsFrom memP footRf footWf noTmpU updIds opOps opIds idsA footR footW guardTs opTs dstTs callR callW renLoc renC inBlockQ thenQ Value.oneCell' IntKind.bits IntKind.signed

def bump (l : Int) (t : Tm) : Tm := if l == 0 then ⟨t.e, IntKind.u64.wrap (t.a + 1), t.b⟩ else ⟨t.e, t.a, IntKind.u64.wrap (t.b + 1)⟩
def nul (l : Int) (t : Tm) : Tm := if l == 0 then ⟨t.e, 0, t.b⟩ else ⟨t.e, t.a, 0⟩
def nxt (l : Int) (u : Up) : Up := ⟨u.k, u.r, bump l u.t, (timesR u.d (-1)).1⟩
def badX (l : Int) (u : Up) : Bool := (timesR u.d (-1)).2 != 0 || chkT (bump l u.t) != 0
/-- What an update that enters a loop adds. -/
def entS (l : Int) (a : List Up × Fa) (u : Up) : List Up × Fa := if badX l u then (a.1 ++ [u], noteR a.2 u.t) else (a.1 ++ [u] ++ [nxt l u], a.2)
def entL (l : Int) (us : List Up) : List Up × Fa := us.foldl (entS l) ([], (false, Tm.zero))
def finR3 (d : List Up × Fa) : List Up × Tm × Int := (d.1, if d.2.1 then d.2.2 else Tm.zero, if d.2.1 then 10 else 0)
def entR (l r : Int) (us : List Up) : List Up × Tm × Int := if refR l r us != 0 then ([], Tm.zero, refR l r us) else finR3 (doneR (entL l us).2 (entL l us).1)
def nulU (l : Int) (u : Up) : Up := ⟨u.k, u.r, nul l u.t, u.d⟩
def leaR (l : Int) (us : List Up) : List Up × Tm × Int := if refR l 1 us != 0 then ([], Tm.zero, refR l 1 us) else finR3 (doneR (false, Tm.zero) (us.map (nulU l)))
theorem entL_snoc {l : Int} {us : List Up} {i : Nat} {x : Up} (h : us[i]? = some x) : entL l (us.take (i + 1)) = entS l (entL l (us.take i)) x := by
  rw [entL, entL, List.take_add_one, h, List.foldl_append]; rfl
theorem entS_sms {l : Int} {a : List Up × Fa} {u : Up} (h : Up.sms a.1) (hu : u.sm) : Up.sms (entS l a u).1 := by
  unfold entS
  split
  · intro v hv
    rcases List.mem_append.1 hv with hv | hv
    · exact h v hv
    · rw [List.mem_singleton] at hv; rw [hv]; exact hu
  · intro v hv
    rcases List.mem_append.1 hv with hv | hv
    · rcases List.mem_append.1 hv with hv | hv
      · exact h v hv
      · rw [List.mem_singleton] at hv; rw [hv]; exact hu
    · rw [List.mem_singleton] at hv; rw [hv]; exact hu
theorem entS_len {l : Int} {a : List Up × Fa} {u : Up} : (entS l a u).1.length ≤ a.1.length + 2 := by
  unfold entS
  split <;> simp
theorem ent_ok (l : Int) {us : List Up} (h : Up.sms us) : ∀ i : Nat, i ≤ us.length → Up.sms (entL l (us.take i)).1 ∧ (entL l (us.take i)).1.length ≤ 2 * i
  | 0, _ => ⟨fun u hu => by simp [entL] at hu, by simp [entL]⟩
  | i + 1, hi => by
    obtain ⟨h1, h2⟩ := ent_ok l h i (by omega)
    obtain ⟨x, hx⟩ : ∃ x, us[i]? = some x := ⟨_, List.getElem?_eq_getElem (by omega)⟩
    rw [entL_snoc hx]
    exact ⟨entS_sms h1 (h x (List.mem_of_getElem? hx)), Nat.le_trans entS_len (by omega)⟩

attribute [local simp] Up.row Tm.av Tm.row finR3 Tm.zero bump in
theorem spec49_0 (r : Int) (us : List Up) (hus : us.length ≤ 4 * Bnd) (hsm : Up.sms us) (h0 : (refR 0 r us != 0) = false) : Flat.Sp Try.prog 49 [vv (.int .i64 0), vv (.int .i64 r), .p (.ps (us.map Up.row))] [] (.tup [.p (.ps ((finR3 (doneR (entL 0 us).2 (entL 0 us).1)).1.map Up.row)), (finR3 (doneR (entL 0 us).2 (entL 0 us).1)).2.1.av, vv (.int .i64 (finR3 (doneR (entL 0 us).2 (entL 0 us).1)).2.2)]) [] := by
  refine sk Try.func49 ?_
  intro F G hn hG
  have hcap : Cap ≤ Flat.lim := by decide
  have hcap2 : Cap = 1073741824 := rfl
  have hus1 : us.length ≤ 4194304 := hus
  have hz0 : entL 0 [] = ([], (false, ⟨0, 0, 0⟩)) := rfl
  refine sq ?_
  refine rg 1000 ?_
  refine pr [0, 1, 2, 6, 7, 8, 9, 10, 12, 13, 14, 15, 16, 17, 18, 19, 20, 21, 22, 23, 24, 25, 26, 27, 28, 29, 30, 31, 32, 33, 34, 36, 37, 38, 39, 40, 41, 42, 43, 44, 45, 46, 47, 48, 49, 50, 51, 52, 53, 54, 55, 56, 57, 58, 59, 60, 61, 62, 63, 64, 65, 66, 67, 69, 70, 71, 73, 74, 75, 76, 77, 78] ?_
  refine sq ?_
  refine sq ?_
  refine rc 2000 ?_
  refine oc id (spec94 0 r us (by omega) hsm) ?_
  refine oe 2100 ?_
  refine on ?_
  refine pr [0, 2, 6, 7, 8, 9, 10, 12, 13, 14, 15, 20, 21, 22, 23, 24, 25, 26, 27, 28, 29, 30, 31, 32, 33, 34, 36, 37, 38, 39, 40, 41, 42, 43, 44, 45, 46, 47, 48, 49, 50, 51, 52, 53, 54, 55, 56, 57, 58, 59, 60, 61, 62, 63, 64, 65, 66, 67, 69, 70, 71, 73, 74, 75, 76, 77, 78] ?_
  refine sq ?_
  refine rg 3000 ?_
  refine pr [0, 2, 6, 7, 8, 9, 10, 12, 13, 14, 15, 21, 22, 23, 24, 25, 26, 27, 28, 29, 30, 31, 32, 33, 34, 36, 37, 38, 39, 40, 41, 42, 43, 44, 45, 46, 47, 48, 49, 50, 51, 52, 53, 54, 55, 56, 57, 58, 59, 60, 61, 62, 63, 64, 65, 66, 67, 69, 70, 71, 73, 74, 75, 76, 77, 78] ?_
  refine ce ?_
  refine k_skip ?_
  refine sq ?_
  refine rg 5000 ?_
  refine pr [0, 2, 6, 7, 8, 10, 12, 13, 14, 15, 26, 27, 28, 29, 30, 31, 32, 33, 34, 36, 37, 38, 39, 40, 41, 42, 43, 44, 45, 46, 47, 48, 49, 50, 51, 52, 53, 54, 55, 56, 57, 58, 59, 60, 61, 62, 63, 64, 65, 66, 67, 69, 70, 71, 73, 74, 75, 76, 77, 78] ?_
  refine ow (.cell 5001 4) 900 92 6 ?_
  refine sq ?_
  refine sq ?_
  refine rg 6000 ?_
  refine pr [0, 6, 7, 8, 10, 12, 13, 14, 15, 26, 27, 28, 29, 30, 31, 32, 33, 34, 36, 37, 38, 39, 40, 41, 42, 43, 44, 45, 46, 47, 48, 49, 50, 51, 52, 53, 54, 55, 56, 57, 58, 59, 60, 61, 62, 63, 64, 65, 66, 67, 69, 70, 71, 73, 74, 75, 76, 77, 78] ?_
  refine k_block ?_
  refine k_loop (fun n l => ∃ i, i + n = us.length ∧ (True) ∧ l = [(.tmp 0, .av (vv (.int .i64 0))), (.tmp 7, .av (.ptr 1001 0)), (.var 1001, .n 3), (.cell 1001 0, .av (vv (.int .u64 0))), (.cell 1001 1, .av (vv (.int .u64 0))), (.cell 1001 2, .av (vv (.int .u64 0))), (.tmp 10, .av (.ptr 5001 0)), (.tmp 26, .av (.p (.ps (us.map Up.row)))), (.tmp 27, .av (vv (.int .i64 us.length))), (.tmp 28, .av (vv (.int .i64 i))), (.var 5001, .n 5), (.cell 5001 0, .av (vv (.bool (entL 0 (us.take i)).2.1))), (.cell 5001 1, .av (vv (.int .u64 (entL 0 (us.take i)).2.2.e))), (.cell 5001 2, .av (vv (.int .u64 (entL 0 (us.take i)).2.2.a))), (.cell 5001 3, .av (vv (.int .u64 (entL 0 (us.take i)).2.2.b))), (.cell 5001 4, .av (.sl 900 (entL 0 (us.take i)).1.length 0 (entL 0 (us.take i)).1.length)), (.arr 900, .arr 92 6 ((entL 0 (us.take i)).1.map Up.row) 0)]) (us.length) hG ⟨_, ⟨by simp [*], by simp, by simp⟩, 0, by simp, trivial, rfl⟩ ?_
  rintro n _ ⟨i, hin, hfa, rfl⟩
  obtain ⟨has, hal⟩ := ent_ok 0 hsm i (by omega)
  obtain ⟨a, ha⟩ : ∃ a, entL 0 (us.take i) = a := ⟨_, rfl⟩
  rw [ha] at has hal
  refine sq ?_
  refine rg 7000 ?_
  refine pr [0, 6, 7, 8, 10, 12, 13, 14, 15, 26, 27, 28, 29, 30, 31, 32, 33, 34, 36, 37, 38, 39, 40, 41, 42, 43, 44, 45, 46, 47, 48, 49, 50, 51, 52, 53, 54, 55, 56, 57, 58, 59, 60, 61, 62, 63, 64, 65, 66, 67, 69, 70, 71, 73, 74, 75, 76, 77, 78] ?_
  refine sq ?_
  refine cd ?_ ?_
  · intro h29_1
    have hlt : i < us.length := by simpa using h29_1
    obtain ⟨x, hxe⟩ : ∃ x, us[i] = x := ⟨_, rfl⟩
    have hx : us[i]? = some x := by simp [hlt, hxe]
    have hw := wrap_succ (show i < Flat.lim by omega)
    have hes := entL_snoc (l := 0) hx
    rw [ha] at hes
    refine k_skip ?_
    refine sq ?_
    refine k_block ?_
    refine sq ?_
    refine rg 8000 ?_
    refine pr [0, 6, 7, 8, 10, 12, 13, 14, 15, 26, 27, 28, 29, 30, 31, 32, 33, 34, 36, 37, 38, 39, 40, 41, 42, 43, 44, 45, 46, 47, 48, 49, 50, 51, 52, 53, 54, 55, 56, 57, 58, 59, 60, 61, 62, 63, 64, 65, 66, 67, 69, 70, 71, 73, 74, 75, 76, 77, 78] ?_
    refine sq ?_
    refine rc 9000 ?_
    refine oc (fun k => if k = 0 then 5001 else 900) (spec83 a.2 a.1 [x] (by simp; omega)) ?_
    refine on ?_
    refine pr [0, 6, 7, 8, 10, 12, 13, 14, 15, 26, 27, 28, 29, 30, 31, 32, 33, 34, 36, 37, 38, 39, 40, 41, 42, 43, 44, 45, 46, 47, 48, 49, 50, 51, 52, 53, 54, 55, 56, 57, 58, 59, 60, 61, 62, 63, 64, 65, 66, 67, 69, 70, 71, 73, 74, 75, 76, 77, 78] ?_
    refine sq ?_
    refine rc 10000 ?_
    refine oc id (spec95 x.d (-1)) ?_
    refine oe 10100 ?_
    refine on ?_
    refine pr [0, 6, 7, 8, 10, 12, 13, 14, 15, 26, 27, 28, 29, 30, 31, 32, 33, 34, 36, 37, 38, 39, 40, 41, 42, 43, 44, 45, 46, 47, 48, 49, 50, 51, 52, 53, 54, 55, 56, 57, 58, 59, 60, 61, 62, 63, 64, 65, 66, 67, 69, 70, 71, 73, 74, 75, 76, 77, 78] ?_
    refine sq ?_
    refine rg 11000 ?_
    refine pr [0, 6, 7, 8, 10, 12, 13, 14, 15, 26, 27, 28, 29, 30, 31, 32, 33, 34, 36, 37, 38, 39, 40, 41, 42, 43, 44, 45, 46, 47, 48, 49, 50, 51, 52, 53, 54, 55, 56, 57, 58, 59, 60, 61, 62, 63, 64, 65, 66, 67, 69, 70, 71, 73, 74, 75, 76, 77, 78] ?_
    refine sq ?_
    refine rg 12000 ?_
    refine pr [0, 6, 7, 8, 10, 12, 13, 14, 15, 26, 27, 28, 29, 30, 31, 32, 33, 34, 36, 37, 38, 39, 40, 41, 42, 43, 44, 45, 46, 47, 48, 49, 50, 51, 52, 53, 54, 55, 56, 57, 58, 59, 60, 61, 62, 63, 64, 65, 66, 67, 69, 70, 71, 73, 74, 75, 76, 77, 78] ?_
    refine sq ?_
    refine rg 13000 ?_
    refine pr [0, 6, 7, 8, 10, 12, 13, 14, 15, 26, 27, 28, 29, 30, 31, 32, 33, 34, 36, 37, 38, 39, 40, 41, 42, 43, 44, 45, 46, 47, 48, 49, 50, 51, 52, 53, 54, 55, 56, 57, 58, 59, 60, 61, 62, 63, 64, 65, 66, 67, 69, 70, 71, 73, 74, 75, 76, 77, 78] ?_
    refine sq ?_
    refine sq ?_
    refine rc 14000 ?_
    iterate 3 (first | refine gp 14250 ?_ | refine os ?_ | refine gt 14250 ?_)
    refine og (fun hg => spec96 (bump 0 x.t)) ?_
    first | refine gp 14450 ?_ | refine os ?_ | refine gt 14450 ?_
    refine oe 14500 ?_
    refine on ?_
    refine pr [0, 6, 7, 8, 10, 12, 13, 14, 15, 26, 27, 28, 29, 30, 31, 32, 33, 34, 36, 37, 38, 39, 40, 41, 42, 43, 44, 45, 46, 47, 48, 49, 50, 51, 52, 53, 54, 55, 56, 57, 58, 59, 60, 61, 62, 63, 64, 65, 66, 67, 69, 70, 71, 73, 74, 75, 76, 77, 78] ?_
    refine cd ?_ ?_
    · intro h62_2
      have hbx : badX 0 x = true := h62_2
      replace hes : entL 0 (us.take (i + 1)) = (a.1 ++ [x], noteR a.2 x.t) := by rw [hes, entS, hbx]; rfl
      refine sq ?_
      refine dr ?_
      refine de 15000 ?_
      refine dc (fun k => if k = 0 then 5001 else 900) (spec82s (a.1 ++ [x]) a.2 x.t) ?_
      refine dn ?_
      refine pr [0, 6, 7, 8, 10, 12, 13, 14, 15, 26, 27, 28, 29, 30, 31, 32, 33, 34, 36, 37, 38, 39, 40, 41, 42, 43, 44, 45, 46, 47, 48, 49, 50, 51, 52, 53, 54, 55, 56, 57, 58, 59, 60, 61, 62, 63, 64, 65, 66, 67, 69, 70, 71, 73, 74, 75, 76, 77, 78] ?_
      refine k_exit ?_
      show AK _ _ _ _ _ _
      refine rg 17000 ?_
      refine k_nil ?_
      refine ⟨n - 1, by omega, _, ⟨?_, ?_, ?_⟩, i + 1, by omega, trivial, rfl⟩ <;> simp [*, *]
    · intro h62_2
      have hbx : badX 0 x = false := h62_2
      replace hes : entL 0 (us.take (i + 1)) = (a.1 ++ [x] ++ [(⟨x.k, x.r, bump 0 x.t, (timesR x.d (-1)).1⟩ : Up)], a.2) := by rw [hes, entS, hbx]; rfl
      refine k_skip ?_
      refine rc 16000 ?_
      refine oc (fun k => if k = 0 then 5001 else 900) (spec83 a.2 (a.1 ++ [x]) [(⟨x.k, x.r, bump 0 x.t, (timesR x.d (-1)).1⟩ : Up)] (by simp; omega)) ?_
      refine on ?_
      refine k_nil ?_
      show AK _ _ _ _ _ _
      refine rg 17000 ?_
      refine k_nil ?_
      refine ⟨n - 1, by omega, _, ⟨?_, ?_, ?_⟩, i + 1, by omega, trivial, rfl⟩ <;> simp [*, *]
  · intro h29_1
    have hge : us.length ≤ i := by simpa using h29_1
    obtain rfl : i = us.length := by omega
    have htk : us.take us.length = us := List.take_length ..
    rw [htk] at ha
    have hfr : (a.1.map Up.row).take a.1.length = a.1.map Up.row := List.take_of_length_le (by simp)
    rw [ha]
    refine fz 900 ?_
    refine k_exit ?_
    show AK _ _ _ _ _ _
    refine sq ?_
    refine rc 18000 ?_
    refine oc (fun _ => 5001) (spec84 a.2 a.1 (by omega) has) ?_
    refine oe 18100 ?_
    refine on ?_
    refine pr [6, 7, 8] ?_
    refine k_ret ?_
    show retQ _ _ _ _ _ _ _
    simp [*]

attribute [local simp] Up.row Tm.av Tm.row finR3 Tm.zero bump in
theorem spec49_1 (r : Int) (us : List Up) (hus : us.length ≤ 4 * Bnd) (hsm : Up.sms us) (h0 : (refR 1 r us != 0) = false) : Flat.Sp Try.prog 49 [vv (.int .i64 1), vv (.int .i64 r), .p (.ps (us.map Up.row))] [] (.tup [.p (.ps ((finR3 (doneR (entL 1 us).2 (entL 1 us).1)).1.map Up.row)), (finR3 (doneR (entL 1 us).2 (entL 1 us).1)).2.1.av, vv (.int .i64 (finR3 (doneR (entL 1 us).2 (entL 1 us).1)).2.2)]) [] := by
  refine sk Try.func49 ?_
  intro F G hn hG
  have hcap : Cap ≤ Flat.lim := by decide
  have hcap2 : Cap = 1073741824 := rfl
  have hus1 : us.length ≤ 4194304 := hus
  have hz0 : entL 1 [] = ([], (false, ⟨0, 0, 0⟩)) := rfl
  refine sq ?_
  refine rg 1000 ?_
  refine pr [0, 1, 2, 6, 7, 8, 9, 10, 12, 13, 14, 15, 16, 17, 18, 19, 20, 21, 22, 23, 24, 25, 26, 27, 28, 29, 30, 31, 32, 33, 34, 36, 37, 38, 39, 40, 41, 42, 43, 44, 45, 46, 47, 48, 49, 50, 51, 52, 53, 54, 55, 56, 57, 58, 59, 60, 61, 62, 63, 64, 65, 66, 67, 69, 70, 71, 73, 74, 75, 76, 77, 78] ?_
  refine sq ?_
  refine sq ?_
  refine rc 2000 ?_
  refine oc id (spec94 1 r us (by omega) hsm) ?_
  refine oe 2100 ?_
  refine on ?_
  refine pr [0, 2, 6, 7, 8, 9, 10, 12, 13, 14, 15, 20, 21, 22, 23, 24, 25, 26, 27, 28, 29, 30, 31, 32, 33, 34, 36, 37, 38, 39, 40, 41, 42, 43, 44, 45, 46, 47, 48, 49, 50, 51, 52, 53, 54, 55, 56, 57, 58, 59, 60, 61, 62, 63, 64, 65, 66, 67, 69, 70, 71, 73, 74, 75, 76, 77, 78] ?_
  refine sq ?_
  refine rg 3000 ?_
  refine pr [0, 2, 6, 7, 8, 9, 10, 12, 13, 14, 15, 21, 22, 23, 24, 25, 26, 27, 28, 29, 30, 31, 32, 33, 34, 36, 37, 38, 39, 40, 41, 42, 43, 44, 45, 46, 47, 48, 49, 50, 51, 52, 53, 54, 55, 56, 57, 58, 59, 60, 61, 62, 63, 64, 65, 66, 67, 69, 70, 71, 73, 74, 75, 76, 77, 78] ?_
  refine ce ?_
  refine k_skip ?_
  refine sq ?_
  refine rg 5000 ?_
  refine pr [0, 2, 6, 7, 8, 10, 12, 13, 14, 15, 26, 27, 28, 29, 30, 31, 32, 33, 34, 36, 37, 38, 39, 40, 41, 42, 43, 44, 45, 46, 47, 48, 49, 50, 51, 52, 53, 54, 55, 56, 57, 58, 59, 60, 61, 62, 63, 64, 65, 66, 67, 69, 70, 71, 73, 74, 75, 76, 77, 78] ?_
  refine ow (.cell 5001 4) 900 92 6 ?_
  refine sq ?_
  refine sq ?_
  refine rg 6000 ?_
  refine pr [0, 6, 7, 8, 10, 12, 13, 14, 15, 26, 27, 28, 29, 30, 31, 32, 33, 34, 36, 37, 38, 39, 40, 41, 42, 43, 44, 45, 46, 47, 48, 49, 50, 51, 52, 53, 54, 55, 56, 57, 58, 59, 60, 61, 62, 63, 64, 65, 66, 67, 69, 70, 71, 73, 74, 75, 76, 77, 78] ?_
  refine k_block ?_
  refine k_loop (fun n l => ∃ i, i + n = us.length ∧ (True) ∧ l = [(.tmp 0, .av (vv (.int .i64 1))), (.tmp 7, .av (.ptr 1001 0)), (.var 1001, .n 3), (.cell 1001 0, .av (vv (.int .u64 0))), (.cell 1001 1, .av (vv (.int .u64 0))), (.cell 1001 2, .av (vv (.int .u64 0))), (.tmp 10, .av (.ptr 5001 0)), (.tmp 26, .av (.p (.ps (us.map Up.row)))), (.tmp 27, .av (vv (.int .i64 us.length))), (.tmp 28, .av (vv (.int .i64 i))), (.var 5001, .n 5), (.cell 5001 0, .av (vv (.bool (entL 1 (us.take i)).2.1))), (.cell 5001 1, .av (vv (.int .u64 (entL 1 (us.take i)).2.2.e))), (.cell 5001 2, .av (vv (.int .u64 (entL 1 (us.take i)).2.2.a))), (.cell 5001 3, .av (vv (.int .u64 (entL 1 (us.take i)).2.2.b))), (.cell 5001 4, .av (.sl 900 (entL 1 (us.take i)).1.length 0 (entL 1 (us.take i)).1.length)), (.arr 900, .arr 92 6 ((entL 1 (us.take i)).1.map Up.row) 0)]) (us.length) hG ⟨_, ⟨by simp [*], by simp, by simp⟩, 0, by simp, trivial, rfl⟩ ?_
  rintro n _ ⟨i, hin, hfa, rfl⟩
  obtain ⟨has, hal⟩ := ent_ok 1 hsm i (by omega)
  obtain ⟨a, ha⟩ : ∃ a, entL 1 (us.take i) = a := ⟨_, rfl⟩
  rw [ha] at has hal
  refine sq ?_
  refine rg 7000 ?_
  refine pr [0, 6, 7, 8, 10, 12, 13, 14, 15, 26, 27, 28, 29, 30, 31, 32, 33, 34, 36, 37, 38, 39, 40, 41, 42, 43, 44, 45, 46, 47, 48, 49, 50, 51, 52, 53, 54, 55, 56, 57, 58, 59, 60, 61, 62, 63, 64, 65, 66, 67, 69, 70, 71, 73, 74, 75, 76, 77, 78] ?_
  refine sq ?_
  refine cd ?_ ?_
  · intro h29_1
    have hlt : i < us.length := by simpa using h29_1
    obtain ⟨x, hxe⟩ : ∃ x, us[i] = x := ⟨_, rfl⟩
    have hx : us[i]? = some x := by simp [hlt, hxe]
    have hw := wrap_succ (show i < Flat.lim by omega)
    have hes := entL_snoc (l := 1) hx
    rw [ha] at hes
    refine k_skip ?_
    refine sq ?_
    refine k_block ?_
    refine sq ?_
    refine rg 8000 ?_
    refine pr [0, 6, 7, 8, 10, 12, 13, 14, 15, 26, 27, 28, 29, 30, 31, 32, 33, 34, 36, 37, 38, 39, 40, 41, 42, 43, 44, 45, 46, 47, 48, 49, 50, 51, 52, 53, 54, 55, 56, 57, 58, 59, 60, 61, 62, 63, 64, 65, 66, 67, 69, 70, 71, 73, 74, 75, 76, 77, 78] ?_
    refine sq ?_
    refine rc 9000 ?_
    refine oc (fun k => if k = 0 then 5001 else 900) (spec83 a.2 a.1 [x] (by simp; omega)) ?_
    refine on ?_
    refine pr [0, 6, 7, 8, 10, 12, 13, 14, 15, 26, 27, 28, 29, 30, 31, 32, 33, 34, 36, 37, 38, 39, 40, 41, 42, 43, 44, 45, 46, 47, 48, 49, 50, 51, 52, 53, 54, 55, 56, 57, 58, 59, 60, 61, 62, 63, 64, 65, 66, 67, 69, 70, 71, 73, 74, 75, 76, 77, 78] ?_
    refine sq ?_
    refine rc 10000 ?_
    refine oc id (spec95 x.d (-1)) ?_
    refine oe 10100 ?_
    refine on ?_
    refine pr [0, 6, 7, 8, 10, 12, 13, 14, 15, 26, 27, 28, 29, 30, 31, 32, 33, 34, 36, 37, 38, 39, 40, 41, 42, 43, 44, 45, 46, 47, 48, 49, 50, 51, 52, 53, 54, 55, 56, 57, 58, 59, 60, 61, 62, 63, 64, 65, 66, 67, 69, 70, 71, 73, 74, 75, 76, 77, 78] ?_
    refine sq ?_
    refine rg 11000 ?_
    refine pr [0, 6, 7, 8, 10, 12, 13, 14, 15, 26, 27, 28, 29, 30, 31, 32, 33, 34, 36, 37, 38, 39, 40, 41, 42, 43, 44, 45, 46, 47, 48, 49, 50, 51, 52, 53, 54, 55, 56, 57, 58, 59, 60, 61, 62, 63, 64, 65, 66, 67, 69, 70, 71, 73, 74, 75, 76, 77, 78] ?_
    refine sq ?_
    refine rg 12000 ?_
    refine pr [0, 6, 7, 8, 10, 12, 13, 14, 15, 26, 27, 28, 29, 30, 31, 32, 33, 34, 36, 37, 38, 39, 40, 41, 42, 43, 44, 45, 46, 47, 48, 49, 50, 51, 52, 53, 54, 55, 56, 57, 58, 59, 60, 61, 62, 63, 64, 65, 66, 67, 69, 70, 71, 73, 74, 75, 76, 77, 78] ?_
    refine sq ?_
    refine rg 13000 ?_
    refine pr [0, 6, 7, 8, 10, 12, 13, 14, 15, 26, 27, 28, 29, 30, 31, 32, 33, 34, 36, 37, 38, 39, 40, 41, 42, 43, 44, 45, 46, 47, 48, 49, 50, 51, 52, 53, 54, 55, 56, 57, 58, 59, 60, 61, 62, 63, 64, 65, 66, 67, 69, 70, 71, 73, 74, 75, 76, 77, 78] ?_
    refine sq ?_
    refine sq ?_
    refine rc 14000 ?_
    iterate 3 (first | refine gp 14250 ?_ | refine os ?_ | refine gt 14250 ?_)
    refine og (fun hg => spec96 (bump 1 x.t)) ?_
    first | refine gp 14450 ?_ | refine os ?_ | refine gt 14450 ?_
    refine oe 14500 ?_
    refine on ?_
    refine pr [0, 6, 7, 8, 10, 12, 13, 14, 15, 26, 27, 28, 29, 30, 31, 32, 33, 34, 36, 37, 38, 39, 40, 41, 42, 43, 44, 45, 46, 47, 48, 49, 50, 51, 52, 53, 54, 55, 56, 57, 58, 59, 60, 61, 62, 63, 64, 65, 66, 67, 69, 70, 71, 73, 74, 75, 76, 77, 78] ?_
    refine cd ?_ ?_
    · intro h62_2
      have hbx : badX 1 x = true := h62_2
      replace hes : entL 1 (us.take (i + 1)) = (a.1 ++ [x], noteR a.2 x.t) := by rw [hes, entS, hbx]; rfl
      refine sq ?_
      refine dr ?_
      refine de 15000 ?_
      refine dc (fun k => if k = 0 then 5001 else 900) (spec82s (a.1 ++ [x]) a.2 x.t) ?_
      refine dn ?_
      refine pr [0, 6, 7, 8, 10, 12, 13, 14, 15, 26, 27, 28, 29, 30, 31, 32, 33, 34, 36, 37, 38, 39, 40, 41, 42, 43, 44, 45, 46, 47, 48, 49, 50, 51, 52, 53, 54, 55, 56, 57, 58, 59, 60, 61, 62, 63, 64, 65, 66, 67, 69, 70, 71, 73, 74, 75, 76, 77, 78] ?_
      refine k_exit ?_
      show AK _ _ _ _ _ _
      refine rg 17000 ?_
      refine k_nil ?_
      refine ⟨n - 1, by omega, _, ⟨?_, ?_, ?_⟩, i + 1, by omega, trivial, rfl⟩ <;> simp [*, *]
    · intro h62_2
      have hbx : badX 1 x = false := h62_2
      replace hes : entL 1 (us.take (i + 1)) = (a.1 ++ [x] ++ [(⟨x.k, x.r, bump 1 x.t, (timesR x.d (-1)).1⟩ : Up)], a.2) := by rw [hes, entS, hbx]; rfl
      refine k_skip ?_
      refine rc 16000 ?_
      refine oc (fun k => if k = 0 then 5001 else 900) (spec83 a.2 (a.1 ++ [x]) [(⟨x.k, x.r, bump 1 x.t, (timesR x.d (-1)).1⟩ : Up)] (by simp; omega)) ?_
      refine on ?_
      refine k_nil ?_
      show AK _ _ _ _ _ _
      refine rg 17000 ?_
      refine k_nil ?_
      refine ⟨n - 1, by omega, _, ⟨?_, ?_, ?_⟩, i + 1, by omega, trivial, rfl⟩ <;> simp [*, *]
  · intro h29_1
    have hge : us.length ≤ i := by simpa using h29_1
    obtain rfl : i = us.length := by omega
    have htk : us.take us.length = us := List.take_length ..
    rw [htk] at ha
    have hfr : (a.1.map Up.row).take a.1.length = a.1.map Up.row := List.take_of_length_le (by simp)
    rw [ha]
    refine fz 900 ?_
    refine k_exit ?_
    show AK _ _ _ _ _ _
    refine sq ?_
    refine rc 18000 ?_
    refine oc (fun _ => 5001) (spec84 a.2 a.1 (by omega) has) ?_
    refine oe 18100 ?_
    refine on ?_
    refine pr [6, 7, 8] ?_
    refine k_ret ?_
    show retQ _ _ _ _ _ _ _
    simp [*]

end Go.Proofs
end
section
set_option linter.unusedVariables false
set_option linter.unusedSimpArgs false
namespace Go.Proofs
open Go.Flat
set_option maxRecDepth 100000
set_option linter.unusedSimpArgs false
set_option linter.unusedVariables false
attribute [local simp] Bool.and_assoc Bool.or_assoc evalG evalX efD skF guardG guardL isCall stepL evalOp ev evs lk tmpsL app AV.ok fresh vv putCells insV ins del putL place Go.Flat.look fillC fillR getCells loadF storeF binF scalarBin intBin strBin isShift shiftBin unF lenF maxF minF rowsF appendF builtinF idxF natOf sliceP sliceF optEv Flat.cut overwrite toPV toPVs constAV scalarC scalarCs AV.cells TI.isAgg allSome andAll scalarEq buildable Go.Flat.lim retQ resL resAll resOne PartOf noTmp closedIn refs refs.refsL isSomeV hasB ids leA leA.leL renA renA.renL callB refsAll backL dropIds renS LiesAt injB ownB freshB memN locId insAll leA_refl leL_refl okS frzS frzA frzA.frzL evalD feet fine updCells cellsFrom memP footRf footWf noTmpU updIds opOps opIds idsA footR footW guardTs opTs dstTs callR callW renLoc renC inBlockQ thenQ Value.oneCell' IntKind.bits IntKind.signed

attribute [local simp] Up.row Tm.av finR3 Tm.zero nul in
theorem spec51_0 (us : List Up) (hus : us.length ≤ Cap) (hsm : Up.sms us) (h0 : (refR 0 1 us != 0) = false) : Flat.Sp Try.prog 51 [vv (.int .i64 0), .p (.ps (us.map Up.row))] [] (.tup [.p (.ps ((finR3 (doneR (false, Tm.zero) (us.map (nulU 0)))).1.map Up.row)), (finR3 (doneR (false, Tm.zero) (us.map (nulU 0)))).2.1.av, vv (.int .i64 (finR3 (doneR (false, Tm.zero) (us.map (nulU 0)))).2.2)]) [] := by
  refine sk Try.func51 ?_
  intro F G hn hG
  have hcap : Cap ≤ Flat.lim := by decide
  have hcap2 : Cap = 1073741824 := rfl
  have hks : Up.sms (us.map (nulU 0)) := by
    intro u hu
    obtain ⟨v, hv, rfl⟩ := List.mem_map.1 hu
    exact hsm v hv
  refine sq ?_
  refine rg 1000 ?_
  refine pr [0, 1, 4, 5, 6, 7, 8, 9, 10, 11, 12, 13, 14, 15, 16, 17, 18, 19, 20, 21, 22, 23, 24, 25, 26, 27, 28, 29, 30, 31, 32, 33, 34, 35, 36, 37, 38, 39, 40, 41, 42, 43, 44] ?_
  refine sq ?_
  refine sq ?_
  refine rc 2000 ?_
  refine oc id (spec94 0 1 us (by omega) hsm) ?_
  refine oe 2100 ?_
  refine on ?_
  refine pr [0, 1, 4, 5, 6, 7, 8, 9, 13, 14, 15, 16, 17, 18, 19, 20, 21, 22, 23, 24, 25, 26, 27, 28, 29, 30, 31, 32, 33, 34, 35, 36, 37, 38, 39, 40, 41, 42, 43, 44] ?_
  refine sq ?_
  refine rg 3000 ?_
  refine pr [0, 1, 4, 5, 6, 7, 8, 9, 14, 15, 16, 17, 18, 19, 20, 21, 22, 23, 24, 25, 26, 27, 28, 29, 30, 31, 32, 33, 34, 35, 36, 37, 38, 39, 40, 41, 42, 43, 44] ?_
  refine ce ?_
  refine k_skip ?_
  refine sq ?_
  refine rc 5000 ?_
  refine oc id (spec92 us hus) ?_
  refine oe 5100 ?_
  refine on ?_
  refine pr [0, 4, 5, 6, 8, 9, 21, 22, 23, 24, 25, 26, 27, 28, 29, 30, 31, 32, 33, 34, 35, 36, 37, 38, 39, 40, 41, 42, 43, 44] ?_
  refine sq ?_
  refine sq ?_
  refine rg 6000 ?_
  refine pr [0, 4, 5, 6, 8, 9, 25, 26, 27, 28, 29, 30, 31, 32, 33, 34, 35, 36, 37, 38, 39, 40, 41, 42, 43, 44] ?_
  refine k_block ?_
  refine k_loop (fun n l => ∃ (i : Nat) (cur : List Up), i + n = us.length ∧ MapTo (nulU 0) us cur i ∧ l = [(.tmp 0, .av (vv (.int .i64 0))), (.tmp 5, .av (.ptr 1001 0)), (.var 1001, .n 3), (.cell 1001 0, .av (vv (.int .u64 0))), (.cell 1001 1, .av (vv (.int .u64 0))), (.cell 1001 2, .av (vv (.int .u64 0))), (.tmp 8, .av (.ptr 5101 0)), (.tmp 25, .av (vv (.int .i64 us.length))), (.tmp 26, .av (vv (.int .i64 i))), (.var 5101, .n 5), (.cell 5101 0, .av (vv (.bool false))), (.cell 5101 1, .av (vv (.int .u64 0))), (.cell 5101 2, .av (vv (.int .u64 0))), (.cell 5101 3, .av (vv (.int .u64 0))), (.cell 5101 4, .av (.sl 4002 us.length 0 us.length)), (.arr 4002, .arr 92 6 (cur.map Up.row) 0)]) (us.length) hG ⟨_, ⟨by simp, by simp, by simp⟩, 0, us, by simp, .start _ _, rfl⟩ ?_
  rintro n _ ⟨i, cur, hin, hM, rfl⟩
  have hcl := hM.len
  refine sq ?_
  refine rg 7000 ?_
  refine pr [0, 4, 5, 6, 8, 9, 25, 26, 27, 28, 29, 30, 31, 32, 33, 34, 35, 36, 37, 38, 39, 40, 41, 42, 43, 44] ?_
  refine sq ?_
  refine cd ?_ ?_
  · intro h27_1
    have hlt : i < us.length := by simpa using h27_1
    obtain ⟨x, hxe⟩ : ∃ x, us[i] = x := ⟨_, rfl⟩
    have hx : us[i]? = some x := by simp [hlt, hxe]
    have hw := wrap_succ (show i < Flat.lim by omega)
    have hcx : cur[i]? = some x := by rw [hM.hi i (Nat.le_refl _)]; exact hx
    have hcx2 : ∀ h : i < cur.length, cur[i]'h = x := fun h => (List.getElem?_eq_some_iff.1 hcx).2
    have hicl : i < cur.length := by omega
    refine k_skip ?_
    refine sq ?_
    refine k_block ?_
    refine sq ?_
    refine rg 8000 ?_
    refine pr [0, 4, 5, 6, 8, 9, 25, 26, 27, 28, 29, 30, 31, 32, 33, 34, 35, 36, 37, 38, 39, 40, 41, 42, 43, 44] ?_
    refine rg 9000 ?_
    refine k_nil ?_
    show AK _ _ _ _ _ _
    refine rg 10000 ?_
    refine k_nil ?_
    refine ⟨n - 1, by omega, _, ⟨?_, ?_, ?_⟩, i + 1, cur.set i (nulU 0 x), by omega, hM.step hx, rfl⟩ <;> simp [*, nulU]
  · intro h27_1
    have hge : us.length ≤ i := by simpa using h27_1
    obtain rfl : i = us.length := by omega
    obtain rfl := hM.done (Nat.le_refl _)
    have hfr : (us.map (Up.row ∘ nulU 0)).take us.length = us.map (Up.row ∘ nulU 0) := List.take_of_length_le (by simp)
    refine fz 4002 ?_
    refine k_exit ?_
    show AK _ _ _ _ _ _
    refine sq ?_
    refine rc 11000 ?_
    refine oc (fun _ => 5101) (spec84 (false, Tm.zero) (us.map (nulU 0)) (by simp; omega) hks) ?_
    refine oe 11100 ?_
    refine on ?_
    refine pr [4, 5, 6] ?_
    refine k_ret ?_
    show retQ _ _ _ _ _ _ _
    simp [*]

attribute [local simp] Up.row Tm.av finR3 Tm.zero nul in
theorem spec51_1 (us : List Up) (hus : us.length ≤ Cap) (hsm : Up.sms us) (h0 : (refR 1 1 us != 0) = false) : Flat.Sp Try.prog 51 [vv (.int .i64 1), .p (.ps (us.map Up.row))] [] (.tup [.p (.ps ((finR3 (doneR (false, Tm.zero) (us.map (nulU 1)))).1.map Up.row)), (finR3 (doneR (false, Tm.zero) (us.map (nulU 1)))).2.1.av, vv (.int .i64 (finR3 (doneR (false, Tm.zero) (us.map (nulU 1)))).2.2)]) [] := by
  refine sk Try.func51 ?_
  intro F G hn hG
  have hcap : Cap ≤ Flat.lim := by decide
  have hcap2 : Cap = 1073741824 := rfl
  have hks : Up.sms (us.map (nulU 1)) := by
    intro u hu
    obtain ⟨v, hv, rfl⟩ := List.mem_map.1 hu
    exact hsm v hv
  refine sq ?_
  refine rg 1000 ?_
  refine pr [0, 1, 4, 5, 6, 7, 8, 9, 10, 11, 12, 13, 14, 15, 16, 17, 18, 19, 20, 21, 22, 23, 24, 25, 26, 27, 28, 29, 30, 31, 32, 33, 34, 35, 36, 37, 38, 39, 40, 41, 42, 43, 44] ?_
  refine sq ?_
  refine sq ?_
  refine rc 2000 ?_
  refine oc id (spec94 1 1 us (by omega) hsm) ?_
  refine oe 2100 ?_
  refine on ?_
  refine pr [0, 1, 4, 5, 6, 7, 8, 9, 13, 14, 15, 16, 17, 18, 19, 20, 21, 22, 23, 24, 25, 26, 27, 28, 29, 30, 31, 32, 33, 34, 35, 36, 37, 38, 39, 40, 41, 42, 43, 44] ?_
  refine sq ?_
  refine rg 3000 ?_
  refine pr [0, 1, 4, 5, 6, 7, 8, 9, 14, 15, 16, 17, 18, 19, 20, 21, 22, 23, 24, 25, 26, 27, 28, 29, 30, 31, 32, 33, 34, 35, 36, 37, 38, 39, 40, 41, 42, 43, 44] ?_
  refine ce ?_
  refine k_skip ?_
  refine sq ?_
  refine rc 5000 ?_
  refine oc id (spec92 us hus) ?_
  refine oe 5100 ?_
  refine on ?_
  refine pr [0, 4, 5, 6, 8, 9, 21, 22, 23, 24, 25, 26, 27, 28, 29, 30, 31, 32, 33, 34, 35, 36, 37, 38, 39, 40, 41, 42, 43, 44] ?_
  refine sq ?_
  refine sq ?_
  refine rg 6000 ?_
  refine pr [0, 4, 5, 6, 8, 9, 25, 26, 27, 28, 29, 30, 31, 32, 33, 34, 35, 36, 37, 38, 39, 40, 41, 42, 43, 44] ?_
  refine k_block ?_
  refine k_loop (fun n l => ∃ (i : Nat) (cur : List Up), i + n = us.length ∧ MapTo (nulU 1) us cur i ∧ l = [(.tmp 0, .av (vv (.int .i64 1))), (.tmp 5, .av (.ptr 1001 0)), (.var 1001, .n 3), (.cell 1001 0, .av (vv (.int .u64 0))), (.cell 1001 1, .av (vv (.int .u64 0))), (.cell 1001 2, .av (vv (.int .u64 0))), (.tmp 8, .av (.ptr 5101 0)), (.tmp 25, .av (vv (.int .i64 us.length))), (.tmp 26, .av (vv (.int .i64 i))), (.var 5101, .n 5), (.cell 5101 0, .av (vv (.bool false))), (.cell 5101 1, .av (vv (.int .u64 0))), (.cell 5101 2, .av (vv (.int .u64 0))), (.cell 5101 3, .av (vv (.int .u64 0))), (.cell 5101 4, .av (.sl 4002 us.length 0 us.length)), (.arr 4002, .arr 92 6 (cur.map Up.row) 0)]) (us.length) hG ⟨_, ⟨by simp, by simp, by simp⟩, 0, us, by simp, .start _ _, rfl⟩ ?_
  rintro n _ ⟨i, cur, hin, hM, rfl⟩
  have hcl := hM.len
  refine sq ?_
  refine rg 7000 ?_
  refine pr [0, 4, 5, 6, 8, 9, 25, 26, 27, 28, 29, 30, 31, 32, 33, 34, 35, 36, 37, 38, 39, 40, 41, 42, 43, 44] ?_
  refine sq ?_
  refine cd ?_ ?_
  · intro h27_1
    have hlt : i < us.length := by simpa using h27_1
    obtain ⟨x, hxe⟩ : ∃ x, us[i] = x := ⟨_, rfl⟩
    have hx : us[i]? = some x := by simp [hlt, hxe]
    have hw := wrap_succ (show i < Flat.lim by omega)
    have hcx : cur[i]? = some x := by rw [hM.hi i (Nat.le_refl _)]; exact hx
    have hcx2 : ∀ h : i < cur.length, cur[i]'h = x := fun h => (List.getElem?_eq_some_iff.1 hcx).2
    have hicl : i < cur.length := by omega
    refine k_skip ?_
    refine sq ?_
    refine k_block ?_
    refine sq ?_
    refine rg 8000 ?_
    refine pr [0, 4, 5, 6, 8, 9, 25, 26, 27, 28, 29, 30, 31, 32, 33, 34, 35, 36, 37, 38, 39, 40, 41, 42, 43, 44] ?_
    refine rg 9000 ?_
    refine k_nil ?_
    show AK _ _ _ _ _ _
    refine rg 10000 ?_
    refine k_nil ?_
    refine ⟨n - 1, by omega, _, ⟨?_, ?_, ?_⟩, i + 1, cur.set i (nulU 1 x), by omega, hM.step hx, rfl⟩ <;> simp [*, nulU]
  · intro h27_1
    have hge : us.length ≤ i := by simpa using h27_1
    obtain rfl : i = us.length := by omega
    obtain rfl := hM.done (Nat.le_refl _)
    have hfr : (us.map (Up.row ∘ nulU 1)).take us.length = us.map (Up.row ∘ nulU 1) := List.take_of_length_le (by simp)
    refine fz 4002 ?_
    refine k_exit ?_
    show AK _ _ _ _ _ _
    refine sq ?_
    refine rc 11000 ?_
    refine oc (fun _ => 5101) (spec84 (false, Tm.zero) (us.map (nulU 1)) (by simp; omega) hks) ?_
    refine oe 11100 ?_
    refine on ?_
    refine pr [4, 5, 6] ?_
    refine k_ret ?_
    show retQ _ _ _ _ _ _ _
    simp [*]

end Go.Proofs
end
