/-
  Contracts: what is the same, and even.
  Contracts: lists of updates that are the same.
  Contracts: what is there at a time.
  Plain laws of sums of two words.
  What is evened out: in line, of each thing one, with the sum of its numbers.
  Contracts: round a loop, once.
  What the law's first question comes to.
  The laws of what is made of updates, without a program.
  Sums of counts: they hang on the sums of each row alone.
  What is made of updates is no longer than they are.
  The plain law of rounds.
  Contracts: the first question.
  Contracts: rounds.
-/
import Derived.Test.YtgkkoeodinlffaaPartK
import Derived.Test.YtgkkoeodinlffaaFlatL
import Derived.Test.YtgkkoeodinlffaaPartI
import Derived.Test.YtgkkoeodinlffaaPartE
section
set_option linter.unusedVariables false
set_option linter.unusedSimpArgs false
namespace Go.Proofs
open Go.Flat
set_option maxRecDepth 100000
set_option linter.unusedSimpArgs false
set_option linter.unusedVariables false
attribute [local simp] Bool.and_assoc Bool.or_assoc evalG evalX efD skF guardG guardL isCall stepL evalOp ev evs lk tmpsL app AV.ok fresh vv putCells insV ins del putL place Go.Flat.look fillC fillR getCells loadF storeF binF scalarBin intBin strBin isShift shiftBin unF lenF maxF minF rowsF appendF builtinF idxF natOf sliceP sliceF optEv Flat.cut overwrite toPV toPVs constAV scalarC scalarCs AV.cells TI.isAgg allSome andAll scalarEq buildable Go.Flat.lim retQ resL resAll resOne PartOf noTmp closedIn refs refs.refsL isSomeV hasB ids leA leA.leL renA renA.renL callB refsAll backL dropIds renS LiesAt injB ownB freshB memN locId insAll leA_refl leL_refl okS frzS frzA frzA.frzL evalD feet fine updCells cellsFrom memP footRf footWf noTmpU updIds opOps opIds idsA footR footW guardTs opTs dstTs callR callW renLoc renC inBlockQ thenQ Value.oneCell' IntKind.bits IntKind.signed

def sameBy {α : Type} (f : α → α → Bool) : List α → List α → Bool
  | [], [] => true
  | x :: xs, y :: ys => f x y && sameBy f xs ys
  | _, _ => false
theorem sameBy_len {α : Type} {f : α → α → Bool} : ∀ {xs ys : List α}, xs.length ≠ ys.length → sameBy f xs ys = false
  | [], [], h => absurd rfl h
  | [], _ :: _, _ => rfl
  | _ :: _, [], _ => rfl
  | x :: xs, y :: ys, h => by rw [sameBy, sameBy_len (f := f) (xs := xs) (ys := ys) (by simpa using h), Bool.and_false]
theorem sameBy_iff {α : Type} {f : α → α → Bool} (h : ∀ x y, f x y = true ↔ x = y) : ∀ xs ys : List α, sameBy f xs ys = true ↔ xs = ys
  | [], [] => by simp [sameBy]
  | [], _ :: _ => by simp [sameBy]
  | _ :: _, [] => by simp [sameBy]
  | x :: xs, y :: ys => by rw [sameBy, Bool.and_eq_true, h, sameBy_iff h xs ys, List.cons.injEq]
theorem eqB_of {x y : Val} {b : Bool} (h : (!x.t == y.t || (!x.n == y.n || !x.s.toList == y.s.toList)) = b) : x.eqB y = !b := by
  rw [← h, Val.eqB]
  cases (x.t == y.t) <;> cases (x.n == y.n) <;> cases (x.s.toList == y.s.toList) <;> rfl
def sameV (a b : List Val) : Bool := sameBy Val.eqB a b
attribute [local simp] Val.row Val.av Val.eqB in
set_option maxHeartbeats 8000000 in
theorem spec91 (xs ys : List Val) (hlx : xs.length ≤ Flat.lim) (hly : ys.length ≤ Flat.lim)  : Flat.Sp Try.prog 91 [.p (.ps (xs.map Val.row)), .p (.ps (ys.map Val.row))] [] (vv (.bool (sameBy Val.eqB xs ys))) [] := by
  refine sk Try.func91 ?_
  intro F G hn hG
  refine sq ?_
  refine rg 1000 ?_
  refine pr [0, 2, 4, 26] ?_
  refine sq ?_
  refine sq ?_
  refine rg 2000 ?_
  refine pr [0, 2, 4, 6, 10, 26] ?_
  refine cd ?_ ?_
  · intro h10_1
    have hne : xs.length ≠ ys.length := by have := h10_1; simp at this; omega
    have hfin := sameBy_len (f := Val.eqB) hne
    refine sq ?_
    refine rg 3000 ?_
    refine pr [0, 2, 4, 6, 11, 26] ?_
    refine k_ret ?_
    show retQ _ _ _ _ _ _ _
    simp [*]
  · intro h10_1
    have hxy : ys.length = xs.length := by have := h10_1; simp at this; omega
    refine k_skip ?_
    refine sq ?_
    refine sq ?_
    refine rg 4000 ?_
    refine pr [0, 2, 4, 6, 12, 26] ?_
    refine k_block ?_
    refine k_loop (fun n l => ∃ i, i + n = xs.length ∧ (sameBy Val.eqB (xs.drop i) (ys.drop i) = sameBy Val.eqB xs ys) ∧ l = [(.tmp 0, .av (.p (.ps (xs.map Val.row)))), (.tmp 1, .av (.p (.ps (ys.map Val.row)))), (.tmp 12, .av (vv (.int .i64 xs.length))), (.tmp 13, .av (vv (.int .i64 i)))]) (xs.length) hG ⟨_, ⟨by simp, by simp, by simp⟩, 0, by simp, rfl, rfl⟩ ?_
    rintro n _ ⟨i, hin, hfa, rfl⟩
    have hcm := hfa
    refine sq ?_
    refine rg 5000 ?_
    refine pr [0, 2, 4, 6, 12, 26] ?_
    refine sq ?_
    refine cd ?_ ?_
    · intro h14_2
      have hlt : i < xs.length := by simpa using h14_2
      obtain ⟨x, hxe⟩ : ∃ x, xs[i] = x := ⟨_, rfl⟩
      have hx : xs[i]? = some x := by simp [hlt, hxe]
      have hw := wrap_succ (show i < Flat.lim by omega)
      have hlty : i < ys.length := by omega
      obtain ⟨y, hye⟩ : ∃ y, ys[i] = y := ⟨_, rfl⟩
      have hy : ys[i]? = some y := by simp [hlty, hye]
      rw [drop_at hx, drop_at hy] at hcm
      have hcm : (Val.eqB x y && sameBy Val.eqB (xs.drop (i + 1)) (ys.drop (i + 1))) = sameBy Val.eqB xs ys := hcm
      refine k_skip ?_
      refine sq ?_
      refine k_block ?_
      refine sq ?_
      refine rg 6000 ?_
      refine pr [0, 2, 4, 6, 12, 26] ?_
      refine sq ?_
      refine dr ?_
      refine de 7000 ?_
      refine dn ?_
      refine pr [0, 2, 4, 6, 12, 26] ?_
      refine cd ?_ ?_
      · intro h24_3
        have h2 : Val.eqB x y = false := eqB_of h24_3
        rw [h2] at hcm
        have hfin : sameBy Val.eqB xs ys = false := hcm.symm
        refine sq ?_
        refine rg 8000 ?_
        refine pr [0, 2, 4, 6, 12, 26] ?_
        refine k_ret ?_
        show retQ _ _ _ _ _ _ _
        simp [*]
      · intro h24_3
        have h2 : Val.eqB x y = true := eqB_of h24_3
        rw [h2] at hcm
        have hnext : sameBy Val.eqB (xs.drop (i + 1)) (ys.drop (i + 1)) = sameBy Val.eqB xs ys := hcm
        refine k_skip ?_
        refine k_nil ?_
        show AK _ _ _ _ _ _
        refine rg 9000 ?_
        refine k_nil ?_
        refine ⟨n - 1, by omega, _, ⟨?_, ?_, ?_⟩, i + 1, by omega, hnext, rfl⟩ <;> simp [*]
    · intro h14_2
      have hge : xs.length ≤ i := by simpa using h14_2
      obtain rfl : i = xs.length := by omega
      rw [List.drop_eq_nil_of_le (Nat.le_refl _), List.drop_eq_nil_of_le (by omega)] at hcm
      have hfin : sameBy Val.eqB xs ys = true := hcm.symm
      refine k_exit ?_
      show AK _ _ _ _ _ _
      refine sq ?_
      refine rg 10000 ?_
      refine pr [4, 5] ?_
      refine k_ret ?_
      show retQ _ _ _ _ _ _ _
      simp [*]

attribute [local simp] Val.row in
theorem spec78 (n : Int) : Flat.Sp Try.prog 78 [vv (.int .i64 n)] [] (.p (.ps [(⟨false, n, ⟨#[]⟩⟩ : Val).row])) [] := by
  refine sk Try.func78 ?_
  intro F G hn hG
  refine sq ?_
  refine rg 1000 ?_
  refine pr [0, 1, 2, 6] ?_
  refine sq ?_
  refine rg 2000 ?_
  refine pr [2, 3] ?_
  refine k_ret ?_
  show retQ _ _ _ _ _ _ _
  simp [*]

end Go.Proofs
end
section
set_option linter.unusedVariables false
set_option linter.unusedSimpArgs false
namespace Go.Proofs
open Go.Flat
set_option maxRecDepth 100000
set_option linter.unusedSimpArgs false
set_option linter.unusedVariables false
attribute [local simp] Bool.and_assoc Bool.or_assoc evalG evalX efD skF guardG guardL isCall stepL evalOp ev evs lk tmpsL app AV.ok fresh vv putCells insV ins del putL place Go.Flat.look fillC fillR getCells loadF storeF binF scalarBin intBin strBin isShift shiftBin unF lenF maxF minF rowsF appendF builtinF idxF natOf sliceP sliceF optEv Flat.cut overwrite toPV toPVs constAV scalarC scalarCs AV.cells TI.isAgg allSome andAll scalarEq buildable Go.Flat.lim retQ resL resAll resOne PartOf noTmp closedIn refs refs.refsL isSomeV hasB ids leA leA.leL renA renA.renL callB refsAll backL dropIds renS LiesAt injB ownB freshB memN locId insAll leA_refl leL_refl okS frzS frzA frzA.frzL evalD feet fine updCells cellsFrom memP footRf footWf noTmpU updIds opOps opIds idsA footR footW guardTs opTs dstTs callR callW renLoc renC inBlockQ thenQ Value.oneCell' IntKind.bits IntKind.signed

def Tm.eqB (a b : Tm) : Bool := (a.e == b.e) && ((a.a == b.a) && (a.b == b.b))
@[simp] theorem eqTime (e1 a1 b1 e2 a2 b2 : Int) : eqT (tyOf Try.prog) 8 82 (.agg [.p (.v (.int .u64 e1)), .p (.v (.int .u64 a1)), .p (.v (.int .u64 b1))]) (.agg [.p (.v (.int .u64 e2)), .p (.v (.int .u64 a2)), .p (.v (.int .u64 b2))]) = some (Tm.eqB ⟨e1, a1, b1⟩ ⟨e2, a2, b2⟩) := by
  simp [eqT, eqCut, Tm.eqB, show List.range 2 = [0, 1] from rfl]

end Go.Proofs
end
section
set_option linter.unusedVariables false
set_option linter.unusedSimpArgs false
namespace Go.Proofs
open Go.Flat
set_option maxRecDepth 100000
set_option linter.unusedSimpArgs false
set_option linter.unusedVariables false
attribute [local simp] Bool.and_assoc Bool.or_assoc evalG evalX efD skF guardG guardL isCall stepL evalOp ev evs lk tmpsL app AV.ok fresh vv putCells insV ins del putL place Go.Flat.look fillC fillR getCells loadF storeF binF scalarBin intBin strBin isShift shiftBin unF lenF maxF minF rowsF appendF builtinF idxF natOf sliceP sliceF optEv Flat.cut overwrite toPV toPVs constAV scalarC scalarCs AV.cells TI.isAgg allSome andAll scalarEq buildable Go.Flat.lim retQ resL resAll resOne PartOf noTmp closedIn refs refs.refsL isSomeV hasB ids leA leA.leL renA renA.renL callB refsAll backL dropIds renS LiesAt injB ownB freshB memN locId insAll leA_refl leL_refl okS frzS frzA frzA.frzL evalD feet fine updCells cellsFrom memP footRf footWf noTmpU updIds opOps opIds idsA footR footW guardTs opTs dstTs callR callW renLoc renC inBlockQ thenQ Value.oneCell' IntKind.bits IntKind.signed

def mxI (x y : Int) : Int := if x < y then y else x
@[simp] theorem mxI_self (x : Int) : mxI x x = x := by unfold mxI; split <;> rfl
def lubT (a b : Tm) : Tm := ⟨mxI a.e b.e, mxI a.a b.a, mxI a.b b.b⟩
def aheadT (a b : Tm) : Bool := Tm.eqB (lubT a b) b
def cntR (cs : List Ct) : List Ct × Int := (if gerr (grp cmpK Ct.n (isrt (ltU cmpK) cs)) != 0 then [] else gout Ct.put (grp cmpK Ct.n (isrt (ltU cmpK) cs)), gerr (grp cmpK Ct.n (isrt (ltU cmpK) cs)))
def Ct.ofU (u : Up) : Ct := ⟨u.r, u.d⟩
def atL (us : List Up) (t : Tm) : List Ct := (us.filter fun u => aheadT u.t t).map Ct.ofU
def atE (us : List Up) (t : Tm) : Int := orI [chkUs us, chkT t]
def atR (us : List Up) (t : Tm) : List Ct × Int := if atE us t != 0 then ([], atE us t) else cntR (atL us t)
theorem cmpK_ok : CmpA cmpK := (cmpBy_ok Val.cmp_ok).comap Ct.r
theorem cmpK_ord : Ord (ltU cmpK) := cmpK_ok.cmp.ord
theorem atL_snoc {us : List Up} {t : Tm} {i : Nat} {x : Up} (h : us[i]? = some x) : atL (us.take (i + 1)) t = atL (us.take i) t ++ (if aheadT x.t t then [⟨x.r, x.d⟩] else []) := by
  rw [atL, atL, List.take_add_one, h, List.filter_append, List.map_append]
  cases hc : aheadT x.t t <;> simp [hc, Ct.ofU]
theorem atL_len {us : List Up} {t : Tm} : (atL us t).length ≤ us.length := by
  rw [atL, List.length_map]; exact List.length_filter_le ..
theorem atL_sm {us : List Up} {t : Tm} (h : Up.sms us) : ∀ c ∈ atL us t, c.r.length ≤ Bnd := by
  intro c hc
  obtain ⟨u, hu, rfl⟩ := List.mem_map.1 hc
  exact (h u (List.mem_filter.1 hu).1).2

attribute [local simp] mxI in
theorem spec190 (x y : Int) : Flat.Sp Try.prog 190 [vv (.int .u64 x), vv (.int .u64 y)] [] (vv (.int .u64 (mxI x y))) [] := by
  refine sk Try.func190 ?_
  intro F G hn hG
  refine sq ?_
  refine rg 1000 ?_
  refine pr [0, 2, 4, 8] ?_
  refine sq ?_
  refine rg 2000 ?_
  refine pr [4, 5] ?_
  refine k_ret ?_
  show retQ _ _ _ _ _ _ _
  simp [*]

attribute [local simp] lubT Tm.av Tm.row in
set_option maxHeartbeats 1000000 in
theorem spec189 (a b : Tm) : Flat.Sp Try.prog 189 [.fn (.func 190) [], .p (.ps [a.row, b.row])] [] ((lubT a b).av) [] := by
  refine sk Try.func189 ?_
  intro F G hn hG
  refine sq ?_
  refine rg 1000 ?_
  refine pr [0, 2, 4, 44] ?_
  refine sq ?_
  refine sq ?_
  refine rg 2000 ?_
  refine pr [0, 1, 4, 44] ?_
  refine k_block ?_
  refine k_rounds 3 ?_
  show AK _ _ _ _ _ _
  refine sq ?_
  refine rg 3000 ?_
  refine pr [0, 1, 4, 44] ?_
  refine sq ?_
  refine ct ?_
  refine k_skip ?_
  refine sq ?_
  refine k_block ?_
  refine sq ?_
  refine rg 4000 ?_
  refine pr [0, 1, 4, 44] ?_
  refine sq ?_
  refine sq ?_
  refine rg 5000 ?_
  refine pr [0, 1, 4, 44] ?_
  refine ct ?_
  refine rg 6000 ?_
  refine pr [0, 1, 4, 44] ?_
  refine sq ?_
  refine rc 7000 ?_
  refine oc id (spec190 a.e a.e) ?_
  refine oe 7100 ?_
  refine on ?_
  refine pr [0, 1, 4, 44] ?_
  refine sq ?_
  refine rg 8000 ?_
  refine pr [0, 1, 4, 44] ?_
  refine k_block ?_
  refine k_rounds 3 ?_
  show AK _ _ _ _ _ _
  refine sq ?_
  refine rg 9000 ?_
  refine pr [0, 1, 4, 44] ?_
  refine sq ?_
  refine ct ?_
  refine k_skip ?_
  refine sq ?_
  refine k_block ?_
  refine sq ?_
  refine rg 10000 ?_
  refine pr [0, 1, 4, 44] ?_
  refine dr ?_
  refine de 11000 ?_
  refine dc id (spec190 a.a a.a) ?_
  refine de 11100 ?_
  refine dn ?_
  refine k_nil ?_
  show AK _ _ _ _ _ _
  refine rg 12000 ?_
  refine k_nil ?_
  show AK _ _ _ _ _ _
  refine sq ?_
  refine rg 1009000 ?_
  refine pr [0, 1, 4, 44] ?_
  refine sq ?_
  refine ct ?_
  refine k_skip ?_
  refine sq ?_
  refine k_block ?_
  refine sq ?_
  refine rg 1010000 ?_
  refine pr [0, 1, 4, 44] ?_
  refine dr ?_
  refine de 1011000 ?_
  refine dc id (spec190 a.b a.b) ?_
  refine de 1011100 ?_
  refine dn ?_
  refine k_nil ?_
  show AK _ _ _ _ _ _
  refine rg 1012000 ?_
  refine k_nil ?_
  show AK _ _ _ _ _ _
  refine sq ?_
  refine rg 2009000 ?_
  refine pr [0, 1, 4, 44] ?_
  refine sq ?_
  refine ce ?_
  refine k_exit ?_
  show AK _ _ _ _ _ _
  refine k_nil ?_
  show AK _ _ _ _ _ _
  refine rg 13000 ?_
  refine k_nil ?_
  show AK _ _ _ _ _ _
  refine sq ?_
  refine rg 1003000 ?_
  refine pr [0, 1, 4, 44] ?_
  refine sq ?_
  refine ct ?_
  refine k_skip ?_
  refine sq ?_
  refine k_block ?_
  refine sq ?_
  refine rg 1004000 ?_
  refine pr [0, 1, 4, 44] ?_
  refine sq ?_
  refine sq ?_
  refine rg 1005000 ?_
  refine pr [0, 1, 4, 44] ?_
  refine ce ?_
  refine k_skip ?_
  refine sq ?_
  refine rc 1007000 ?_
  refine oc id (spec190 a.e b.e) ?_
  refine oe 1007100 ?_
  refine on ?_
  refine pr [0, 1, 4, 44] ?_
  refine sq ?_
  refine rg 1008000 ?_
  refine pr [0, 1, 4, 44] ?_
  refine k_block ?_
  refine k_rounds 3 ?_
  show AK _ _ _ _ _ _
  refine sq ?_
  refine rg 3009000 ?_
  refine pr [0, 1, 4, 44] ?_
  refine sq ?_
  refine ct ?_
  refine k_skip ?_
  refine sq ?_
  refine k_block ?_
  refine sq ?_
  refine rg 2010000 ?_
  refine pr [0, 1, 4, 44] ?_
  refine dr ?_
  refine de 2011000 ?_
  refine dc id (spec190 a.a b.a) ?_
  refine de 2011100 ?_
  refine dn ?_
  refine k_nil ?_
  show AK _ _ _ _ _ _
  refine rg 2012000 ?_
  refine k_nil ?_
  show AK _ _ _ _ _ _
  refine sq ?_
  refine rg 4009000 ?_
  refine pr [0, 1, 4, 44] ?_
  refine sq ?_
  refine ct ?_
  refine k_skip ?_
  refine sq ?_
  refine k_block ?_
  refine sq ?_
  refine rg 3010000 ?_
  refine pr [0, 1, 4, 44] ?_
  refine dr ?_
  refine de 3011000 ?_
  refine dc id (spec190 a.b b.b) ?_
  refine de 3011100 ?_
  refine dn ?_
  refine k_nil ?_
  show AK _ _ _ _ _ _
  refine rg 3012000 ?_
  refine k_nil ?_
  show AK _ _ _ _ _ _
  refine sq ?_
  refine rg 5009000 ?_
  refine pr [0, 1, 4, 44] ?_
  refine sq ?_
  refine ce ?_
  refine k_exit ?_
  show AK _ _ _ _ _ _
  refine k_nil ?_
  show AK _ _ _ _ _ _
  refine rg 1013000 ?_
  refine k_nil ?_
  show AK _ _ _ _ _ _
  refine sq ?_
  refine rg 2003000 ?_
  refine pr [0, 1, 4, 44] ?_
  refine sq ?_
  refine ce ?_
  refine k_exit ?_
  show AK _ _ _ _ _ _
  refine sq ?_
  refine rg 14000 ?_
  refine pr [4, 5] ?_
  refine k_ret ?_
  show retQ _ _ _ _ _ _ _
  simp [*]

attribute [local simp] Tm.av Tm.row in
theorem spec152 (a b : Tm) : Flat.Sp Try.prog 152 [.p (.ps [a.row, b.row])] [] ((lubT a b).av) [] := by
  refine sk Try.func152 ?_
  intro F G hn hG
  refine sq ?_
  refine rg 1000 ?_
  refine pr [0, 1, 2, 5] ?_
  refine sq ?_
  refine rc 2000 ?_
  refine oc id (spec189 a b) ?_
  refine oe 2100 ?_
  refine on ?_
  refine pr [2, 3] ?_
  refine k_ret ?_
  show retQ _ _ _ _ _ _ _
  simp [*]

attribute [local simp] Tm.av Tm.row aheadT in
theorem spec98 (a b : Tm) : Flat.Sp Try.prog 98 [a.av, b.av] [] (vv (.bool (aheadT a b))) [] := by
  refine sk Try.func98 ?_
  intro F G hn hG
  refine sq ?_
  refine rg 1000 ?_
  refine pr [2, 11] ?_
  refine sq ?_
  refine dr ?_
  refine de 2000 ?_
  refine dc id (spec152 a b) ?_ (hg := by simp [*, Tm.row]) (hf := by simp [*, Tm.row]; exact is_rfl _) (hx := by simp [*, Tm.row]; exact is_rfl _) (hargs := by simp [*, Tm.row]) (hB := by simp [*, Tm.row]) (hL := by simp [*, Tm.row]) (hd := by simp [*, Tm.row]; exact is_rfl _)
  refine de 2100 ?_
  refine dn ?_
  refine pr [4, 5] ?_
  refine k_ret ?_
  show retQ _ _ _ _ _ _ _
  simp [*]

attribute [local simp] cntR in
theorem spec99 (cs : List Ct) (hcs : cs.length ≤ Cap) (hsm : ∀ c ∈ cs, c.r.length ≤ Bnd) : Flat.Sp Try.prog 99 [.sl 0 cs.length 0 cs.length] [(.arr 0, .arr 175 2 (cs.map Ct.row) 0)] (.tup [.p (.ps ((cntR cs).1.map Ct.row)), vv (.int .i64 (cntR cs).2)]) [(.arr 0, .arr 175 2 ((isrt (ltU cmpK) cs).map Ct.row) 0)] := by
  refine sk Try.func99 ?_
  intro F G hn hG
  refine sq ?_
  refine rg 1000 ?_
  refine pr [0, 1, 2, 8] ?_
  refine sq ?_
  refine rc 2000 ?_
  refine oc id (spec153 cmpK cmpK_ord cs hcs (fun x hx y hy => spec154 x y (Nat.le_trans (hsm x hx) (by decide)) (Nat.le_trans (hsm y hy) (by decide))) (fun x _ => spec155 x) (fun x hx n => spec156 x (hsm x hx) n)) ?_
  refine oe 2100 ?_
  refine on ?_
  refine pr [2, 4] ?_
  refine k_ret ?_
  show retQ _ _ _ _ _ _ _
  simp [*]

attribute [local simp] Tm.av Tm.row Up.row Ct.row irow in
theorem spec50 (us : List Up) (t : Tm) (hus : us.length ≤ Cap) (hsm : Up.sms us) : Flat.Sp Try.prog 50 [.p (.ps (us.map Up.row)), t.av] [] (.tup [.p (.ps ((atR us t).1.map Ct.row)), vv (.int .i64 (atR us t).2)]) [] := by
  refine sk Try.func50 ?_
  intro F G hn hG
  have hcap : Cap = 1073741824 := rfl
  refine sq ?_
  refine rg 1000 ?_
  refine pr [0, 1, 3, 8, 9, 43] ?_
  refine sq ?_
  refine sq ?_
  refine dr ?_
  refine de 2000 ?_
  refine dc id (spec80 us (Nat.le_trans hus (by decide)) hsm) ?_
  refine de 2100 ?_
  refine dc id (spec96 t) ?_
  refine de 2200 ?_
  refine dc id ((show Flat.Sp Try.prog 97 _ _ (vv (.int .i64 (atE us t))) _ from spec97 [chkUs us, chkT t] (by simp [Flat.lim]))) ?_
  refine de 2300 ?_
  refine dn ?_
  refine pr [0, 1, 3, 8, 9, 10, 17, 43] ?_
  refine sq ?_
  refine rg 3000 ?_
  refine pr [0, 1, 3, 8, 9, 10, 18, 43] ?_
  refine cd ?_ ?_
  · intro h18_1
    have hfin : atR us t = ([], atE us t) := by have h2 : (atE us t != 0) = true := h18_1; rw [atR, h2]; rfl
    refine sq ?_
    refine rg 4000 ?_
    refine pr [0, 1, 3, 6, 7, 8, 9, 10, 20, 43] ?_
    refine k_ret ?_
    show retQ _ _ _ _ _ _ _
    simp [*]
  · intro h18_1
    have hfin : atR us t = cntR (atL us t) := by have h2 : (atE us t != 0) = false := h18_1; rw [atR, h2]; rfl
    refine k_skip ?_
    refine sq ?_
    refine rg 5000 ?_
    refine pr [0, 1, 3, 6, 7, 8, 9, 10, 20, 43] ?_
    refine ow (.tmp 7) 900 175 2 ?_
    refine sq ?_
    refine sq ?_
    refine rg 6000 ?_
    refine pr [3, 6, 7, 8, 9, 10, 20, 43] ?_
    refine k_block ?_
    refine k_loop (fun n l => ∃ i, i + n = us.length ∧ (True) ∧ l = [(.var 1000, .n 3), (.cell 1000 0, .av (vv (.int .u64 t.e))), (.cell 1000 1, .av (vv (.int .u64 t.a))), (.cell 1000 2, .av (vv (.int .u64 t.b))), (.tmp 3, .av (.ptr 1000 0)), (.tmp 7, .av (.sl 900 (atL (us.take i) t).length 0 (atL (us.take i) t).length)), (.tmp 20, .av (.p (.ps (us.map Up.row)))), (.tmp 21, .av (vv (.int .i64 us.length))), (.tmp 22, .av (vv (.int .i64 i))), (.arr 900, .arr 175 2 ((atL (us.take i) t).map Ct.row) 0)]) (us.length) hG ⟨_, ⟨by simp [*, atL], by simp, by simp⟩, 0, by simp, trivial, rfl⟩ ?_
    rintro n _ ⟨i, hin, hfa, rfl⟩
    obtain ⟨cs, hcs⟩ : ∃ cs, atL (us.take i) t = cs := ⟨_, rfl⟩
    have hcl : cs.length ≤ i := by rw [← hcs]; exact Nat.le_trans atL_len (by rw [List.length_take]; omega)
    refine sq ?_
    refine rg 7000 ?_
    refine pr [3, 6, 7, 8, 9, 10, 20, 43] ?_
    refine sq ?_
    refine cd ?_ ?_
    · intro h23_2
      have hlt : i < us.length := by simpa using h23_2
      obtain ⟨x, hxe⟩ : ∃ x, us[i] = x := ⟨_, rfl⟩
      have hx : us[i]? = some x := by simp [hlt, hxe]
      have hw := wrap_succ (show i < Flat.lim by simp only [Flat.lim]; omega)
      have hsn := atL_snoc (t := t) hx
      rw [hcs] at hsn
      have hb1 : (cs.length + 1) * 32 ≤ 140737488355328 := by omega
      have hb2 : cs.length + 1 ≤ 140737488355328 := by omega
      refine k_skip ?_
      refine sq ?_
      refine k_block ?_
      refine sq ?_
      refine rg 8000 ?_
      refine pr [3, 6, 7, 8, 9, 10, 20, 43] ?_
      refine sq ?_
      refine rc 9000 ?_
      refine oc id (spec98 x.t t) ?_
      refine on ?_
      refine pr [3, 6, 7, 8, 9, 10, 20, 43] ?_
      refine cd ?_ ?_
      · intro h29_3
        replace hsn : atL (us.take (i + 1)) t = cs ++ [⟨x.r, x.d⟩] := by rw [hsn, show aheadT x.t t = true from h29_3]; rfl
        refine rg 10000 ?_
        refine k_nil ?_
        show AK _ _ _ _ _ _
        refine rg 11000 ?_
        refine k_nil ?_
        refine ⟨n - 1, by omega, _, ⟨?_, ?_, ?_⟩, i + 1, by omega, trivial, rfl⟩ <;> simp [*, *]
      · intro h29_3
        replace hsn : atL (us.take (i + 1)) t = cs := by rw [hsn, show aheadT x.t t = false from h29_3]; simp
        refine k_skip ?_
        refine k_nil ?_
        show AK _ _ _ _ _ _
        refine rg 11000 ?_
        refine k_nil ?_
        refine ⟨n - 1, by omega, _, ⟨?_, ?_, ?_⟩, i + 1, by omega, trivial, rfl⟩ <;> simp [*, *]
    · intro h23_2
      have hge : us.length ≤ i := by simpa using h23_2
      obtain rfl : i = us.length := by omega
      have htk : us.take us.length = us := List.take_length ..
      rw [htk] at hcs
      refine k_exit ?_
      show AK _ _ _ _ _ _
      refine sq ?_
      refine rc 12000 ?_
      refine oc (fun _ => 900) (spec99 (atL us t) (by have := @atL_len us t; omega) (atL_sm hsm)) ?_
      refine oe 12100 ?_
      refine on ?_
      refine pr [4, 6] ?_
      refine k_ret ?_
      show retQ _ _ _ _ _ _ _
      simp [*]

def diffK (x y : Ct) : Bool := !sameV x.r y.r || x.n != y.n
def sameK (x y : Ct) : Bool := !diffK x y

attribute [local simp] Ct.row in
set_option maxHeartbeats 1000000 in
theorem spec52 (xs ys : List Ct) (hlx : xs.length ≤ Flat.lim) (hly : ys.length ≤ Flat.lim) (hsx : ∀ c ∈ xs, c.r.length ≤ Flat.lim) (hsy : ∀ c ∈ ys, c.r.length ≤ Flat.lim) : Flat.Sp Try.prog 52 [.p (.ps (xs.map Ct.row)), .p (.ps (ys.map Ct.row))] [] (vv (.bool (sameBy sameK xs ys))) [] := by
  refine sk Try.func52 ?_
  intro F G hn hG
  refine sq ?_
  refine rg 1000 ?_
  refine pr [0, 2, 4, 42] ?_
  refine sq ?_
  refine sq ?_
  refine rg 2000 ?_
  refine pr [0, 2, 4, 6, 10, 42] ?_
  refine cd ?_ ?_
  · intro h10_1
    have hne : xs.length ≠ ys.length := by have := h10_1; simp at this; omega
    have hfin := sameBy_len (f := sameK) hne
    refine sq ?_
    refine rg 3000 ?_
    refine pr [0, 2, 4, 6, 11, 42] ?_
    refine k_ret ?_
    show retQ _ _ _ _ _ _ _
    simp [*]
  · intro h10_1
    have hxy : ys.length = xs.length := by have := h10_1; simp at this; omega
    refine k_skip ?_
    refine sq ?_
    refine sq ?_
    refine rg 4000 ?_
    refine pr [0, 2, 4, 6, 12, 42] ?_
    refine k_block ?_
    refine k_loop (fun n l => ∃ i, i + n = xs.length ∧ (sameBy sameK (xs.drop i) (ys.drop i) = sameBy sameK xs ys) ∧ l = [(.tmp 0, .av (.p (.ps (xs.map Ct.row)))), (.tmp 1, .av (.p (.ps (ys.map Ct.row)))), (.tmp 12, .av (vv (.int .i64 xs.length))), (.tmp 13, .av (vv (.int .i64 i)))]) (xs.length) hG ⟨_, ⟨by simp, by simp, by simp⟩, 0, by simp, rfl, rfl⟩ ?_
    rintro n _ ⟨i, hin, hfa, rfl⟩
    have hcm := hfa
    refine sq ?_
    refine rg 5000 ?_
    refine pr [0, 2, 4, 6, 12, 42] ?_
    refine sq ?_
    refine cd ?_ ?_
    · intro h14_2
      have hlt : i < xs.length := by simpa using h14_2
      obtain ⟨x, hxe⟩ : ∃ x, xs[i] = x := ⟨_, rfl⟩
      have hx : xs[i]? = some x := by simp [hlt, hxe]
      have hw := wrap_succ (show i < Flat.lim by omega)
      have hlty : i < ys.length := by omega
      obtain ⟨y, hye⟩ : ∃ y, ys[i] = y := ⟨_, rfl⟩
      have hy : ys[i]? = some y := by simp [hlty, hye]
      rw [drop_at hx, drop_at hy] at hcm
      have hcm : (sameK x y && sameBy sameK (xs.drop (i + 1)) (ys.drop (i + 1))) = sameBy sameK xs ys := hcm
      have hrx : x.r.length ≤ Flat.lim := hsx x (List.mem_of_getElem? hx)
      have hry : y.r.length ≤ Flat.lim := hsy y (List.mem_of_getElem? hy)
      refine k_skip ?_
      refine sq ?_
      refine k_block ?_
      refine sq ?_
      refine rg 6000 ?_
      refine pr [0, 2, 4, 6, 12, 42] ?_
      refine sq ?_
      refine cv [(.tmp 40, vv (.bool (diffK x y)))] ?_ ?_
      · skip
        rcases q1 : (sameBy Val.eqB x.r y.r : Bool) with _ | _
        · skip
          refine dr ?_
          refine de 7000 ?_ (h := by simp [*, diffK, sameV, q1]; exact is_rfl _)
          refine dc id (spec91 x.r y.r hrx hry) ?_ (hg := by simp [*, diffK, sameV, q1]) (hf := by simp [*, diffK, sameV, q1]; exact is_rfl _) (hx := by simp [*, diffK, sameV, q1]; exact is_rfl _) (hargs := by simp [*, diffK, sameV, q1]) (hB := by simp [*, diffK, sameV, q1]) (hL := by simp [*, diffK, sameV, q1]) (hd := by simp [*, diffK, sameV, q1]; exact is_rfl _)
          refine de 7100 ?_ (h := by simp [*, diffK, sameV, q1]; exact is_rfl _)
          iterate 11 (first | refine dp 8150 ?_ (he := by intro hgg; (try simp only [Bool.and_eq_true] at hgg); simp [*, diffK, sameV, q1]; exact is_rfl _) | refine ds ?_ | refine dt 8150 ?_ (he := by simp [*, diffK, sameV, q1]; exact is_rfl _))
          refine de 8200 ?_ (h := by simp [*, diffK, sameV, q1]; exact is_rfl _)
          refine dn ?_
          refine k_nil ?_
          refine ⟨rfl, ?_, ?_, ?_⟩ <;> simp [*, diffK, sameV, q1]
        · skip
          refine dr ?_
          refine de 1007000 ?_ (h := by simp [*, diffK, sameV, q1]; exact is_rfl _)
          refine dc id (spec91 x.r y.r hrx hry) ?_ (hg := by simp [*, diffK, sameV, q1]) (hf := by simp [*, diffK, sameV, q1]; exact is_rfl _) (hx := by simp [*, diffK, sameV, q1]; exact is_rfl _) (hargs := by simp [*, diffK, sameV, q1]) (hB := by simp [*, diffK, sameV, q1]) (hL := by simp [*, diffK, sameV, q1]) (hd := by simp [*, diffK, sameV, q1]; exact is_rfl _)
          refine de 1007100 ?_ (h := by simp [*, diffK, sameV, q1]; exact is_rfl _)
          iterate 11 (first | refine dp 1008150 ?_ (he := by intro hgg; (try simp only [Bool.and_eq_true] at hgg); simp [*, diffK, sameV, q1]; exact is_rfl _) | refine ds ?_ | refine dt 1008150 ?_ (he := by simp [*, diffK, sameV, q1]; exact is_rfl _))
          refine de 1008200 ?_ (h := by simp [*, diffK, sameV, q1]; exact is_rfl _)
          refine dn ?_
          refine k_nil ?_
          refine ⟨rfl, ?_, ?_, ?_⟩ <;> simp [*, diffK, sameV, q1]
      refine pr [0, 2, 4, 6, 12, 42] ?_
      refine cd ?_ ?_
      · intro h40_3
        have h2 : sameK x y = false := by have h3 : diffK x y = true := h40_3; rw [sameK, h3]; rfl
        rw [h2] at hcm
        have hfin : sameBy sameK xs ys = false := hcm.symm
        refine sq ?_
        refine rg 8000 ?_
        refine pr [0, 2, 4, 6, 12, 42] ?_
        refine k_ret ?_
        show retQ _ _ _ _ _ _ _
        simp [*]
      · intro h40_3
        have h2 : sameK x y = true := by have h3 : diffK x y = false := h40_3; rw [sameK, h3]; rfl
        rw [h2] at hcm
        have hnext : sameBy sameK (xs.drop (i + 1)) (ys.drop (i + 1)) = sameBy sameK xs ys := hcm
        refine k_skip ?_
        refine k_nil ?_
        show AK _ _ _ _ _ _
        refine rg 9000 ?_
        refine k_nil ?_
        refine ⟨n - 1, by omega, _, ⟨?_, ?_, ?_⟩, i + 1, by omega, hnext, rfl⟩ <;> simp [*]
    · intro h14_2
      have hge : xs.length ≤ i := by simpa using h14_2
      obtain rfl : i = xs.length := by omega
      rw [List.drop_eq_nil_of_le (Nat.le_refl _), List.drop_eq_nil_of_le (by omega)] at hcm
      have hfin : sameBy sameK xs ys = true := hcm.symm
      refine k_exit ?_
      show AK _ _ _ _ _ _
      refine sq ?_
      refine rg 10000 ?_
      refine pr [4, 5] ?_
      refine k_ret ?_
      show retQ _ _ _ _ _ _ _
      simp [*]

end Go.Proofs
end
section
set_option linter.unusedVariables false
set_option linter.unusedSimpArgs false
namespace Go.Proofs
open Go.Flat
set_option linter.unusedSimpArgs false
set_option linter.unusedVariables false
def i64 (n : Int) : Prop := -9223372036854775808 ≤ n ∧ n < 9223372036854775808
theorem fdiv63 (n : Int) : n.fdiv 9223372036854775808 = n / 9223372036854775808 := Int.fdiv_eq_ediv_of_nonneg _ (by omega)
/-- What two words are, up to what does not fit into them. -/
def V (p : Int × Int) : Int := p.1 * 18446744073709551616 + p.2
theorem tadd_V {p : Int × Int} (hp : tin p) {n : Int} (hn : i64 n) : ∃ k : Int, V (tadd p n) = V p + n + k * 340282366920938463463374607431768211456 := by
  unfold tin at hp
  unfold i64 at hn
  unfold V tadd
  simp only [fdiv63, wrapU]
  by_cases h0 : 0 ≤ n
  · have e : n / 9223372036854775808 = 0 := by omega
    rw [e]
    exact ⟨-((p.1 + 0 % 18446744073709551616 + (p.2 + n % 18446744073709551616) / 18446744073709551616) / 18446744073709551616), by omega⟩
  · have e : n / 9223372036854775808 = -1 := by omega
    rw [e]
    exact ⟨1 - ((p.1 + -1 % 18446744073709551616 + (p.2 + n % 18446744073709551616) / 18446744073709551616) / 18446744073709551616), by omega⟩
theorem tsum_V {xs : List Int} (h : ∀ x ∈ xs, i64 x) : ∀ p, tin p → ∃ k : Int, V (xs.foldl tadd p) = V p + xs.sum + k * 340282366920938463463374607431768211456 := by
  induction xs with
  | nil => intro p hp; exact ⟨0, by simp⟩
  | cons x r ih =>
    intro p hp
    obtain ⟨k, hk⟩ := tadd_V hp (h x (by simp))
    obtain ⟨k', hk'⟩ := ih (fun y hy => h y (by simp [hy])) (tadd p x) (tadd_in hp x)
    refine ⟨k + k', ?_⟩
    rw [List.foldl_cons, hk', hk, List.sum_cons]
    omega
theorem sum_bound {xs : List Int} (h : ∀ x ∈ xs, i64 x) : -(xs.length * 9223372036854775808 : Int) ≤ xs.sum ∧ xs.sum ≤ xs.length * 9223372036854775808 := by
  induction xs with
  | nil => simp
  | cons x r ih =>
    have h1 := h x (by simp)
    have h2 := ih fun y hy => h y (by simp [hy])
    unfold i64 at h1
    rw [List.sum_cons, List.length_cons]
    omega
theorem tfit_V {p : Int × Int} (hp : tin p) {s k : Int} (h : V p = s + k * 340282366920938463463374607431768211456) (hs1 : -85070591730234615865843651857942052864 ≤ s) (hs2 : s ≤ 85070591730234615865843651857942052864) :
    tfit p = if -9223372036854775808 ≤ s ∧ s < 9223372036854775808 then (s, 0) else (0, 10) := by
  unfold tin at hp
  unfold V at h
  unfold tfit tfits
  rw [fdiv63, wrapU, w64]
  by_cases hc : -9223372036854775808 ≤ s ∧ s < 9223372036854775808
  · rw [if_pos hc]
    have e1 : (p.2 + 9223372036854775808) % 18446744073709551616 - 9223372036854775808 = s := by omega
    rw [e1, if_pos]
    simp only [beq_iff_eq]
    omega
  · rw [if_neg hc, if_neg]
    simp only [beq_iff_eq]
    generalize hx : (p.2 + 9223372036854775808) % 18446744073709551616 - 9223372036854775808 = x
    have : x / 9223372036854775808 = 0 ∨ x / 9223372036854775808 = -1 := by omega
    rcases this with e | e <;> rw [e] <;> omega
end Go.Proofs
end
section
set_option linter.unusedVariables false
set_option linter.unusedSimpArgs false
namespace Go.Proofs
open Go.Flat
set_option linter.unusedSimpArgs false
set_option linter.unusedVariables false
section
variable {α : Type} {c : α → α → Int} {nm : α → Int} {put : α → Int → α}
/-- The numbers of all of which something holds. -/
def sumP (P : α → Bool) (nm : α → Int) (l : List α) : Int := ((l.filter P).map nm).sum
theorem sumP_nil (P : α → Bool) (nm : α → Int) : sumP P nm [] = 0 := rfl
theorem sumP_cons (P : α → Bool) (nm : α → Int) (x : α) (l : List α) : sumP P nm (x :: l) = (if P x then nm x else 0) + sumP P nm l := by
  unfold sumP
  cases h : P x <;> simp [h]
theorem sumP_app (P : α → Bool) (nm : α → Int) (l l' : List α) : sumP P nm (l ++ l') = sumP P nm l + sumP P nm l' := by simp [sumP]
theorem sumP_perm {P : α → Bool} {nm : α → Int} {l l' : List α} (h : l.Perm l') : sumP P nm l = sumP P nm l' := perm_sum ((h.filter _).map _)
def sumG (P : α → Bool) (gs : List (α × List Int)) : Int := ((gs.filter fun g => P g.1).map fun g => g.2.sum).sum
theorem sumG_app (P : α → Bool) (l l' : List (α × List Int)) : sumG P (l ++ l') = sumG P l + sumG P l' := by simp [sumG]
theorem sumG_one (P : α → Bool) (g : α × List Int) : sumG P [g] = if P g.1 then g.2.sum else 0 := by
  unfold sumG
  cases h : P g.1 <;> simp [h]
theorem sumG_grp {P : α → Bool} (hP : ∀ x y, c x y = 0 → P x = P y) (nm : α → Int) (l : List α) : sumG P (grp c nm l) = sumP P nm l := by
  suffices h : ∀ n (l : List α), l.length = n → sumG P (grp c nm l) = sumP P nm l from h _ l rfl
  intro n
  induction n with
  | zero => intro l hl; obtain rfl := List.length_eq_zero_iff.1 hl; rfl
  | succ n ih =>
    intro l hl
    obtain ⟨p, x, rfl⟩ : ∃ p x, l = p ++ [x] := ⟨l.dropLast, l.getLast (by intro e; simp [e] at hl), (List.dropLast_concat_getLast _).symm⟩
    have I := ih p (by simpa using hl)
    rw [grp_snoc, sumP_app, ← I]
    have hx : sumP P nm [x] = if P x then nm x else 0 := by rw [sumP_cons, sumP_nil]; omega
    rw [hx]
    rcases List.eq_nil_or_concat (grp c nm p) with e | ⟨g, r, e⟩
    · rw [e, gstep_nil, sumG_one]; simp [sumG]
    · rw [List.concat_eq_append] at e
      rw [e, gstep_snoc]
      split
      · rename_i hc
        have := hP _ _ hc
        rw [sumG_app, sumG_app, sumG_one, sumG_one]
        simp only [this, List.sum_append, List.sum_cons, List.sum_nil]
        split <;> omega
      · rw [show g ++ [r, (x, [nm x])] = (g ++ [r]) ++ [(x, [nm x])] by simp, sumG_app, sumG_one]
        simp
theorem sum_out {P : α → Bool} {gs : List (α × List Int)} (hp : ∀ x n, P (put x n) = P x) (hn : ∀ x n, nm (put x n) = n) (hf : ∀ g ∈ gs, gfit g = (g.2.sum, 0)) : sumP P nm (gout put gs) = sumG P gs := by
  induction gs with
  | nil => rfl
  | cons g gs ih =>
    have I := ih fun x hx => hf x (by simp [hx])
    have h1 := hf g (by simp)
    have e1 : sumG P (g :: gs) = (if P g.1 then g.2.sum else 0) + sumG P gs := by rw [← sumG_one P g, ← sumG_app]; rfl
    have e2 : gout put (g :: gs) = (if g.2.sum != 0 then [put g.1 g.2.sum] else []) ++ gout put gs := by
      unfold gout
      rw [List.filterMap_cons, h1]
      cases h : (g.2.sum != 0) <;> simp only [h, Bool.false_eq_true, if_true, if_false, List.nil_append, List.singleton_append, List.cons_append]
    rw [e1, e2, sumP_app, I]
    congr 1
    cases h : (g.2.sum != 0) with
    | false => simp at h; simp [sumP, h]
    | true =>
      simp only [if_true]
      rw [sumP_cons, sumP_nil, hp, hn]
      omega
theorem mem_gout {gs : List (α × List Int)} (hf : ∀ g ∈ gs, gfit g = (g.2.sum, 0)) {u : α} : u ∈ gout put gs ↔ ∃ g ∈ gs, g.2.sum ≠ 0 ∧ u = put g.1 g.2.sum := by
  unfold gout
  rw [List.mem_filterMap]
  constructor
  · rintro ⟨g, hg, h⟩
    rw [hf g hg] at h
    refine ⟨g, hg, ?_⟩
    split at h
    · rename_i hn
      simp only [Option.some.injEq] at h
      exact ⟨by simpa using hn, h.symm⟩
    · simp at h
  · rintro ⟨g, hg, h1, h2⟩
    refine ⟨g, hg, ?_⟩
    rw [hf g hg, if_pos (by simpa using h1), h2]
theorem gout_strict {gs : List (α × List Int)} (h : gs.Pairwise fun r s => ltC c r.1 s.1 = true) (h1 : ∀ x n y, c (put x n) y = c x y) (h2 : ∀ x n y, c y (put x n) = c y x) : (gout put gs).Pairwise fun x y => ltC c x y = true := by
  unfold gout
  rw [List.pairwise_filterMap]
  refine h.imp ?_
  intro r s hrs x hx y hy
  split at hx <;> simp at hx
  split at hy <;> simp at hy
  subst hx; subst hy
  simp only [ltC, h1, h2] at hrs ⊢
  exact hrs
end
/-- Numbers that fit. -/
theorem fit_sum {ns : List Int} (h : ∀ n ∈ ns, i64 n) (hl : ns.length ≤ 4294967296) : tfit (tsum ns) = if -9223372036854775808 ≤ ns.sum ∧ ns.sum < 9223372036854775808 then (ns.sum, 0) else (0, 10) := by
  obtain ⟨k, hk⟩ := tsum_V h (0, 0) (by simp [tin])
  have hV : V ((0, 0) : Int × Int) = 0 := rfl
  rw [hV] at hk
  obtain ⟨b1, b2⟩ := sum_bound h
  exact tfit_V (tsum_in ns) (s := ns.sum) (k := k) (by rw [tsum]; omega) (by omega) (by omega)
theorem orI_zero : ∀ {l : List Int}, orI l = 0 ↔ ∀ x ∈ l, x = 0
  | [] => by simp [orI]
  | x :: l => by
    rw [orI]
    have ih := orI_zero (l := l)
    by_cases h : x = 0
    · subst h; simp [ih]
    · have : (x != 0) = true := by simpa using h
      rw [this, if_pos rfl]
      simp [h]
def rts (us : List Up) : Prop := ∀ u ∈ us, chkU u = 0
def gds (us : List Up) : Prop := ∀ u ∈ us, i64 u.d
theorem chkUs_iff {us : List Up} : chkUs us = 0 ↔ rts us := by
  rw [chkUs, orI_zero]
  simp [rts]
theorem chk_cat {ls : List (List Up)} : orI (ls.map chkUs) = 0 ↔ rts (cat ls) := by
  rw [orI_zero]
  constructor
  · intro h u hu
    obtain ⟨l, h1, h2⟩ := mem_cat.1 hu
    exact chkUs_iff.1 (h _ (List.mem_map.2 ⟨l, h1, rfl⟩)) u h2
  · intro h x hx
    obtain ⟨l, h1, rfl⟩ := List.mem_map.1 hx
    exact chkUs_iff.2 fun u hu => h u (mem_cat.2 ⟨l, h1, hu⟩)
theorem row_right {r : List Val} (h : checkRow r = 0) : ∀ v ∈ r, v.right = true := by
  unfold checkRow at h
  split at h
  · simp at h
  · rename_i hb
    intro v hv
    have hall : firstBad r 0 < 0 := by
      simp only [badRow, Bool.or_eq_true, decide_eq_true_eq, not_or] at hb
      omega
    have : ∀ (l : List Val) (i : Nat), firstBad l i < 0 → ∀ v ∈ l, v.right = true := by
      intro l
      induction l with
      | nil => intro i _ v hv; simp at hv
      | cons x l ih =>
        intro i hi v hv
        unfold firstBad at hi
        split at hi
        · first
          | omega
          | (rename_i hx
             rcases List.mem_cons.1 hv with rfl | hv
             · simpa using hx
             · exact ih (i + 1) hi v hv)
        · first
          | omega
          | (rename_i hx
             rcases List.mem_cons.1 hv with rfl | hv
             · simpa using hx
             · exact ih (i + 1) hi v hv)
    exact this r 0 hall v hv
theorem chkU_parts {u : Up} (h : chkU u = 0) : checkRow u.k = 0 ∧ checkRow u.r = 0 ∧ chkT u.t = 0 := by
  rw [chkU, orI_zero] at h
  exact ⟨h _ (by simp), h _ (by simp), h _ (by simp)⟩
/-- Of right updates those that stand alike have the same key, row and time. -/
theorem cmpU_eq {x y : Up} (hx : chkU x = 0) (hy : chkU y = 0) : cmpU x y = 0 ↔ x.k = y.k ∧ x.r = y.r ∧ x.t = y.t := by
  obtain ⟨a1, a2, _⟩ := chkU_parts hx
  obtain ⟨b1, b2, _⟩ := chkU_parts hy
  have e1 := cmpBy_eq (p := fun v : Val => v.right = true) (fun a b ha hb => Val.cmp_eq a b ha hb) x.k y.k (row_right a1) (row_right b1)
  have e2 := cmpBy_eq (p := fun v : Val => v.right = true) (fun a b ha hb => Val.cmp_eq a b ha hb) x.r y.r (row_right a2) (row_right b2)
  have e3 := cmpT_eq x.t y.t
  rw [cmpU, orI_zero]
  simp only [List.mem_cons, List.not_mem_nil, or_false, forall_eq_or_imp, forall_eq, rowsC]
  rw [e1, e2, e3]
theorem put_cmp1 (x : Up) (n : Int) (y : Up) : cmpU (x.put n) y = cmpU x y := rfl
theorem put_cmp2 (x : Up) (n : Int) (y : Up) : cmpU y (x.put n) = cmpU y x := rfl
/-- All numbers of what stands as r does. -/
def T (us : List Up) (r : Up) : Int := sumP (fun x => decide (cmpU r x = 0)) Up.d us
theorem T_app (a b : List Up) (r : Up) : T (a ++ b) r = T a r + T b r := sumP_app _ _ _ _
theorem T_congr {us : List Up} {r s : Up} (h : cmpU r s = 0) : T us r = T us s := tot_congr cmpU_ok.cmp Up.d us h
theorem inv_P (r : Up) : ∀ x y, cmpU x y = 0 → decide (cmpU r x = 0) = decide (cmpU r y = 0) := by
  intro x y h
  have : cmpU r x = 0 ↔ cmpU r y = 0 := ⟨fun q => cmpU_ok.cmp.trans q h, fun q => cmpU_ok.cmp.trans q (cmpU_ok.cmp.symm h)⟩
  simp [this]
/-- Lists that evening out leaves. -/
structure Even (us : List Up) : Prop where
  rt : rts us
  gd : gds us
  st : us.Pairwise fun x y => ltC cmpU x y = true
  nz : ∀ u ∈ us, u.d ≠ 0
theorem T_mem {us : List Up} (hE : Even us) {u : Up} (hu : u ∈ us) : T us u = u.d := by
  have : ∀ l : List Up, l.Pairwise (fun x y => ltC cmpU x y = true) → u ∈ l → T l u = u.d := by
    intro l
    induction l with
    | nil => intro _ h; simp at h
    | cons x l ih =>
      intro hp hm
      obtain ⟨h1, h2⟩ := List.pairwise_cons.1 hp
      unfold T
      rw [sumP_cons]
      rcases List.mem_cons.1 hm with rfl | hm
      · have h0 : sumP (fun y => decide (cmpU u y = 0)) Up.d l = 0 := by
          have : l.filter (fun y => decide (cmpU u y = 0)) = [] := by
            rw [List.filter_eq_nil_iff]
            intro y hy
            simpa using cmpU_ok.cmp.ne_of_lt (h1 y hy)
          rw [sumP, this]; rfl
        rw [h0, cmpU_ok.cmp.refl]
        simp
      · have hne := cmpU_ok.cmp.ne_of_gt (h1 u hm)
        have := ih h2 hm
        unfold T at this
        rw [this]
        simp [hne]
  exact this us hE.st hu
theorem T_none {us : List Up} {r : Up} (h : ∀ u ∈ us, cmpU r u ≠ 0) : T us r = 0 := by
  have : us.filter (fun y => decide (cmpU r y = 0)) = [] := by
    rw [List.filter_eq_nil_iff]
    intro y hy
    simpa using h y hy
  rw [T, sumP, this]; rfl
theorem T_some {us : List Up} {r : Up} (h : T us r ≠ 0) : ∃ u ∈ us, cmpU r u = 0 := by
  refine Classical.byContradiction fun hn => h (T_none fun u hu e => hn ⟨u, hu, e⟩)
/-- Two such lists with the same sums are one. -/
theorem Even.ext {a b : List Up} (ha : Even a) (hb : Even b) (h : ∀ r, T a r = T b r) : a = b := by
  have key : ∀ {a b : List Up}, Even a → Even b → (∀ r, T a r = T b r) → ∀ u ∈ a, u ∈ b := by
    intro a b ha hb h u hu
    have h1 := T_mem ha hu
    rw [h u] at h1
    obtain ⟨v, hv, hc⟩ := T_some (us := b) (r := u) (by rw [h1]; exact ha.nz u hu)
    obtain ⟨e1, e2, e3⟩ := (cmpU_eq (ha.rt u hu) (hb.rt v hv)).1 hc
    have h2 := T_mem hb hv
    rw [← T_congr hc, h1] at h2
    have : u = v := by cases u; cases v; simp only [Up.mk.injEq]; exact ⟨e1, e2, e3, h2⟩
    rw [this]; exact hv
  exact strict_ext cmpU_ok.cmp a b ha.st hb.st fun u => ⟨key ha hb h u, key hb ha (fun r => (h r).symm) u⟩
/-- What is evened out. -/
theorem cons_ok {ls : List (List Up)} (hg : gds (cat ls)) (hl : (cat ls).length ≤ 4294967296) : ((consR ls).2 = 0 ↔ rts (cat ls) ∧ ∀ u ∈ cat ls, i64 (T (cat ls) u)) ∧ ((consR ls).2 = 0 → Even (consR ls).1 ∧ (∀ r, T (consR ls).1 r = T (cat ls) r) ∧ ∀ P : Up → Bool, (∀ x y, cmpU x y = 0 → P x = P y) → sumP P Up.d (consR ls).1 = sumP P Up.d (cat ls)) ∧ (∀ u ∈ (consR ls).1, ∃ v ∈ cat ls, u.k = v.k ∧ u.r = v.r ∧ u.t = v.t) := by
  have hperm : (isrt (ltU cmpU) (cat ls)).Perm (cat ls) := isrt_perm _
  have hG : Grp cmpU Up.d (isrt (ltU cmpU) (cat ls)) (piles ls) := grp_ok cmpU_ok.cmp Up.d _ (isrt_line ordU _)
  have hpile : ∀ g ∈ piles ls, g.2.sum = T (cat ls) g.1 := by
    intro g hg'
    rw [hG.pile g hg']
    exact sumP_perm hperm
  have hns : ∀ g ∈ piles ls, (∀ n ∈ g.2, i64 n) ∧ g.2.length ≤ 4294967296 := by
    intro g hg'
    rw [hG.pile g hg']
    refine ⟨fun n hn => ?_, ?_⟩
    · obtain ⟨x, hx, rfl⟩ := List.mem_map.1 hn
      exact hg x (hperm.mem_iff.1 (List.mem_filter.1 hx).1)
    · rw [alike, List.length_map]
      have := List.length_filter_le (fun x => decide (cmpU g.1 x = 0)) (isrt (ltU cmpU) (cat ls))
      rw [isrt_length] at this
      omega
  have hfit : ∀ g ∈ piles ls, gfit g = if -9223372036854775808 ≤ T (cat ls) g.1 ∧ T (cat ls) g.1 < 9223372036854775808 then (T (cat ls) g.1, 0) else (0, 10) := by
    intro g hg'
    rw [gfit, fit_sum (hns g hg').1 (hns g hg').2, hpile g hg']
  have hmemP : ∀ g ∈ piles ls, g.1 ∈ cat ls := piles_mem
  have hall : ∀ x ∈ cat ls, ∃ g ∈ piles ls, cmpU g.1 x = 0 := fun x hx => hG.all x (hperm.mem_iff.2 hx)
  have herr : gerr (piles ls) = 0 ↔ ∀ u ∈ cat ls, i64 (T (cat ls) u) := by
    rw [gerr, orI_zero]
    constructor
    · intro h u hu
      obtain ⟨g, h1, h2⟩ := hall u hu
      have h3 := h _ (List.mem_map.2 ⟨g, h1, rfl⟩)
      rw [hfit g h1] at h3
      rw [← T_congr h2]
      split at h3
      · rename_i q; exact q
      · simp at h3
    · intro h x hx
      obtain ⟨g, h1, rfl⟩ := List.mem_map.1 hx
      have := h _ (hmemP g h1)
      unfold i64 at this
      rw [hfit g h1, if_pos this]
  refine ⟨?_, ?_, ?_⟩
  · unfold consR
    by_cases hc : orI (ls.map chkUs) = 0
    · have : (orI (ls.map chkUs) != 0) = false := by simpa using hc
      rw [this]
      simp only [Bool.false_eq_true, if_false]
      rw [herr]
      exact ⟨fun h => ⟨chk_cat.1 hc, h⟩, fun h => h.2⟩
    · have : (orI (ls.map chkUs) != 0) = true := by simpa using hc
      rw [this, if_pos rfl]
      exact ⟨fun h => absurd h hc, fun h => absurd (chk_cat.2 h.1) hc⟩
  · intro h0
    unfold consR at h0 ⊢
    by_cases hc : orI (ls.map chkUs) = 0
    · have hc2 : (orI (ls.map chkUs) != 0) = false := by simpa using hc
      rw [hc2] at h0 ⊢
      simp only [Bool.false_eq_true, if_false] at h0 ⊢
      have h1 : (gerr (piles ls) != 0) = false := by simpa using h0
      rw [h1]
      simp only [Bool.false_eq_true, if_false]
      have hrt := chk_cat.1 hc
      have hT := herr.1 h0
      have hf2 : ∀ g ∈ piles ls, gfit g = (g.2.sum, 0) := by
        intro g hg'
        have := hT _ (hmemP g hg')
        unfold i64 at this
        rw [hfit g hg', if_pos this, hpile g hg']
      have hsum : ∀ P : Up → Bool, (∀ x y, cmpU x y = 0 → P x = P y) → sumP P Up.d (gout Up.put (piles ls)) = sumP P Up.d (cat ls) := by
        intro P hP
        rw [sum_out (nm := Up.d) (put := Up.put) (fun x n => hP _ _ (by rw [put_cmp1]; exact cmpU_ok.cmp.refl x)) (fun _ _ => rfl) hf2, piles, sumG_grp hP, sumP_perm hperm]
      refine ⟨⟨?_, ?_, gout_strict hG.inc put_cmp1 put_cmp2, ?_⟩, fun r => hsum _ (inv_P r), hsum⟩
      · intro u hu
        obtain ⟨g, h2, _, rfl⟩ := (mem_gout hf2).1 hu
        exact hrt g.1 (hmemP g h2)
      · intro u hu
        obtain ⟨g, h2, _, rfl⟩ := (mem_gout hf2).1 hu
        show i64 g.2.sum
        rw [hpile g h2]
        exact hT _ (hmemP g h2)
      · intro u hu
        obtain ⟨g, h2, h3, rfl⟩ := (mem_gout hf2).1 hu
        exact h3
    · have : (orI (ls.map chkUs) != 0) = true := by simpa using hc
      rw [this, if_pos rfl] at h0
      exact absurd h0 hc
  · intro u hu
    unfold consR at hu
    split at hu
    · simp at hu
    · simp only at hu
      split at hu
      · simp at hu
      · simp only [gout, List.mem_filterMap] at hu
        obtain ⟨g, h1, h2⟩ := hu
        split at h2
        · simp only [Option.some.injEq] at h2
          subst h2
          exact ⟨g.1, hmemP g h1, rfl, rfl, rfl⟩
        · simp at h2
end Go.Proofs
end
section
set_option linter.unusedVariables false
set_option linter.unusedSimpArgs false
namespace Go.Proofs
open Go.Flat
set_option maxRecDepth 100000
set_option linter.unusedSimpArgs false
set_option linter.unusedVariables false
attribute [local simp] Bool.and_assoc Bool.or_assoc evalG evalX efD skF guardG guardL isCall stepL evalOp ev evs lk tmpsL app AV.ok fresh vv putCells insV ins del putL place Go.Flat.look fillC fillR getCells loadF storeF binF scalarBin intBin strBin isShift shiftBin unF lenF maxF minF rowsF appendF builtinF idxF natOf sliceP sliceF optEv Flat.cut overwrite toPV toPVs constAV scalarC scalarCs AV.cells TI.isAgg allSome andAll scalarEq buildable Go.Flat.lim retQ resL resAll resOne PartOf noTmp closedIn refs refs.refsL isSomeV hasB ids leA leA.leL renA renA.renL callB refsAll backL dropIds renS LiesAt injB ownB freshB memN locId insAll leA_refl leL_refl okS frzS frzA frzA.frzL evalD feet fine updCells cellsFrom memP footRf footWf noTmpU updIds opOps opIds idsA footR footW guardTs opTs dstTs callR callW renLoc renC inBlockQ thenQ Value.oneCell' IntKind.bits IntKind.signed

def lvV : Val := ⟨false, 1, ⟨#[]⟩⟩
def lv0 : Up := ⟨[], [lvV], ⟨0, 0, 0⟩, 2⟩
def lv1 : Up := ⟨[], [lvV], ⟨0, 1, 0⟩, -2⟩
def lv2 : Up := ⟨[], [lvV], ⟨0, 1, 0⟩, 2⟩
@[simp] theorem wrapU_1 : IntKind.u64.wrap 1 = 1 := rfl
@[simp] theorem wrapU_01 : IntKind.u64.wrap (0 + 1) = 1 := rfl
@[simp] theorem wrap_01 : IntKind.i64.wrap (0 + 1) = 1 := rfl
@[simp] theorem wrap_11 : IntKind.i64.wrap (1 + 1) = 2 := rfl

theorem lvs : Up.sms [lv0, lv1] := by
  intro u hu
  simp at hu
  rcases hu with rfl | rfl <;> simp [Up.sm, lv0, lv1, Bnd]

attribute [local simp] Up.av Up.row in
theorem spec137 (u : Up) : Flat.Sp Try.prog 137 [u.av, .ptr 0 0, .ptr 1 0] [(.var 0, .n 1), (.cell 0 0, .av (vv (.int .i64 0))), (.var 1, .n 1), (.cell 1 0, .av (vv (.int .i64 1)))] (vv (.bool (decide (1 ≤ u.t.a)))) [(.var 0, .n 1), (.cell 0 0, .av (vv (.int .i64 0))), (.var 1, .n 1), (.cell 1 0, .av (vv (.int .i64 1)))] := by
  refine sk Try.func137 ?_
  intro F G hn hG
  refine sq ?_
  refine rg 1000 ?_
  refine pr [1, 13] ?_
  refine sq ?_
  refine dr ?_
  refine de 2000 ?_
  refine dn ?_
  refine pr [4, 5] ?_
  refine k_ret ?_
  show retQ _ _ _ _ _ _ _
  simp [*]

attribute [local simp] Up.av Up.row lv0 lv1 lvV Val.row in
theorem spec181  : Flat.Sp Try.prog 181 [.sl 0 2 0 2, .fn (.func 137) [.ptr 1 0, .ptr 2 0]] [(.arr 0, .arr 92 6 [lv0.row, lv1.row] 0), (.var 1, .n 1), (.cell 1 0, .av (vv (.int .i64 0))), (.var 2, .n 1), (.cell 2 0, .av (vv (.int .i64 1)))] (vv (.int .i64 1)) [(.arr 0, .arr 92 6 [lv0.row, lv1.row] 0), (.var 1, .n 1), (.cell 1 0, .av (vv (.int .i64 0))), (.var 2, .n 1), (.cell 2 0, .av (vv (.int .i64 1)))] := by
  refine sk Try.func181 ?_
  intro F G hn hG
  refine sq ?_
  refine rg 1000 ?_
  refine pr [0, 2, 4, 19] ?_
  refine sq ?_
  refine sq ?_
  refine rg 2000 ?_
  refine pr [0, 2, 4, 6, 7, 19] ?_
  refine k_block ?_
  refine k_rounds 2 ?_
  show AK _ _ _ _ _ _
  refine sq ?_
  refine rg 3000 ?_
  refine pr [0, 2, 4, 6, 7, 19] ?_
  refine sq ?_
  refine ct ?_
  refine k_skip ?_
  refine sq ?_
  refine k_block ?_
  refine sq ?_
  refine rg 4000 ?_
  refine pr [0, 2, 4, 6, 7, 19] ?_
  refine sq ?_
  refine rc 5000 ?_
  refine oc (fun k => k + 1) (spec137 lv0) ?_
  refine on ?_
  refine pr [0, 2, 4, 6, 7, 19] ?_
  refine ce ?_
  refine k_skip ?_
  refine k_nil ?_
  show AK _ _ _ _ _ _
  refine rg 7000 ?_
  refine k_nil ?_
  show AK _ _ _ _ _ _
  refine sq ?_
  refine rg 1003000 ?_
  refine pr [0, 2, 4, 6, 7, 19] ?_
  refine sq ?_
  refine ct ?_
  refine k_skip ?_
  refine sq ?_
  refine k_block ?_
  refine sq ?_
  refine rg 1004000 ?_
  refine pr [0, 2, 4, 6, 7, 19] ?_
  refine sq ?_
  refine rc 1005000 ?_
  refine oc (fun k => k + 1) (spec137 lv1) ?_
  refine on ?_
  refine pr [0, 2, 4, 6, 7, 19] ?_
  refine ct ?_
  refine sq ?_
  refine rg 6000 ?_
  refine pr [0, 2, 4, 6, 7, 19] ?_
  refine k_ret ?_
  show retQ _ _ _ _ _ _ _
  simp [*]

attribute [local simp] Up.av Up.row lv0 lv1 lvV Val.row Up.zero in
theorem spec136  : Flat.Sp Try.prog 136 [.sl 0 2 0 2, .fn (.func 137) [.ptr 1 0, .ptr 2 0]] [(.arr 0, .arr 92 6 [lv0.row, lv1.row] 0), (.var 1, .n 1), (.cell 1 0, .av (vv (.int .i64 0))), (.var 2, .n 1), (.cell 2 0, .av (vv (.int .i64 1)))] (.sl 0 2 0 1) [(.arr 0, .arr 92 6 [lv0.row, Up.zero.row] 0), (.var 1, .n 1), (.cell 1 0, .av (vv (.int .i64 0))), (.var 2, .n 1), (.cell 2 0, .av (vv (.int .i64 1)))] := by
  refine sk Try.func136 ?_
  intro F G hn hG
  refine sq ?_
  refine rg 1000 ?_
  refine pr [0, 2, 4, 42] ?_
  refine sq ?_
  refine rc 2000 ?_
  refine oc id (spec181) ?_
  refine oe 2100 ?_
  refine on ?_
  refine pr [0, 2, 4, 8, 11, 42] ?_
  refine sq ?_
  refine sq ?_
  refine rg 3000 ?_
  refine pr [0, 2, 4, 8, 12, 42] ?_
  refine ce ?_
  refine k_skip ?_
  refine sq ?_
  refine sq ?_
  refine rg 5000 ?_
  refine pr [0, 2, 4, 8, 16, 42] ?_
  refine k_block ?_
  refine k_rounds 1 ?_
  show AK _ _ _ _ _ _
  refine sq ?_
  refine sq ?_
  refine rg 6000 ?_
  refine pr [0, 2, 4, 8, 16, 42] ?_
  refine ce ?_
  refine k_exit ?_
  show AK _ _ _ _ _ _
  refine sq ?_
  refine rg 12000 ?_
  refine pr [0, 1, 4, 6, 39, 42] ?_
  refine sq ?_
  refine rg 13000 ?_
  refine pr [4, 5] ?_
  refine k_ret ?_
  show retQ _ _ _ _ _ _ _
  simp [*]

attribute [local simp] Up.av Up.row lv0 lv1 lvV Val.row lv2 Up.zero lrow in
theorem spec79 (hr : (refR 0 1 [lv0, lv1] != 0) = false) (c : List Up) (hcr : consR [[lv2]] = (c, 0)) : Flat.Sp Try.prog 79 [vv (.int .i64 0), vv (.int .i64 1), .p (.ps [lv0.row, lv1.row])] [] (.tup [.p (.ps (c.map Up.row)), vv (.int .i64 0)]) [] := by
  refine sk Try.func79 ?_
  intro F G hn hG
  have h94 : Flat.Sp Try.prog 94 [vv (.int .i64 0), vv (.int .i64 1), .p (.ps [lv0.row, lv1.row])] [] (vv (.int .i64 (refR 0 1 [lv0, lv1]))) [] := spec94 0 1 [lv0, lv1] (by simp [Flat.lim]) lvs
  have h92 : Flat.Sp Try.prog 92 [.p (.ps [lv0.row, lv1.row])] [] (.sl 4002 2 0 2) [(.arr 4002, .arr 92 6 [lv0.row, lv1.row] 0)] := spec92 [lv0, lv1] (by simp [Cap])
  have h45 : Flat.Sp Try.prog 45 [.p (.ps [lrow [lv2]])] [] (.tup [.p (.ps ((consR [[lv2]]).1.map Up.row)), vv (.int .i64 (consR [[lv2]]).2)]) [] := spec45 [[lv2]] (by simp [Cap]) (by simp [cat, Cap]) (by intro l hl; rw [List.mem_singleton] at hl; rw [hl]; exact fun u hu => by rw [List.mem_singleton] at hu; rw [hu]; simp [Up.sm, lv2, Bnd])
  rw [hcr] at h45
  generalize refR 0 1 [lv0, lv1] = rr at hr h94
  refine sq ?_
  refine rg 1000 ?_
  refine pr [2, 5, 6, 46] ?_
  refine sq ?_
  refine sq ?_
  refine rc 2000 ?_
  refine oc id (h94) ?_
  refine oe 2100 ?_
  refine on ?_
  refine pr [2, 5, 6, 11, 15, 46] ?_
  refine sq ?_
  refine rg 3000 ?_
  refine pr [2, 5, 6, 11, 16, 46] ?_
  refine ce ?_
  refine k_skip ?_
  refine sq ?_
  refine rc 5000 ?_
  refine oc (id) (h92) ?_
  refine oe 5100 ?_
  refine oc (fun k => if k = 0 then 4002 else if k = 1 then 1000 else 1001) (spec136) ?_
  refine oe 5200 ?_
  refine on ?_
  refine pr [3, 4, 6, 8, 9, 11, 22, 46] ?_
  refine sq ?_
  refine sq ?_
  refine rg 6000 ?_
  refine pr [3, 4, 6, 8, 9, 11, 23, 46] ?_
  refine k_block ?_
  refine k_rounds 2 ?_
  show AK _ _ _ _ _ _
  refine sq ?_
  refine rg 7000 ?_
  refine pr [3, 4, 6, 8, 9, 11, 23, 46] ?_
  refine sq ?_
  refine ct ?_
  refine k_skip ?_
  refine sq ?_
  refine k_block ?_
  refine sq ?_
  refine rg 8000 ?_
  refine pr [3, 4, 6, 8, 9, 11, 23, 46] ?_
  refine dr ?_
  refine de 9000 ?_
  refine dn ?_
  refine k_nil ?_
  show AK _ _ _ _ _ _
  refine rg 10000 ?_
  refine k_nil ?_
  show AK _ _ _ _ _ _
  refine sq ?_
  refine rg 1007000 ?_
  refine pr [3, 4, 6, 8, 9, 11, 23, 46] ?_
  refine sq ?_
  refine ce ?_
  refine k_exit ?_
  show AK _ _ _ _ _ _
  refine sq ?_
  refine fz 4002 ?_
  refine rc 11000 ?_
  refine oc id (h45) ?_
  refine oe 11100 ?_
  refine on ?_
  refine pr [6, 8] ?_
  refine k_ret ?_
  show retQ _ _ _ _ _ _ _
  simp [*]

end Go.Proofs
end
section
set_option linter.unusedVariables false
set_option linter.unusedSimpArgs false
namespace Go.Proofs
open Go.Flat
set_option maxRecDepth 100000
set_option linter.unusedSimpArgs false
set_option linter.unusedVariables false
theorem isrt_two {α : Type} (lt : α → α → Bool) (x y : α) : isrt lt [x, y] = if lt y x then [y, x] else [x, y] := by
  simp only [isrt, List.foldl_cons, List.foldl_nil, nil_mrg, mrg_cons]
  split
  · rw [mrg_nil]
  · rfl
theorem chkRow1 : checkRow [lvV] = 0 := by simp [checkRow, badRow, firstBad, Val.right, lvV]
theorem chkRow0 : checkRow [] = 0 := by simp [checkRow, badRow, firstBad]
theorem chk_of {k r : List Val} {t : Tm} {d : Int} (h1 : checkRow k = 0) (h2 : checkRow r = 0) (h3 : chkT t = 0) : chkU ⟨k, r, t, d⟩ = 0 := by
  simp only [chkU, h1, h2, h3]; rfl
theorem cons_one {x : Up} {n : Int} (hc : chkU x = 0) (hd : x.d = n) (hn : n ≠ 0) (ht : tfit (tsum [n]) = (n, 0)) : consR [[x]] = ([x], 0) := by
  have h1 : orI ([[x]].map chkUs) = 0 := by simp [chkUs, hc, orI]
  have h2 : piles [[x]] = [(x, [n])] := by rw [piles, cat_one, isrt_short (by simp), ← hd]; rfl
  have h3 : gerr [(x, [n])] = 0 := by simp [gerr, gfit, ht, orI]
  have h4 : gout Up.put [(x, [n])] = [x] := by
    have : (gfit (x, [n])).1 = n := by simp [gfit, ht]
    simp only [gout, List.filterMap_cons, List.filterMap_nil, this]
    have h5 : (n != 0) = true := by simpa using hn
    rw [h5]
    simp only [if_true]
    rw [Up.put, ← hd]
  rw [consR, h1, h2, h3, h4]
  rfl
def lvA : Up := ⟨[], [lvV], ⟨0, 0, 0⟩, -2⟩
def lvB : Up := ⟨[lvV], [lvV], ⟨0, 0, 0⟩, 2⟩
theorem chkT0 : chkT ⟨0, 0, 0⟩ = 0 := by decide
theorem chkT1 : chkT ⟨0, 1, 0⟩ = 0 := by decide
theorem fit2 : tfit (tsum [2]) = (2, 0) := by decide
theorem fitm2 : tfit (tsum [-2]) = (-2, 0) := by decide
theorem liv_d : consR [[lv2]] = ([lv2], 0) := cons_one (n := 2) (chk_of chkRow0 chkRow1 chkT1) rfl (by decide) fit2
theorem liv_chk0 : chkUs [lv0] = 0 := by simp only [chkUs, List.map_cons, List.map_nil, show chkU lv0 = 0 from chk_of chkRow0 chkRow1 chkT0]; rfl
theorem liv_chk01 : chkUs [lv0, lv1] = 0 := by simp only [chkUs, List.map_cons, List.map_nil, show chkU lv0 = 0 from chk_of chkRow0 chkRow1 chkT0, show chkU lv1 = 0 from chk_of chkRow0 chkRow1 chkT1]; rfl
theorem ref_of {l r : Int} {us : List Up} (h1 : chkUs us = 0) (h2 : badL l r = false) : refR l r us = 0 := by rw [refR, h1, h2]; rfl
theorem times2 : timesR 2 (-1) = (-2, 0) := by decide
theorem liv_a : doR 6 [] [lv0] = ([lvA], Tm.zero, 0) := by
  have h1 : madL 6 [] [lv0] = ([lvA], (false, Tm.zero)) := by
    have : oneR 6 [] lv0 = ([lvA], true) := by
      have h2 : oneM 6 [] ⟨lv0.r, lv0.d⟩ = ([⟨[lvV], -2⟩], 0) := by
        show ([(⟨[lvV], (timesR 2 (-1)).1⟩ : Ct)], (timesR 2 (-1)).2) = _
        rw [times2]
      rw [oneR, h2]
      simp [badC, chkRow1]
      rfl
    simp only [madL, List.foldl_cons, List.foldl_nil, madS, this]
    rfl
  have h3 : consR [[lvA]] = ([lvA], 0) := cons_one (n := -2) (chk_of chkRow0 chkRow1 chkT0) rfl (by decide) fitm2
  rw [doR, liv_chk0, h1]
  simp only [doneR, h3]
  rfl
theorem liv_f : doR 0 [] [lv0] = ([], Tm.zero, 4) := by
  rw [doR, liv_chk0]; rfl
theorem liv_b : arrR [0] [lv0] = ([lvB], 0) := by
  have h1 : colsR [lvV] [0] = ([lvV], 0) := by rw [colsR, chkRow1]; rfl
  have h2 : arrErr [0] [lv0] = 0 := by simp only [arrErr, List.map_cons, List.map_nil, lv0, h1]; rfl
  have h3 : [lv0].map (keyd [0]) = [lvB] := by simp only [List.map_cons, List.map_nil, keyd, lv0, h1]; rfl
  have h4 : consR [[lvB]] = ([lvB], 0) := cons_one (n := 2) (chk_of chkRow1 chkRow1 chkT0) rfl (by decide) fit2
  rw [arrR, liv_chk0, h2, h3, h4]
  rfl
theorem cmp01 : cmpU lv0 lv1 = -1 := by decide
theorem cmp10 : cmpU lv1 lv0 = 1 := by decide
theorem liv_cc : consR [[lv0, lv1]] = ([lv0, lv1], 0) := by
  have h1 : orI ([[lv0, lv1]].map chkUs) = 0 := by simp only [List.map_cons, List.map_nil, liv_chk01]; rfl
  have h0 : isrt (ltU cmpU) [lv0, lv1] = [lv0, lv1] := by
    rw [isrt_two, if_neg]
    simp [ltU, cmp10]
  have h2 : piles [[lv0, lv1]] = [(lv0, [2]), (lv1, [-2])] := by
    rw [piles, cat_one, h0]
    have e1 : grp cmpU Up.d [lv0, lv1] = gstep cmpU Up.d (gstep cmpU Up.d [] lv0) lv1 := rfl
    rw [e1, gstep_nil]
    have e2 := gstep_snoc (c := cmpU) Up.d [] (lv0, [lv0.d]) lv1
    rw [List.nil_append] at e2
    rw [e2, if_neg (by rw [cmp01]; decide)]
    rfl
  have h3 : gerr [(lv0, [2]), (lv1, [-2])] = 0 := by simp [gerr, gfit, fit2, fitm2, orI]
  have h4 : gout Up.put [(lv0, [2]), (lv1, [-2])] = [lv0, lv1] := by
    simp [gout, gfit, fit2, fitm2]
    exact ⟨rfl, rfl⟩
  rw [consR, h1, h2, h3, h4]
  rfl
theorem liv_c : finR3 (doneR (entL 0 [lv0]).2 (entL 0 [lv0]).1) = ([lv0, lv1], Tm.zero, 0) := by
  have h1 : entL 0 [lv0] = ([lv0, lv1], (false, Tm.zero)) := by
    have hb : badX 0 lv0 = false := by
      show ((timesR 2 (-1)).2 != 0 || chkT ⟨0, 1, 0⟩ != 0) = false
      rw [times2, chkT1]; rfl
    have hn : nxt 0 lv0 = lv1 := by
      show (⟨[], [lvV], ⟨0, 1, 0⟩, (timesR 2 (-1)).1⟩ : Up) = _
      rw [times2]; rfl
    simp only [entL, List.foldl_cons, List.foldl_nil, entS, hb, hn]
    rfl
  rw [h1]
  simp only [doneR, liv_cc]
  rfl
theorem liv_e : finR3 (doneR (false, Tm.zero) ([lv0, lv1].map (nulU 0))) = ([], Tm.zero, 0) := by
  have h0 : [lv0, lv1].map (nulU 0) = [lv0, lvA] := rfl
  have hc : cmpU lv0 lvA = 0 := by decide
  have hc2 : cmpU lvA lv0 = 0 := by decide
  have h1 : orI ([[lv0, lvA]].map chkUs) = 0 := by
    simp only [List.map_cons, List.map_nil, chkUs, show chkU lv0 = 0 from chk_of chkRow0 chkRow1 chkT0, show chkU lvA = 0 from chk_of chkRow0 chkRow1 chkT0]; rfl
  have hs : isrt (ltU cmpU) [lv0, lvA] = [lv0, lvA] := by
    rw [isrt_two, if_neg]
    simp [ltU, hc2]
  have h2 : piles [[lv0, lvA]] = [(lv0, [2, -2])] := by
    rw [piles, cat_one, hs]
    have e1 : grp cmpU Up.d [lv0, lvA] = gstep cmpU Up.d (gstep cmpU Up.d [] lv0) lvA := rfl
    rw [e1, gstep_nil]
    have e2 := gstep_snoc (c := cmpU) Up.d [] (lv0, [lv0.d]) lvA
    rw [List.nil_append] at e2
    rw [e2, if_pos hc]
    rfl
  have hf : tfit (tsum [2, -2]) = (0, 0) := by decide
  have h3 : gerr [(lv0, [2, -2])] = 0 := by simp [gerr, gfit, hf, orI]
  have h4 : gout Up.put [(lv0, [2, -2])] = [] := by simp [gout, gfit, hf]
  have h5 : consR [[lv0, lvA]] = ([], 0) := by rw [consR, h1, h2, h3, h4]; rfl
  rw [h0]
  simp only [doneR, h5]
  rfl
end Go.Proofs
end
section
set_option linter.unusedVariables false
set_option linter.unusedSimpArgs false
namespace Go.Proofs
open Go.Flat
set_option linter.unusedSimpArgs false
set_option linter.unusedVariables false
theorem eqB_iff (x y : Val) : x.eqB y = true ↔ x = y := by
  obtain ⟨a, b, c⟩ := x
  obtain ⟨d, e, f⟩ := y
  simp only [Val.eqB, Bool.and_eq_true, beq_iff_eq, Val.mk.injEq]
  constructor
  · rintro ⟨h1, h2, h3⟩; exact ⟨h1, h2, toList_inj h3⟩
  · rintro ⟨h1, h2, h3⟩; exact ⟨h1, h2, by rw [h3]⟩
theorem note_flag (f : Fa) (t : Tm) : (noteR f t).1 = true := by
  unfold noteR
  obtain ⟨b, s⟩ := f
  cases b
  · simp
  · split <;> rfl
theorem pcs_mono : ∀ (n : Nat) (r o : List Up) (f : Fa), r.length ≤ n → f.1 = true → (pcs o f r).2.1 = true
  | _, [], o, f, _, h => by rw [pcs_nil]; exact h
  | 0, x :: r, o, f, hn, h => by simp at hn
  | n + 1, x :: r, o, f, hn, h => by
    rw [pcs]
    refine pcs_mono n _ _ _ (by simp only [List.length_drop]; simp only [List.length_cons] at hn; omega) ?_
    split
    · exact note_flag f x.t
    · exact h
theorem alk_take {x : Up} : ∀ r : List Up, ∀ y ∈ r.take (alk x r), cmpU x y = 0
  | [], y, h => by simp at h
  | z :: r, y, h => by
    unfold alk at h
    split at h
    · rename_i hz
      rw [List.take_succ_cons] at h
      rcases List.mem_cons.1 h with rfl | h
      · simpa using hz
      · exact alk_take r y h
    · simp at h
theorem alk_drop {x : Up} : ∀ r : List Up, (x :: r).Pairwise (fun x y => ltU cmpU y x = false) → ∀ y ∈ r.drop (alk x r), cmpU x y ≠ 0
  | [], _, y, h => by simp at h
  | z :: r, hp, y, h => by
    obtain ⟨h1, h2⟩ := List.pairwise_cons.1 hp
    obtain ⟨h3, h4⟩ := List.pairwise_cons.1 h2
    unfold alk at h
    split at h
    · rw [List.drop_succ_cons] at h
      exact alk_drop r (List.pairwise_cons.2 ⟨fun w hw => h1 w (by simp [hw]), h4⟩) y h
    · rename_i hz
      simp only [beq_iff_eq] at hz
      have hlt : ltC cmpU x z = true := cmpU_ok.cmp.lt_of (h1 z (by simp)) hz
      rw [List.drop_zero] at h
      rcases List.mem_cons.1 h with rfl | h
      · exact hz
      · exact cmpU_ok.cmp.ne_of_lt (cmpU_ok.cmp.lt_le hlt (h3 y h))
theorem pcs_flag : ∀ (n : Nat) (r o : List Up) (f : Fa), r.length ≤ n → r.length ≤ 4294967296 → gds r → r.Pairwise (fun x y => ltU cmpU y x = false) → (∃ u ∈ r, ¬ i64 (T r u)) → (pcs o f r).2.1 = true
  | _, [], o, f, _, _, _, _, h => by obtain ⟨u, hu, _⟩ := h; simp at hu
  | 0, x :: r, o, f, hn, _, _, _, _ => by simp at hn
  | n + 1, x :: r, o, f, hn, hl, hg, hp, h => by
    rw [pcs]
    have hsp : x :: r = (x :: r.take (alk x r)) ++ r.drop (alk x r) := by rw [List.cons_append, List.take_append_drop]
    have hlen : (x :: r.take (alk x r)).length ≤ 4294967296 := by simp only [List.length_cons, List.length_take] at hl ⊢; omega
    have hgp : gds (x :: r.take (alk x r)) := fun u hu => hg u (by rw [hsp]; exact List.mem_append_left _ hu)
    have hsub : (r.drop (alk x r)).length ≤ n := by simp only [List.length_drop]; simp only [List.length_cons] at hn; omega
    by_cases hc : (consR [x :: r.take (alk x r)]).2 = 0
    · have hall := ((cons_ok (ls := [x :: r.take (alk x r)]) (by rw [cat_one]; exact hgp) (by rw [cat_one]; exact hlen)).1.1 hc).2
      rw [cat_one] at hall
      have hpk : ∀ y ∈ x :: r.take (alk x r), cmpU x y = 0 := by
        intro y hy
        rcases List.mem_cons.1 hy with rfl | hy
        · exact cmpU_ok.cmp.refl y
        · exact alk_take r y hy
      have hrk := alk_drop r hp
      refine pcs_flag n _ _ _ hsub (by simp only [List.length_drop]; simp only [List.length_cons] at hl; omega) (fun u hu => hg u (List.mem_cons_of_mem _ (List.mem_of_mem_drop hu))) ((List.pairwise_cons.1 hp).2.sublist (List.drop_sublist _ _)) ?_
      obtain ⟨u, hu, hb⟩ := h
      have hT : T (x :: r) u = T (x :: r.take (alk x r)) u + T (r.drop (alk x r)) u := by rw [← T_app, ← hsp]
      by_cases hxu : cmpU x u = 0
      · exfalso
        have h0 : T (r.drop (alk x r)) u = 0 := T_none fun y hy e => hrk y hy (cmpU_ok.cmp.trans hxu e)
        rw [hT, h0, Int.add_zero, ← T_congr hxu] at hb
        exact hb (hall x (by simp))
      · have h0 : T (x :: r.take (alk x r)) u = 0 := T_none fun y hy e => hxu (cmpU_ok.cmp.trans (hpk y hy) (cmpU_ok.cmp.symm e))
        rw [hT, h0, Int.zero_add] at hb
        refine ⟨u, ?_, hb⟩
        rw [hsp] at hu
        rcases List.mem_append.1 hu with hu | hu
        · exact absurd (hpk u hu) hxu
        · exact hu
    · refine pcs_mono n _ _ _ hsub ?_
      have : ((consR [x :: r.take (alk x r)]).2 != 0) = true := by simpa using hc
      rw [this, if_pos rfl]
      exact note_flag f x.t
/-- What was made right comes out evened out, or fails. -/
theorem done_ok {f : Fa} {us : List Up} (hr : rts us) (hg : gds us) (hl : us.length ≤ 4294967296) (h : (finR3 (doneR f us)).2.2 = 0) : f.1 = false ∧ (consR [us]).2 = 0 ∧ (finR3 (doneR f us)).1 = (consR [us]).1 := by
  have hfl : (doneR f us).2.1 = false := by
    unfold finR3 at h
    simp only at h
    cases hq : (doneR f us).2.1 with
    | false => rfl
    | true => rw [hq] at h; simp at h
  by_cases hc : (consR [us]).2 = 0
  · have e : doneR f us = ((consR [us]).1, f) := by
      have : ((consR [us]).2 != 0) = false := by simpa using hc
      rw [doneR, this]; rfl
    rw [e] at hfl
    exact ⟨hfl, hc, by rw [e]; rfl⟩
  · exfalso
    have e : doneR f us = pcs [] f (isrt (ltU cmpU) us) := by
      have : ((consR [us]).2 != 0) = true := by simpa using hc
      rw [doneR, this]; rfl
    have hperm : (isrt (ltU cmpU) us).Perm us := isrt_perm _
    have := (cons_ok (ls := [us]) (by rw [cat_one]; exact hg) (by rw [cat_one]; exact hl)).1
    rw [cat_one] at this
    have hex : ∃ u ∈ us, ¬ i64 (T us u) := Classical.byContradiction fun hn => hc (this.2 ⟨hr, fun u hu => Classical.byContradiction fun hb => hn ⟨u, hu, hb⟩⟩)
    obtain ⟨u, hu, hb⟩ := hex
    have hT : T (isrt (ltU cmpU) us) u = T us u := sumP_perm hperm
    have := pcs_flag _ (isrt (ltU cmpU) us) [] f (Nat.le_refl _) (by rw [isrt_length]; exact hl) (fun v hv => hg v (hperm.mem_iff.1 hv)) (isrt_line ordU us) ⟨u, hperm.mem_iff.2 hu, by rw [hT]; exact hb⟩
    rw [← e, hfl] at this
    simp at this
/-! ### plans -/
theorem i64_wrap (n : Int) : i64 (IntKind.i64.wrap n) := by rw [w64]; unfold i64; omega
theorem times_or (a b : Int) : timesR a b = (0, 10) ∨ timesR a b = (IntKind.i64.wrap (a * b), 0) := by
  have h : ∀ (c : Bool) (p : Int), (if c then ((0 : Int), (10 : Int)) else (p, 0)) = (0, 10) ∨ (if c then ((0 : Int), (10 : Int)) else (p, 0)) = (p, 0) := by
    intro c p
    cases c
    · exact .inr rfl
    · exact .inl rfl
  exact h _ _
theorem times_i64 (a b : Int) : i64 (timesR a b).1 := by
  rcases times_or a b with h | h <;> rw [h]
  · unfold i64; simp
  · exact i64_wrap _
theorem times_neg {d : Int} (hd : i64 d) (h : (timesR d (-1)).2 = 0) : (timesR d (-1)).1 = -d := by
  unfold i64 at hd
  by_cases h0 : d = -9223372036854775808
  · subst h0
    have : (timesR (-9223372036854775808) (-1)).2 = 10 := by decide
    rw [this] at h
    simp at h
  · rcases times_or d (-1) with h1 | h1
    · rw [h1] at h; simp at h
    · rw [h1]
      show IntKind.i64.wrap (d * -1) = -d
      rw [w64]; omega
theorem chk_mk {k r : List Val} {t : Tm} {d : Int} (h1 : checkRow k = 0) (h2 : checkRow r = 0) (h3 : chkT t = 0) : chkU ⟨k, r, t, d⟩ = 0 := chk_of h1 h2 h3
/-! ### twice -/
theorem sum_map {P : Up → Bool} {f : Up → Up} (l : List Up) : sumP P Up.d (l.map f) = sumP (fun u => P (f u)) (fun u => (f u).d) l := by
  unfold sumP
  rw [List.filter_map, List.map_map]
  rfl
/-! ### keys -/
end Go.Proofs
end
section
set_option linter.unusedVariables false
set_option linter.unusedSimpArgs false
namespace Go.Proofs
open Go.Flat
set_option linter.unusedSimpArgs false
set_option linter.unusedVariables false
/-- All numbers of a row's counts. -/
def TK (cs : List Ct) (r : Ct) : Int := sumP (fun x => decide (cmpK r x = 0)) Ct.n cs
theorem TK_congr {cs : List Ct} {r s : Ct} (h : cmpK r s = 0) : TK cs r = TK cs s := tot_congr cmpK_ok.cmp Ct.n cs h
theorem TK_some {cs : List Ct} {r : Ct} (h : TK cs r ≠ 0) : ∃ u ∈ cs, cmpK r u = 0 := by
  refine Classical.byContradiction fun hn => h ?_
  have : cs.filter (fun y => decide (cmpK r y = 0)) = [] := by
    rw [List.filter_eq_nil_iff]
    intro y hy
    simp only [decide_eq_true_eq]
    exact fun e => hn ⟨y, hy, e⟩
  rw [TK, sumP, this]; rfl
def pilesK (cs : List Ct) : List (Ct × List Int) := grp cmpK Ct.n (isrt (ltU cmpK) cs)
structure CntOk (cs : List Ct) : Prop where
  two : (cntR cs).2 = 0 ∨ (cntR cs).2 = 10
  err : (cntR cs).2 = 0 ↔ ∀ u ∈ cs, i64 (TK cs u)
  nil : (cntR cs).2 ≠ 0 → (cntR cs).1 = []
  st : (cntR cs).1.Pairwise fun x y => ltC cmpK x y = true
  mem : ∀ u ∈ (cntR cs).1, u.n ≠ 0 ∧ (∃ v ∈ cs, u.r = v.r) ∧ TK cs u = u.n
  all : (cntR cs).2 = 0 → ∀ v ∈ cs, TK cs v ≠ 0 → ∃ u ∈ (cntR cs).1, cmpK u v = 0
theorem orI_two {l : List Int} (h : ∀ x ∈ l, x = 0 ∨ x = 10) : orI l = 0 ∨ orI l = 10 := by
  induction l with
  | nil => exact .inl rfl
  | cons x l ih =>
    rw [orI]
    split
    · exact h x (by simp)
    · exact ih fun y hy => h y (by simp [hy])
theorem cnt_ok {cs : List Ct} (hg : ∀ c ∈ cs, i64 c.n) (hl : cs.length ≤ 4294967296) : CntOk cs := by
  have hperm : (isrt (ltU cmpK) cs).Perm cs := isrt_perm _
  have hG : Grp cmpK Ct.n (isrt (ltU cmpK) cs) (pilesK cs) := grp_ok cmpK_ok.cmp Ct.n _ (isrt_line cmpK_ord _)
  have hpile : ∀ g ∈ pilesK cs, g.2.sum = TK cs g.1 := by
    intro g hg'
    rw [hG.pile g hg']
    exact sumP_perm hperm
  have hns : ∀ g ∈ pilesK cs, (∀ n ∈ g.2, i64 n) ∧ g.2.length ≤ 4294967296 := by
    intro g hg'
    rw [hG.pile g hg']
    refine ⟨fun n hn => ?_, ?_⟩
    · obtain ⟨x, hx, rfl⟩ := List.mem_map.1 hn
      exact hg x (hperm.mem_iff.1 (List.mem_filter.1 hx).1)
    · rw [alike, List.length_map]
      have := List.length_filter_le (fun x => decide (cmpK g.1 x = 0)) (isrt (ltU cmpK) cs)
      rw [isrt_length] at this
      omega
  have hfit : ∀ g ∈ pilesK cs, gfit g = if -9223372036854775808 ≤ TK cs g.1 ∧ TK cs g.1 < 9223372036854775808 then (TK cs g.1, 0) else (0, 10) := by
    intro g hg'
    rw [gfit, fit_sum (hns g hg').1 (hns g hg').2, hpile g hg']
  have hmemP : ∀ g ∈ pilesK cs, g.1 ∈ cs := fun g h => hperm.mem_iff.1 (hG.mem g h)
  have hall : ∀ x ∈ cs, ∃ g ∈ pilesK cs, cmpK g.1 x = 0 := fun x hx => hG.all x (hperm.mem_iff.2 hx)
  have herr : gerr (pilesK cs) = 0 ↔ ∀ u ∈ cs, i64 (TK cs u) := by
    rw [gerr, orI_zero]
    constructor
    · intro h u hu
      obtain ⟨g, h1, h2⟩ := hall u hu
      have h3 := h _ (List.mem_map.2 ⟨g, h1, rfl⟩)
      rw [hfit g h1] at h3
      rw [← TK_congr h2]
      split at h3
      · rename_i q; exact q
      · simp at h3
    · intro h x hx
      obtain ⟨g, h1, rfl⟩ := List.mem_map.1 hx
      have := h _ (hmemP g h1)
      unfold i64 at this
      rw [hfit g h1, if_pos this]
  have e2 : (cntR cs).2 = gerr (pilesK cs) := rfl
  have e1 : (cntR cs).1 = if gerr (pilesK cs) != 0 then [] else gout Ct.put (pilesK cs) := rfl
  have hput1 : ∀ (x : Ct) (n : Int) (y : Ct), cmpK (x.put n) y = cmpK x y := fun _ _ _ => rfl
  have hput2 : ∀ (x : Ct) (n : Int) (y : Ct), cmpK y (x.put n) = cmpK y x := fun _ _ _ => rfl
  have hf2 : gerr (pilesK cs) = 0 → ∀ g ∈ pilesK cs, gfit g = (g.2.sum, 0) := by
    intro h0 g hg'
    have := herr.1 h0 _ (hmemP g hg')
    unfold i64 at this
    rw [hfit g hg', if_pos this, hpile g hg']
  refine ⟨?_, ?_, ?_, ?_, ?_, ?_⟩
  · rw [e2, gerr]
    refine orI_two ?_
    intro x hx
    obtain ⟨g, h1, rfl⟩ := List.mem_map.1 hx
    rw [hfit g h1]
    split
    · exact .inl rfl
    · exact .inr rfl
  · rw [e2]; exact herr
  · intro h
    rw [e2] at h
    rw [e1, if_pos (by simpa using h)]
  · rw [e1]
    split
    · exact .nil
    · exact gout_strict hG.inc hput1 hput2
  · intro u hu
    rw [e1] at hu
    split at hu
    · simp at hu
    · rename_i h
      have h0 : gerr (pilesK cs) = 0 := by simpa using h
      obtain ⟨g, h1, h2, rfl⟩ := (mem_gout (hf2 h0)).1 hu
      refine ⟨h2, ⟨g.1, hmemP g h1, rfl⟩, ?_⟩
      show TK cs (g.1.put _) = g.2.sum
      rw [hpile g h1]
      exact TK_congr (by rw [hput1]; exact cmpK_ok.cmp.refl _)
  · intro h v hv hn
    rw [e2] at h
    obtain ⟨g, h1, h2⟩ := hall v hv
    rw [e1, if_neg (by simpa using h)]
    refine ⟨g.1.put g.2.sum, (mem_gout (hf2 h)).2 ⟨g, h1, ?_, rfl⟩, by rw [hput1]; exact h2⟩
    rw [hpile g h1, TK_congr h2]
    exact hn
/-- Of right rows those that stand alike are the same. -/
theorem cmpK_eq {x y : Ct} (hx : checkRow x.r = 0) (hy : checkRow y.r = 0) : cmpK x y = 0 ↔ x.r = y.r :=
  cmpBy_eq (p := fun v : Val => v.right = true) (fun a b ha hb => Val.cmp_eq a b ha hb) x.r y.r (row_right hx) (row_right hy)
/-- Counts whose sums are the same add up to the same. -/
theorem cnt_ext {a b : List Ct} (ha : ∀ c ∈ a, i64 c.n) (hb : ∀ c ∈ b, i64 c.n) (la : a.length ≤ 4294967296) (lb : b.length ≤ 4294967296) (ra : ∀ c ∈ a, checkRow c.r = 0) (rb : ∀ c ∈ b, checkRow c.r = 0) (h : ∀ r, TK a r = TK b r) : cntR a = cntR b := by
  have A := cnt_ok ha la
  have B := cnt_ok hb lb
  have one : ∀ {a b : List Ct}, CntOk a → CntOk b → (∀ r, TK a r = TK b r) → (cntR a).2 = 0 → (cntR b).2 = 0 := by
    intro a b A B h h0
    rw [A.err] at h0
    rw [B.err]
    intro v hv
    by_cases hz : TK b v = 0
    · rw [hz]; unfold i64; omega
    · rw [← h v] at hz ⊢
      obtain ⟨u, hu, hc⟩ := TK_some hz
      rw [TK_congr hc]
      exact h0 u hu
  have h2 : (cntR a).2 = (cntR b).2 := by
    have p := one A B h
    have q := one B A fun r => (h r).symm
    rcases A.two with e | e <;> rcases B.two with f | f
    · rw [e, f]
    · have := p e; omega
    · have := q f; omega
    · rw [e, f]
  have h1 : (cntR a).1 = (cntR b).1 := by
    by_cases h0 : (cntR a).2 = 0
    · have key : ∀ {a b : List Ct}, CntOk a → CntOk b → (∀ c ∈ a, checkRow c.r = 0) → (∀ c ∈ b, checkRow c.r = 0) → (∀ r, TK a r = TK b r) → (cntR b).2 = 0 → ∀ u ∈ (cntR a).1, u ∈ (cntR b).1 := by
        intro a b A B ra rb h h0 u hu
        obtain ⟨n1, ⟨x, hx, hxr⟩, n2⟩ := A.mem u hu
        have hz : TK b u ≠ 0 := by rw [← h u, n2]; exact n1
        obtain ⟨v, hv, hc⟩ := TK_some hz
        obtain ⟨w, hw, hwv⟩ := B.all h0 v hv (by rw [← TK_congr hc]; exact hz)
        have huw : cmpK u w = 0 := cmpK_ok.cmp.trans hc (cmpK_ok.cmp.symm hwv)
        obtain ⟨m1, ⟨y, hy, hyr⟩, m2⟩ := B.mem w hw
        have e := (cmpK_eq (by rw [hxr]; exact ra x hx) (by rw [hyr]; exact rb y hy)).1 huw
        have : u = w := by
          have hn : u.n = w.n := by rw [← n2, ← m2, h u, TK_congr huw]
          cases u; cases w; simp only [Ct.mk.injEq]; exact ⟨e, hn⟩
        rw [this]; exact hw
      exact strict_ext cmpK_ok.cmp _ _ A.st B.st fun u => ⟨key A B ra rb h (by rw [← h2]; exact h0) u, key B A rb ra (fun r => (h r).symm) h0 u⟩
    · rw [A.nil h0, B.nil (by rw [← h2]; exact h0)]
  exact Prod.ext h1 h2
/-- What is there at a time, as sums over the updates. -/
theorem TK_at (us : List Up) (t : Tm) (r : Ct) : TK (atL us t) r = sumP (fun u => aheadT u.t t && decide (rowsC r.r u.r = 0)) Up.d us := by
  induction us with
  | nil => rfl
  | cons u us ih =>
    rw [sumP_cons, ← ih, TK, TK, atL, atL, List.filter_cons]
    cases h : aheadT u.t t with
    | false => simp
    | true =>
      rw [if_pos rfl, List.map_cons, sumP_cons]
      rfl
theorem cmpU_parts {x y : Up} (h : cmpU x y = 0) : rowsC x.k y.k = 0 ∧ rowsC x.r y.r = 0 ∧ x.t = y.t := by
  rw [cmpU, orI_zero] at h
  exact ⟨h _ (by simp), h _ (by simp), (cmpT_eq _ _).1 (h _ (by simp))⟩
theorem at_inv (t : Tm) (r : Ct) : ∀ x y, cmpU x y = 0 → (aheadT x.t t && decide (rowsC r.r x.r = 0)) = (aheadT y.t t && decide (rowsC r.r y.r = 0)) := by
  intro x y h
  obtain ⟨_, h2, h3⟩ := cmpU_parts h
  have : rowsC r.r x.r = 0 ↔ rowsC r.r y.r = 0 := ⟨fun q => rowsC_ok.cmp.trans q h2, fun q => rowsC_ok.cmp.trans q (rowsC_ok.cmp.symm h2)⟩
  rw [h3]
  simp [this]
end Go.Proofs
end
section
set_option linter.unusedVariables false
set_option linter.unusedSimpArgs false
namespace Go.Proofs
open Go.Flat
set_option linter.unusedVariables false
theorem pcs_sms : ∀ (n : Nat) (r o : List Up) (f : Fa), r.length ≤ n → Up.sms r → Up.sms o → Up.sms (pcs o f r).1 ∧ (pcs o f r).1.length ≤ o.length + r.length
  | _, [], o, f, _, _, h => by rw [pcs_nil]; exact ⟨h, by simp⟩
  | 0, x :: r, o, f, hn, _, _ => by simp at hn
  | n + 1, x :: r, o, f, hn, hr, ho => by
    rw [pcs]
    have hs : Up.sms (consR [x :: r.take (alk x r)]).1 := cons_sms fun l hl => by
      rw [List.mem_singleton] at hl
      rw [hl]
      intro u hu
      rcases List.mem_cons.1 hu with rfl | hu
      · exact hr _ (by simp)
      · exact hr u (List.mem_cons_of_mem _ (List.mem_of_mem_take hu))
    have hl := cons_len [x :: r.take (alk x r)]
    rw [cat_one] at hl
    have ho2 : Up.sms (o ++ (consR [x :: r.take (alk x r)]).1) := fun u hu => by
      rcases List.mem_append.1 hu with hu | hu
      · exact ho u hu
      · exact hs u hu
    obtain ⟨i1, i2⟩ := pcs_sms n (r.drop (alk x r)) _ (if (consR [x :: r.take (alk x r)]).2 != 0 then noteR f x.t else f) (by simp only [List.length_drop]; simp only [List.length_cons] at hn; omega) (fun u hu => hr u (List.mem_cons_of_mem _ (List.mem_of_mem_drop hu))) ho2
    refine ⟨i1, Nat.le_trans i2 ?_⟩
    have := alk_le x r
    simp only [List.length_append, List.length_drop, List.length_cons, List.length_take] at hl ⊢
    omega
theorem done_sms {f : Fa} {us : List Up} (h : Up.sms us) : Up.sms (finR3 (doneR f us)).1 ∧ (finR3 (doneR f us)).1.length ≤ us.length := by
  show Up.sms (doneR f us).1 ∧ (doneR f us).1.length ≤ us.length
  unfold doneR
  split
  · have hperm : (isrt (ltU cmpU) us).Perm us := isrt_perm _
    have := pcs_sms _ (isrt (ltU cmpU) us) [] f (Nat.le_refl _) (fun u hu => h u (hperm.mem_iff.1 hu)) (fun u hu => by simp at hu)
    rw [isrt_length] at this
    exact ⟨this.1, by simpa using this.2⟩
  · refine ⟨cons_sms fun l hl => by rw [List.mem_singleton] at hl; rw [hl]; exact h, ?_⟩
    have := cons_len [us]
    rw [cat_one] at this
    exact this
end Go.Proofs
end
section
set_option linter.unusedVariables false
set_option linter.unusedSimpArgs false
namespace Go.Proofs
open Go.Flat
set_option linter.unusedSimpArgs false
set_option linter.unusedVariables false
/-- What an update and its end are. -/
def negN (l : Int) (u : Up) : Up := ⟨u.k, u.r, bump l u.t, -u.d⟩
theorem ent_flat (l : Int) : ∀ (us : List Up) (a : List Up × Fa), (us.foldl (entS l) a).2.1 = false → gds us → a.2.1 = false ∧ (us.foldl (entS l) a).1 = a.1 ++ us.flatMap (fun u => [u, negN l u]) ∧ ∀ u ∈ us, chkT (bump l u.t) = 0
  | [], a, h, _ => ⟨h, by simp, by simp⟩
  | u :: us, a, h, hg => by
    rw [List.foldl_cons] at h ⊢
    obtain ⟨h1, h2, h3⟩ := ent_flat l us _ h fun v hv => hg v (by simp [hv])
    cases hb : badX l u with
    | true =>
      have es : entS l a u = (a.1 ++ [u], noteR a.2 u.t) := by rw [entS, hb]; rfl
      rw [es] at h1
      simp only [note_flag] at h1
      exact absurd h1 (by simp)
    | false =>
      have es : entS l a u = (a.1 ++ [u] ++ [nxt l u], a.2) := by rw [entS, hb]; rfl
      rw [es] at h1 h2 ⊢
      have hb2 : (timesR u.d (-1)).2 = 0 ∧ chkT (bump l u.t) = 0 := by simpa [badX] using hb
      have hn : nxt l u = negN l u := by rw [nxt, negN, times_neg (hg u (by simp)) hb2.1]
      rw [h2, hn]
      refine ⟨h1, by simp, ?_⟩
      intro v hv
      rcases List.mem_cons.1 hv with rfl | hv
      · exact hb2.2
      · exact h3 v hv
theorem sum_pair {P : Up → Bool} {l : Int} (us : List Up) : sumP P Up.d (us.flatMap fun u => [u, negN l u]) = sumP P Up.d us - sumP (fun u => P (negN l u)) Up.d us := by
  induction us with
  | nil => rfl
  | cons u us ih =>
    rw [List.flatMap_cons, List.cons_append, List.cons_append, List.nil_append, sumP_cons, sumP_cons, sumP_cons, sumP_cons, ih]
    have : (negN l u).d = - u.d := rfl
    rw [this]
    split <;> split <;> omega
theorem sum_same {P Q : Up → Bool} {nm : Up → Int} {us : List Up} (h : ∀ u ∈ us, P u = Q u) : sumP P nm us = sumP Q nm us := by
  rw [sumP, sumP, List.filter_congr h]
theorem sum_no {P : Up → Bool} {nm : Up → Int} {us : List Up} (h : ∀ u ∈ us, P u = false) : sumP P nm us = 0 := by
  have : us.filter P = [] := by
    rw [List.filter_eq_nil_iff]
    intro u hu
    simp [h u hu]
  rw [sumP, this]; rfl
theorem ent_gds (l : Int) : ∀ (us : List Up) (a : List Up × Fa), gds us → gds a.1 → gds (us.foldl (entS l) a).1
  | [], a, _, h => h
  | u :: us, a, hg, h => by
    rw [List.foldl_cons]
    refine ent_gds l us _ (fun v hv => hg v (by simp [hv])) ?_
    unfold entS
    have hu := hg u (by simp)
    split
    · intro v hv
      rcases List.mem_append.1 hv with hv | hv
      · exact h v hv
      · rw [List.mem_singleton] at hv; rw [hv]; exact hu
    · intro v hv
      rcases List.mem_append.1 hv with hv | hv
      · rcases List.mem_append.1 hv with hv | hv
        · exact h v hv
        · rw [List.mem_singleton] at hv; rw [hv]; exact hu
      · rw [List.mem_singleton] at hv; rw [hv]; exact times_i64 _ _
theorem ent_rts (l : Int) : ∀ (us : List Up) (a : List Up × Fa), rts us → rts a.1 → rts (us.foldl (entS l) a).1
  | [], a, _, h => h
  | u :: us, a, hg, h => by
    rw [List.foldl_cons]
    refine ent_rts l us _ (fun v hv => hg v (by simp [hv])) ?_
    unfold entS
    have hu := hg u (by simp)
    cases hb : badX l u with
    | true =>
      rw [if_pos rfl]
      intro v hv
      rcases List.mem_append.1 hv with hv | hv
      · exact h v hv
      · rw [List.mem_singleton] at hv; rw [hv]; exact hu
    | false =>
      have hb2 : (timesR u.d (-1)).2 = 0 ∧ chkT (bump l u.t) = 0 := by simpa [badX] using hb
      rw [if_neg (by simp)]
      intro v hv
      rcases List.mem_append.1 hv with hv | hv
      · rcases List.mem_append.1 hv with hv | hv
        · exact h v hv
        · rw [List.mem_singleton] at hv; rw [hv]; exact hu
      · rw [List.mem_singleton] at hv; rw [hv]; exact chk_mk (chkU_parts hu).1 (chkU_parts hu).2.1 hb2.2
theorem ent_len (l : Int) : ∀ (us : List Up) (a : List Up × Fa), (us.foldl (entS l) a).1.length ≤ a.1.length + 2 * us.length
  | [], a => by simp
  | u :: us, a => by
    rw [List.foldl_cons]
    have := ent_len l us (entS l a u)
    have := @entS_len l a u
    simp only [List.length_cons]
    omega
theorem wrap1 : IntKind.u64.wrap (0 + 1) = 1 := by decide
theorem mxI_le {x y : Int} : mxI x y = y ↔ x ≤ y := by unfold mxI; split <;> omega
theorem ahead_iff {a b : Tm} : aheadT a b = true ↔ a.e ≤ b.e ∧ a.a ≤ b.a ∧ a.b ≤ b.b := by
  simp only [aheadT, Tm.eqB, lubT, Bool.and_eq_true, beq_iff_eq, mxI_le]
theorem chkT_iff {t : Tm} : chkT t = 0 ↔ t.e ≤ 4611686018427387904 ∧ t.a ≤ 4611686018427387904 ∧ t.b ≤ 4611686018427387904 := by
  obtain ⟨e, a, b⟩ := t
  unfold chkT
  simp only
  by_cases h : (if (if a < b then b else a) > e then (if a < b then b else a) else e) > 4611686018427387904
  · rw [decide_eq_true h, if_pos rfl]
    constructor
    · intro q; simp at q
    · intro q; exfalso; revert h; split <;> split <;> omega
  · rw [decide_eq_false h, if_neg (by simp)]
    refine ⟨fun _ => ?_, fun _ => rfl⟩
    revert h; split <;> split <;> omega
theorem chkT_nul {l : Int} {t : Tm} (h : chkT t = 0) : chkT (nul l t) = 0 := by
  rw [chkT_iff] at h ⊢
  unfold nul
  split <;> exact ⟨by first | exact h.1 | simp, by first | exact h.2.1 | simp, by first | exact h.2.2 | simp⟩
structure Rnd (l : Int) (us d : List Up) : Prop where
  now : ∀ e : Int, atR d ⟨e, 0, 0⟩ = atR us ⟨e, 0, 0⟩
  late : ∀ (e k : Int), 1 ≤ k → (atR d (if l == 0 then ⟨e, k, 0⟩ else ⟨e, 0, k⟩)).1 = []
  ref : (refR l 1 d != 0) = false
  out : finR3 (doneR (false, Tm.zero) (d.map (nulU l))) = ([], Tm.zero, 0)
theorem rounds_law {l r : Int} (hl : l = 0 ∨ l = 1) {us : List Up} (hz : ∀ u ∈ us, u.t.a = 0 ∧ u.t.b = 0) (hg : gds us) (hn : us.length ≤ 1048576) (hr : refR l r us = 0) (hok : (finR3 (doneR (entL l us).2 (entL l us).1)).2.2 = 0) : Rnd l us (finR3 (doneR (entL l us).2 (entL l us).1)).1 := by
  have hrt : rts us := by
    rw [refR, orI_zero] at hr
    exact chkUs_iff.1 (hr _ (by simp))
  have hgE : gds (entL l us).1 := ent_gds l us _ hg (by intro v hv; simp at hv)
  have hrE : rts (entL l us).1 := ent_rts l us _ hrt (by intro v hv; simp at hv)
  have hlE : (entL l us).1.length ≤ 4294967296 := by
    have : (entL l us).1.length ≤ 0 + 2 * us.length := ent_len l us ([], (false, Tm.zero))
    omega
  obtain ⟨hf, hc, hd⟩ := done_ok hrE hgE hlE hok
  obtain ⟨_, he, hb⟩ := ent_flat l us ([], (false, Tm.zero)) hf hg
  have he : (entL l us).1 = us.flatMap fun u => [u, negN l u] := by rw [entL, he]; simp
  have hcat : cat [(entL l us).1] = (entL l us).1 := cat_one _
  obtain ⟨_, C2, C3⟩ := cons_ok (ls := [(entL l us).1]) (by rw [hcat]; exact hgE) (by rw [hcat]; exact hlE)
  obtain ⟨hE, _, hS⟩ := C2 hc
  rw [hcat] at hS C3
  rw [hd]
  obtain ⟨d, hdd⟩ : ∃ d, (consR [(entL l us).1]).1 = d := ⟨_, rfl⟩
  rw [hdd] at hE hS C3 ⊢
  have hS2 : ∀ P : Up → Bool, (∀ x y, cmpU x y = 0 → P x = P y) → sumP P Up.d d = sumP P Up.d us - sumP (fun u => P (negN l u)) Up.d us := by
    intro P hP
    rw [hS P hP, he, sum_pair]
  have hdl : d.length ≤ 4294967296 := by
    rw [← hdd]
    have := cons_len [(entL l us).1]
    rw [hcat] at this
    omega
  have hun : ∀ (us : List Up) (t : Tm), gds us → ∀ c ∈ atL us t, i64 c.n := by
    intro us t h c hc
    obtain ⟨u, hu, rfl⟩ := List.mem_map.1 hc
    exact h u (List.mem_filter.1 hu).1
  have hur : ∀ (us : List Up) (t : Tm), rts us → ∀ c ∈ atL us t, checkRow c.r = 0 := by
    intro us t h c hc
    obtain ⟨u, hu, rfl⟩ := List.mem_map.1 hc
    exact (chkU_parts (h u (List.mem_filter.1 hu).1)).2.1
  have hchk : chkUs us = 0 := chkUs_iff.2 hrt
  have hchd : chkUs d = 0 := chkUs_iff.2 hE.rt
  have hln : ∀ t, (atL us t).length ≤ 4294967296 := fun t => by have := @atL_len us t; omega
  have hld : ∀ t, (atL d t).length ≤ 4294967296 := fun t => by have := @atL_len d t; omega
  have hbump : ∀ u ∈ us, bump l u.t = if l == 0 then ⟨u.t.e, 1, 0⟩ else ⟨u.t.e, 0, 1⟩ := by
    intro u hu
    obtain ⟨h1, h2⟩ := hz u hu
    rw [bump, h1, h2, wrap1]
  refine ⟨?_, ?_, ?_, ?_⟩
  · intro e
    have hT : ∀ c, TK (atL d ⟨e, 0, 0⟩) c = TK (atL us ⟨e, 0, 0⟩) c := by
      intro c
      rw [TK_at, TK_at, hS2 _ (at_inv _ c), sum_no (us := us) (P := fun u => aheadT (negN l u).t ⟨e, 0, 0⟩ && decide (rowsC c.r (negN l u).r = 0)), Int.sub_zero]
      intro u hu
      have : aheadT (negN l u).t ⟨e, 0, 0⟩ = false := by
        rw [Bool.eq_false_iff, ne_eq, ahead_iff]
        show ¬ ((bump l u.t).e ≤ e ∧ (bump l u.t).a ≤ 0 ∧ (bump l u.t).b ≤ 0)
        rw [hbump u hu]
        split <;> simp
      simp only [this, Bool.false_and]
    rw [atR, atR, atE, atE, hchk, hchd, cnt_ext (hun d _ hE.gd) (hun us _ hg) (hld _) (hln _) (hur d _ hE.rt) (hur us _ hrt) hT]
  · intro e k hk
    obtain ⟨t, ht⟩ : ∃ t : Tm, (if l == 0 then (⟨e, k, 0⟩ : Tm) else ⟨e, 0, k⟩) = t := ⟨_, rfl⟩
    rw [ht]
    have hT : ∀ c, TK (atL d t) c = TK [] c := by
      intro c
      rw [TK_at, hS2 _ (at_inv _ c), sum_same (us := us) (Q := fun u => aheadT u.t t && decide (rowsC c.r u.r = 0)) (P := fun u => aheadT (negN l u).t t && decide (rowsC c.r (negN l u).r = 0)), Int.sub_self]
      · rfl
      · intro u hu
        have : aheadT (negN l u).t t = aheadT u.t t := by
          obtain ⟨h1, h2⟩ := hz u hu
          rw [Bool.eq_iff_iff, ahead_iff, ahead_iff]
          show (bump l u.t).e ≤ _ ∧ (bump l u.t).a ≤ _ ∧ (bump l u.t).b ≤ _ ↔ _
          rw [hbump u hu, h1, h2, ← ht]
          split <;> simp only <;> omega
        rw [this]; rfl
    have := cnt_ext (b := []) (hun d t hE.gd) (by simp) (hld _) (by simp) (hur d _ hE.rt) (by simp) hT
    rw [atR]
    split
    · rfl
    · rw [this]; rfl
  · rw [refR, orI_zero] at hr
    have hlb : badL l 1 = false := by
      rcases hl with rfl | rfl <;> decide
    rw [refR, hchd, hlb]
    rfl
  · have hrN : rts (d.map (nulU l)) := by
      intro u hu
      obtain ⟨v, hv, rfl⟩ := List.mem_map.1 hu
      have h := chkU_parts (hE.rt v hv)
      exact chk_mk h.1 h.2.1 (chkT_nul h.2.2)
    have hgN : gds (d.map (nulU l)) := by
      intro u hu
      obtain ⟨v, hv, rfl⟩ := List.mem_map.1 hu
      exact hE.gd v hv
    have hTN : ∀ c, T (d.map (nulU l)) c = 0 := by
      intro c
      rw [T, sum_map]
      have hinv : ∀ x y, cmpU x y = 0 → decide (cmpU c (nulU l x) = 0) = decide (cmpU c (nulU l y) = 0) := by
        intro x y h
        refine inv_P c _ _ ?_
        obtain ⟨h1, h2, h3⟩ := cmpU_parts h
        rw [cmpU, orI_zero]
        simp only [List.mem_cons, List.not_mem_nil, or_false, forall_eq_or_imp, forall_eq]
        refine ⟨h1, h2, ?_⟩
        show cmpT (nul l x.t) (nul l y.t) = 0
        rw [h3]
        exact (cmpT_eq _ _).2 rfl
      show sumP (fun u => decide (cmpU c (nulU l u) = 0)) Up.d d = 0
      rw [hS2 _ hinv, sum_same (us := us) (Q := fun u => decide (cmpU c (nulU l u) = 0)) (P := fun u => decide (cmpU c (nulU l (negN l u)) = 0)), Int.sub_self]
      intro u hu
      have : cmpU c (nulU l (negN l u)) = cmpU c (nulU l u) := by
        have ht : (nulU l (negN l u)).t = (nulU l u).t := by
          show nul l (bump l u.t) = nul l u.t
          obtain ⟨h1, h2⟩ := hz u hu
          rw [hbump u hu, nul, nul, h1, h2]
          split <;> rfl
        unfold cmpU
        rw [ht]
        rfl
      rw [this]
    have hcN : cat [d.map (nulU l)] = d.map (nulU l) := cat_one _
    obtain ⟨D1, D2, D3⟩ := cons_ok (ls := [d.map (nulU l)]) (by rw [hcN]; exact hgN) (by rw [hcN]; simpa using hdl)
    rw [hcN] at D1 D2 D3
    have h0 : (consR [d.map (nulU l)]).2 = 0 := D1.2 ⟨hrN, fun u _ => by rw [hTN]; unfold i64; omega⟩
    obtain ⟨F1, F2, _⟩ := D2 h0
    have h1 : (consR [d.map (nulU l)]).1 = [] := by
      rcases hq : (consR [d.map (nulU l)]).1 with _ | ⟨u, q⟩
      · rfl
      · have hu : u ∈ (consR [d.map (nulU l)]).1 := by rw [hq]; simp
        have := T_mem F1 hu
        rw [F2, hTN] at this
        exact absurd this.symm (F1.nz u hu)
    have : doneR (false, Tm.zero) (d.map (nulU l)) = ([], (false, Tm.zero)) := by
      have h2 : ((consR [d.map (nulU l)]).2 != 0) = false := by rw [h0]; rfl
      rw [doneR, h2, h1]; rfl
    rw [this]
    rfl
end Go.Proofs
end
section
set_option linter.unusedVariables false
set_option linter.unusedSimpArgs false
namespace Go.Proofs
open Go.Flat
set_option maxRecDepth 100000
set_option linter.unusedSimpArgs false
set_option linter.unusedVariables false
attribute [local simp] Bool.and_assoc Bool.or_assoc evalG evalX efD skF guardG guardL isCall stepL evalOp ev evs lk tmpsL app AV.ok fresh vv putCells insV ins del putL place Go.Flat.look fillC fillR getCells loadF storeF binF scalarBin intBin strBin isShift shiftBin unF lenF maxF minF rowsF appendF builtinF idxF natOf sliceP sliceF optEv Flat.cut overwrite toPV toPVs constAV scalarC scalarCs AV.cells TI.isAgg allSome andAll scalarEq buildable Go.Flat.lim retQ resL resAll resOne PartOf noTmp closedIn refs refs.refsL isSomeV hasB ids leA leA.leL renA renA.renL callB refsAll backL dropIds renS LiesAt injB ownB freshB memN locId insAll leA_refl leL_refl okS frzS frzA frzA.frzL evalD feet fine updCells cellsFrom memP footRf footWf noTmpU updIds opOps opIds idsA footR footW guardTs opTs dstTs callR callW renLoc renC inBlockQ thenQ Value.oneCell' IntKind.bits IntKind.signed

attribute [local simp] Up.row Up.av Tm.av Tm.zero Pl.av irow lv0 lv1 lv2 lvA lvB lvV Val.row in
set_option maxHeartbeats 2000000 in
theorem spec43  : Flat.Sp Try.prog 43 [] [] (vv (.bool true)) [] := by
  refine sk Try.func43 ?_
  intro F G hn hG
  have s1 : Up.sms [lv0] := fun u hu => lvs u (by simp at hu; simp [hu])
  have hA : Flat.Sp Try.prog 44 [(Pl.mk 6 0 [] [] [] [] 0 0).av, .p (.ps [lv0.row])] [] (.tup [.p (.ps [lvA.row]), Tm.zero.av, vv (.int .i64 0)]) [] := by have h := spec44 6 0 [] [] [] [] 0 0 (Nat.zero_le _) [lv0] (by decide) s1; rw [liv_a] at h; exact h
  have hF : Flat.Sp Try.prog 44 [(Pl.mk 0 0 [] [] [] [] 0 0).av, .p (.ps [lv0.row])] [] (.tup [.p (.ps []), Tm.zero.av, vv (.int .i64 4)]) [] := by have h := spec44 0 0 [] [] [] [] 0 0 (Nat.zero_le _) [lv0] (by decide) s1; rw [liv_f] at h; exact h
  have hB : Flat.Sp Try.prog 47 [.p (.ps [irow 0]), .p (.ps [lv0.row])] [] (.tup [.p (.ps [lvB.row]), vv (.int .i64 0)]) [] := by have h := spec47 [0] (by decide) [lv0] (by decide) s1; rw [liv_b] at h; exact h
  have hC : Flat.Sp Try.prog 49 [vv (.int .i64 0), vv (.int .i64 3), .p (.ps [lv0.row])] [] (.tup [.p (.ps [lv0.row, lv1.row]), Tm.zero.av, vv (.int .i64 0)]) [] := by have h := spec49_0 3 [lv0] (by decide) s1 (by rw [ref_of liv_chk0 (by decide)]; rfl); rw [liv_c] at h; exact h
  have hD := spec79 (by rw [ref_of liv_chk01 (by decide)]; rfl) [lv2] liv_d
  have hE : Flat.Sp Try.prog 51 [vv (.int .i64 0), .p (.ps [lv0.row, lv1.row])] [] (.tup [.p (.ps []), Tm.zero.av, vv (.int .i64 0)]) [] := by have h := spec51_0 [lv0, lv1] (by decide) lvs (by rw [ref_of liv_chk01 (by decide)]; rfl); rw [liv_e] at h; exact h
  refine sq ?_
  refine rg 1000 ?_
  refine pr [0, 15, 16, 131] ?_
  refine sq ?_
  refine rc 2000 ?_
  refine oc id (spec78 1) ?_
  refine oe 2100 ?_
  refine on ?_
  refine pr [0, 15, 16, 18, 21, 131] ?_
  refine sq ?_
  refine rc 3000 ?_
  refine oc id (hA) ?_
  refine oe 3100 ?_
  refine on ?_
  refine pr [0, 3, 4, 15, 16, 18, 28, 131] ?_
  refine sq ?_
  refine rc 4000 ?_
  refine oc id (hB) ?_
  refine oe 4100 ?_
  refine on ?_
  refine pr [0, 3, 4, 15, 16, 18, 34, 131] ?_
  refine sq ?_
  refine rc 5000 ?_
  refine oc id (hC) ?_
  refine oe 5100 ?_
  refine on ?_
  refine pr [0, 3, 4, 8, 9, 15, 16, 18, 40, 131] ?_
  refine sq ?_
  refine rc 6000 ?_
  refine oc id (hD) ?_
  refine oe 6100 ?_
  refine on ?_
  refine pr [0, 3, 4, 8, 9, 15, 16, 18, 45, 131] ?_
  refine sq ?_
  refine rc 7000 ?_
  refine oc id (hE) ?_
  refine oe 7100 ?_
  refine on ?_
  refine pr [0, 3, 4, 8, 9, 13, 14, 15, 16, 18, 51, 131] ?_
  refine sq ?_
  refine rc 8000 ?_
  refine oc id (hF) ?_
  refine oe 8100 ?_
  refine on ?_
  refine pr [0, 1, 2, 3, 4, 8, 9, 13, 14, 15, 17, 18, 58, 131] ?_
  refine sq ?_
  refine rc 9000 ?_
  iterate 5 (first | refine gp 9450 ?_ | refine os ?_ | refine gt 9450 ?_)
  refine oe 9500 ?_
  iterate 2 (first | refine gp 9650 ?_ | refine os ?_ | refine gt 9650 ?_)
  refine oe 9700 ?_
  iterate 3 (first | refine gp 9950 ?_ | refine os ?_ | refine gt 9950 ?_)
  refine oe 10000 ?_
  iterate 8 (first | refine gp 10750 ?_ | refine os ?_ | refine gt 10750 ?_)
  refine oe 10800 ?_
  iterate 2 (first | refine gp 10950 ?_ | refine os ?_ | refine gt 10950 ?_)
  refine oe 11000 ?_
  iterate 3 (first | refine gp 11250 ?_ | refine os ?_ | refine gt 11250 ?_)
  refine oe 11300 ?_
  iterate 7 (first | refine gp 11950 ?_ | refine os ?_ | refine gt 11950 ?_)
  refine oe 12000 ?_
  iterate 2 (first | refine gp 12150 ?_ | refine os ?_ | refine gt 12150 ?_)
  refine oe 12200 ?_
  iterate 3 (first | refine gp 12450 ?_ | refine os ?_ | refine gt 12450 ?_)
  refine oe 12500 ?_
  iterate 2 (first | refine gp 12650 ?_ | refine os ?_ | refine gt 12650 ?_)
  refine oe 12700 ?_
  iterate 3 (first | refine gp 12950 ?_ | refine os ?_ | refine gt 12950 ?_)
  refine oe 13000 ?_
  iterate 2 (first | refine gp 13150 ?_ | refine os ?_ | refine gt 13150 ?_)
  refine oe 13200 ?_
  iterate 2 (first | refine gp 13350 ?_ | refine os ?_ | refine gt 13350 ?_)
  refine oe 13400 ?_
  refine on ?_
  refine pr [0, 1] ?_
  refine k_ret ?_
  show retQ _ _ _ _ _ _ _
  simp [*]

end Go.Proofs
end
section
set_option linter.unusedVariables false
set_option linter.unusedSimpArgs false
namespace Go.Proofs
open Go.Flat
set_option maxRecDepth 100000
set_option linter.unusedSimpArgs false
set_option linter.unusedVariables false
attribute [local simp] Bool.and_assoc Bool.or_assoc evalG evalX efD skF guardG guardL isCall stepL evalOp ev evs lk tmpsL app AV.ok fresh vv putCells insV ins del putL place Go.Flat.look fillC fillR getCells loadF storeF binF scalarBin intBin strBin isShift shiftBin unF lenF maxF minF rowsF appendF builtinF idxF natOf sliceP sliceF optEv Flat.cut overwrite toPV toPVs constAV scalarC scalarCs AV.cells TI.isAgg allSome andAll scalarEq buildable Go.Flat.lim retQ resL resAll resOne PartOf noTmp closedIn refs refs.refsL isSomeV hasB ids leA leA.leL renA renA.renL callB refsAll backL dropIds renS LiesAt injB ownB freshB memN locId insAll leA_refl leL_refl okS frzS frzA frzA.frzL evalD feet fine updCells cellsFrom memP footRf footWf noTmpU updIds opOps opIds idsA footR footW guardTs opTs dstTs callR callW renLoc renC inBlockQ thenQ Value.oneCell' IntKind.bits IntKind.signed

theorem cnt_sms {cs : List Ct} {B : Nat} (h : ∀ c ∈ cs, c.r.length ≤ B) : (∀ c ∈ (cntR cs).1, c.r.length ≤ B) ∧ (cntR cs).1.length ≤ cs.length := by
  rw [cntR]
  have hperm : (isrt (ltU cmpK) cs).Perm cs := isrt_perm _
  split
  · exact ⟨by simp, by simp⟩
  · refine ⟨fun c hc => ?_, ?_⟩
    · obtain ⟨g, hg, he⟩ := List.mem_filterMap.1 hc
      split at he <;> simp only [Option.some.injEq, reduceCtorEq] at he
      subst he
      exact h g.1 (hperm.mem_iff.1 (grp_mem _ _ _ g hg))
    · have h1 := gout_len (put := Ct.put) (gs := grp cmpK Ct.n (isrt (ltU cmpK) cs))
      have h2 := grp_len (c := cmpK) (nm := Ct.n) (l := isrt (ltU cmpK) cs) (isrt (ltU cmpK) cs).length
      rw [List.take_length, isrt_length] at h2
      exact Nat.le_trans h1 h2
theorem at_sms {us : List Up} {t : Tm} (h : Up.sms us) : (∀ c ∈ (atR us t).1, c.r.length ≤ Bnd) ∧ (atR us t).1.length ≤ us.length := by
  rw [atR]
  split
  · exact ⟨by simp, by simp⟩
  · have h1 := cnt_sms (atL_sm (t := t) h)
    have h2 := @atL_len us t
    exact ⟨h1.1, by omega⟩
theorem sameK_iff (x y : Ct) : sameK x y = true ↔ x = y := by
  unfold sameK diffK
  rw [Bool.not_eq_true', Bool.or_eq_false_iff, Bool.not_eq_false', sameV, sameBy_iff eqB_iff]
  cases x; cases y
  simp
def rem9 (x : Int) : Int := IntKind.u64.wrap (1 + x.tmod 9)
theorem rem9_pos {x : Int} (h : 0 ≤ x) : 1 ≤ rem9 x := by
  have h1 : x.tmod 9 = x % 9 := Int.tmod_eq_emod_of_nonneg h
  rw [rem9, wrapU, h1]
  omega

attribute [local simp] Tm.av Tm.zero in
theorem spec49_r (l r : Int) (us : List Up) (hus : us.length ≤ 4 * Bnd) (hsm : Up.sms us) (h0 : (refR l r us != 0) = true) : Flat.Sp Try.prog 49 [vv (.int .i64 l), vv (.int .i64 r), .p (.ps (us.map Up.row))] [] (.tup [.p (.ps []), Tm.zero.av, vv (.int .i64 (refR l r us))]) [] := by
  refine sk Try.func49 ?_
  intro F G hn hG
  refine sq ?_
  refine rg 1000 ?_
  refine pr [0, 3, 6, 11, 12, 35, 36, 68, 69, 72, 73, 79] ?_
  refine sq ?_
  refine sq ?_
  refine rc 2000 ?_
  refine oc id (spec94 l r us (Nat.le_trans hus (by decide)) hsm) ?_
  refine oe 2100 ?_
  refine on ?_
  refine pr [0, 1, 2, 3, 6, 11, 12, 16, 20, 35, 36, 68, 69, 72, 73, 79] ?_
  refine sq ?_
  refine rg 3000 ?_
  refine pr [0, 1, 2, 3, 6, 11, 12, 16, 21, 35, 36, 68, 69, 72, 73, 79] ?_
  refine ct ?_
  refine sq ?_
  refine rg 4000 ?_
  refine pr [0, 1, 2, 3, 6, 9, 10, 11, 12, 16, 24, 35, 36, 68, 69, 72, 73, 79] ?_
  refine k_ret ?_
  show retQ _ _ _ _ _ _ _
  simp [*]

attribute [local simp] Tm.av Up.row Tm.zero in
set_option maxHeartbeats 1000000 in
theorem spec19_r (lp : Int) (r : Int) (us : List Up) (hus : us.length ≤ Bnd) (sx : Up.sms us) (gx : gds us) (ep rd : Int) (hrd : 0 ≤ rd) (h0 : (refR lp r us != 0) = true) : Flat.Sp Try.prog 19 [vv (.int .i64 lp), vv (.int .i64 r), .p (.ps (us.map Up.row)), vv (.int .u64 ep), vv (.int .u64 rd)] [] (vv (.bool true)) [] := by
  refine sk Try.func19 ?_
  intro F G hn hG
  have hcap : Cap ≤ Flat.lim := by decide
  have hcap2 : Cap = 1073741824 := rfl
  have hb4 : 4 * Bnd = 4194304 := rfl
  have hb1 : Bnd = 1048576 := rfl
  have hlm : Flat.lim = 140737488355328 := rfl
  have hu4 : us.length ≤ 4 * Bnd := by omega
  have h49 := spec49_r lp r us hu4 sx h0
  refine sq ?_
  refine rg 1000 ?_
  refine pr [0, 5, 10, 11, 12, 109] ?_
  refine sq ?_
  refine sq ?_
  refine rc 2000 ?_
  refine oc id (spec43) ?_
  refine oe 2100 ?_
  refine on ?_
  refine pr [0, 5, 10, 11, 12, 26, 27, 109] ?_
  refine ce ?_
  refine k_skip ?_
  refine sq ?_
  refine sq ?_
  refine rg 4000 ?_
  refine pr [0, 5, 10, 11, 12, 26, 28, 109] ?_
  refine k_block ?_
  refine k_loop (fun n l => ∃ i, i + n = us.length ∧ (∀ u ∈ us.take i, u.t.a = 0 ∧ u.t.b = 0) ∧ l = [(.tmp 0, .av (vv (.int .i64 lp))), (.tmp 1, .av (vv (.int .i64 r))), (.tmp 2, .av (.p (.ps (us.map Up.row)))), (.tmp 3, .av (vv (.int .u64 ep))), (.tmp 4, .av (vv (.int .u64 rd))), (.tmp 28, .av (.p (.ps (us.map Up.row)))), (.tmp 29, .av (vv (.int .i64 us.length))), (.tmp 30, .av (vv (.int .i64 i)))]) (us.length) hG ⟨_, ⟨by simp, by simp, by simp⟩, 0, by simp, by simp, rfl⟩ ?_
  rintro n _ ⟨i, hin, hfa, rfl⟩
  refine sq ?_
  refine rg 5000 ?_
  refine pr [0, 5, 10, 11, 12, 26, 28, 109] ?_
  refine sq ?_
  refine cd ?_ ?_
  · intro h31_1
    have hlt : i < us.length := by simpa using h31_1
    obtain ⟨x, hxe⟩ : ∃ x, us[i] = x := ⟨_, rfl⟩
    have hx : us[i]? = some x := by simp [hlt, hxe]
    have hw := wrap_succ (show i < Flat.lim by omega)
    refine k_skip ?_
    refine sq ?_
    refine k_block ?_
    refine sq ?_
    refine rg 6000 ?_
    refine pr [0, 5, 10, 11, 12, 26, 28, 109] ?_
    refine sq ?_
    refine rg 7000 ?_
    refine pr [0, 5, 10, 11, 12, 26, 28, 109] ?_
    refine cd ?_ ?_
    · intro h38_2
      refine sq ?_
      refine rg 8000 ?_
      refine pr [0, 5, 10, 11, 12, 26, 28, 109] ?_
      refine k_ret ?_
      show retQ _ _ _ _ _ _ _
      simp [*]
    · intro h38_2
      have hxz : x.t.a = 0 ∧ x.t.b = 0 := by simpa using h38_2
      have hz2 : ∀ u ∈ us.take (i + 1), u.t.a = 0 ∧ u.t.b = 0 := by
        rw [List.take_add_one, hx]
        intro u hu
        rcases List.mem_append.1 hu with hu | hu
        · exact hfa u hu
        · simp only [Option.toList, List.mem_singleton] at hu; rw [hu]; exact hxz
      refine k_skip ?_
      refine k_nil ?_
      show AK _ _ _ _ _ _
      refine rg 9000 ?_
      refine k_nil ?_
      refine ⟨n - 1, by omega, _, ⟨?_, ?_, ?_⟩, i + 1, by omega, hz2, rfl⟩ <;> simp [*]
  · intro h31_1
    have hge : us.length ≤ i := by simpa using h31_1
    obtain rfl : i = us.length := by omega
    have hz : ∀ u ∈ us, u.t.a = 0 ∧ u.t.b = 0 := by rw [List.take_length] at hfa; exact hfa
    refine k_exit ?_
    show AK _ _ _ _ _ _
    refine sq ?_
    refine rc 10000 ?_
    refine oc id (h49) ?_
    refine oe 10100 ?_
    refine on ?_
    refine pr [0, 1, 2, 5, 10, 11, 13, 14, 15, 26, 48, 109] ?_
    refine sq ?_
    refine sq ?_
    refine rg 11000 ?_
    refine pr [0, 1, 2, 5, 10, 11, 13, 14, 16, 26, 49, 109] ?_
    refine ct ?_
    refine sq ?_
    refine rg 12000 ?_
    refine pr [0, 1, 2, 5, 10, 11, 13, 14, 16, 26, 50, 109] ?_
    refine k_ret ?_
    show retQ _ _ _ _ _ _ _
    simp [*]

attribute [local simp] Tm.av Up.row Tm.zero in
set_option maxHeartbeats 1000000 in
theorem spec19_0 (r : Int) (us : List Up) (hus : us.length ≤ Bnd) (sx : Up.sms us) (gx : gds us) (ep rd : Int) (hrd : 0 ≤ rd) (h0 : (refR 0 r us != 0) = false) : Flat.Sp Try.prog 19 [vv (.int .i64 0), vv (.int .i64 r), .p (.ps (us.map Up.row)), vv (.int .u64 ep), vv (.int .u64 rd)] [] (vv (.bool true)) [] := by
  refine sk Try.func19 ?_
  intro F G hn hG
  have hcap : Cap ≤ Flat.lim := by decide
  have hcap2 : Cap = 1073741824 := rfl
  have hb4 : 4 * Bnd = 4194304 := rfl
  have hb1 : Bnd = 1048576 := rfl
  have hlm : Flat.lim = 140737488355328 := rfl
  have hu4 : us.length ≤ 4 * Bnd := by omega
  have h49 := spec49_0 r us hu4 sx h0
  have hr0 : refR 0 r us = 0 := by simpa using h0
  have hlaw := fun hz => rounds_law (l := 0) (r := r) (.inl rfl) (us := us) hz gx hus hr0
  have hen := ent_ok 0 sx us.length (Nat.le_refl _)
  rw [List.take_length] at hen
  have hds := done_sms (f := (entL 0 us).2) hen.1
  generalize finR3 (doneR (entL 0 us).2 (entL 0 us).1) = A at *
  obtain ⟨d, ⟨te, ta, tb⟩, w⟩ := A
  simp only at h49 hlaw hds
  have hdl : d.length ≤ 2 * us.length := by omega
  have hd1 := hds.1
  refine sq ?_
  refine rg 1000 ?_
  refine pr [0, 5, 10, 11, 12, 109] ?_
  refine sq ?_
  refine sq ?_
  refine rc 2000 ?_
  refine oc id (spec43) ?_
  refine oe 2100 ?_
  refine on ?_
  refine pr [0, 5, 10, 11, 12, 26, 27, 109] ?_
  refine ce ?_
  refine k_skip ?_
  refine sq ?_
  refine sq ?_
  refine rg 4000 ?_
  refine pr [0, 5, 10, 11, 12, 26, 28, 109] ?_
  refine k_block ?_
  refine k_loop (fun n l => ∃ i, i + n = us.length ∧ (∀ u ∈ us.take i, u.t.a = 0 ∧ u.t.b = 0) ∧ l = [(.tmp 0, .av (vv (.int .i64 0))), (.tmp 1, .av (vv (.int .i64 r))), (.tmp 2, .av (.p (.ps (us.map Up.row)))), (.tmp 3, .av (vv (.int .u64 ep))), (.tmp 4, .av (vv (.int .u64 rd))), (.tmp 28, .av (.p (.ps (us.map Up.row)))), (.tmp 29, .av (vv (.int .i64 us.length))), (.tmp 30, .av (vv (.int .i64 i)))]) (us.length) hG ⟨_, ⟨by simp, by simp, by simp⟩, 0, by simp, by simp, rfl⟩ ?_
  rintro n _ ⟨i, hin, hfa, rfl⟩
  refine sq ?_
  refine rg 5000 ?_
  refine pr [0, 5, 10, 11, 12, 26, 28, 109] ?_
  refine sq ?_
  refine cd ?_ ?_
  · intro h31_1
    have hlt : i < us.length := by simpa using h31_1
    obtain ⟨x, hxe⟩ : ∃ x, us[i] = x := ⟨_, rfl⟩
    have hx : us[i]? = some x := by simp [hlt, hxe]
    have hw := wrap_succ (show i < Flat.lim by omega)
    refine k_skip ?_
    refine sq ?_
    refine k_block ?_
    refine sq ?_
    refine rg 6000 ?_
    refine pr [0, 5, 10, 11, 12, 26, 28, 109] ?_
    refine sq ?_
    refine rg 7000 ?_
    refine pr [0, 5, 10, 11, 12, 26, 28, 109] ?_
    refine cd ?_ ?_
    · intro h38_2
      refine sq ?_
      refine rg 8000 ?_
      refine pr [0, 5, 10, 11, 12, 26, 28, 109] ?_
      refine k_ret ?_
      show retQ _ _ _ _ _ _ _
      simp [*]
    · intro h38_2
      have hxz : x.t.a = 0 ∧ x.t.b = 0 := by simpa using h38_2
      have hz2 : ∀ u ∈ us.take (i + 1), u.t.a = 0 ∧ u.t.b = 0 := by
        rw [List.take_add_one, hx]
        intro u hu
        rcases List.mem_append.1 hu with hu | hu
        · exact hfa u hu
        · simp only [Option.toList, List.mem_singleton] at hu; rw [hu]; exact hxz
      refine k_skip ?_
      refine k_nil ?_
      show AK _ _ _ _ _ _
      refine rg 9000 ?_
      refine k_nil ?_
      refine ⟨n - 1, by omega, _, ⟨?_, ?_, ?_⟩, i + 1, by omega, hz2, rfl⟩ <;> simp [*]
  · intro h31_1
    have hge : us.length ≤ i := by simpa using h31_1
    obtain rfl : i = us.length := by omega
    have hz : ∀ u ∈ us, u.t.a = 0 ∧ u.t.b = 0 := by rw [List.take_length] at hfa; exact hfa
    refine k_exit ?_
    show AK _ _ _ _ _ _
    refine sq ?_
    refine rc 10000 ?_
    refine oc id (h49) ?_
    refine oe 10100 ?_
    refine on ?_
    refine pr [0, 1, 2, 5, 10, 11, 13, 14, 15, 26, 48, 109] ?_
    refine sq ?_
    refine sq ?_
    refine rg 11000 ?_
    refine pr [0, 1, 2, 5, 10, 11, 13, 14, 16, 26, 49, 109] ?_
    refine cd ?_ ?_
    · intro h49_3
      refine sq ?_
      refine rg 12000 ?_
      refine pr [0, 1, 2, 5, 10, 11, 13, 14, 16, 26, 50, 109] ?_
      refine k_ret ?_
      show retQ _ _ _ _ _ _ _
      simp [*]
    · intro h49_3
      have h20 : w = 0 := by simpa using h49_3
      have hR := hlaw hz h20
      have h50 := spec50 d ⟨ep, 0, 0⟩ (by omega) hd1
      rw [hR.now] at h50
      have h50b := spec50 us ⟨ep, 0, 0⟩ (by omega) sx
      have hat := at_sms (t := ⟨ep, 0, 0⟩) sx
      generalize atR us ⟨ep, 0, 0⟩ = A2 at *
      obtain ⟨cs, w1⟩ := A2
      simp only at h50 h50b hat
      have h50c := spec50 d ⟨ep, rem9 rd, 0⟩ (by omega) hd1
      have hlt : (atR d ⟨ep, rem9 rd, 0⟩).1 = [] := hR.late ep (rem9 rd) (rem9_pos hrd)
      generalize atR d ⟨ep, rem9 rd, 0⟩ = C2 at *
      obtain ⟨c2, w3⟩ := C2
      simp only at hlt h50c
      subst hlt
      have h51 := spec51_0 d (by omega) hd1 hR.ref
      rw [hR.out] at h51
      have h52 := spec52 cs cs (by omega) (by omega) (fun c hc => Nat.le_trans (hat.1 c hc) (by decide)) (fun c hc => Nat.le_trans (hat.1 c hc) (by decide))
      have hss : sameBy sameK cs cs = true := (sameBy_iff sameK_iff cs cs).2 rfl
      rw [hss] at h52
      clear hR hlaw
      refine k_skip ?_
      refine sq ?_
      refine rg 13000 ?_
      refine pr [0, 1, 2, 3, 4, 5, 10, 11, 13, 14, 16, 26, 52, 109] ?_
      refine sq ?_
      refine rc 14000 ?_
      refine oc id (h50) ?_
      refine oe 14100 ?_
      refine on ?_
      refine pr [0, 1, 2, 3, 4, 5, 10, 11, 13, 14, 16, 26, 58, 109] ?_
      refine sq ?_
      refine rc 15000 ?_
      refine oc id (h50b) ?_
      refine oe 15100 ?_
      refine on ?_
      refine pr [0, 1, 4, 5, 10, 11, 13, 14, 16, 26, 64, 109] ?_
      refine sq ?_
      refine rg 16000 ?_
      refine pr [0, 1, 10, 11, 13, 14, 16, 26, 70, 109] ?_
      refine sq ?_
      refine rc 17000 ?_
      refine oc id (h50c) ?_ (hg := by simp [*, rem9]) (hf := by simp [*, rem9]; exact is_rfl _) (hx := by simp [*, rem9]; exact is_rfl _) (hargs := by simp [*, rem9]) (hB := by simp [*, rem9]) (hL := by simp [*, rem9]) (hd := by simp [*, rem9]; exact is_rfl _)
      refine oe 17100 ?_
      refine on ?_
      refine pr [0, 1, 10, 11, 13, 14, 17, 26, 76, 109] ?_
      refine sq ?_
      refine rc 18000 ?_
      refine oc id (h51) ?_
      refine oe 18100 ?_
      refine on ?_
      refine pr [10, 11, 17, 24, 25, 26, 83, 109] ?_
      refine sq ?_
      refine rc 19000 ?_
      iterate 2 (first | refine gp 19150 ?_ | refine os ?_ | refine gt 19150 ?_)
      refine oc id (h52) ?_
      refine oe 19300 ?_
      iterate 7 (first | refine gp 19950 ?_ | refine os ?_ | refine gt 19950 ?_)
      refine oe 20000 ?_
      iterate 2 (first | refine gp 20150 ?_ | refine os ?_ | refine gt 20150 ?_)
      refine oe 20200 ?_
      iterate 3 (first | refine gp 20450 ?_ | refine os ?_ | refine gt 20450 ?_)
      refine oe 20500 ?_
      refine on ?_
      refine pr [10, 11] ?_
      refine k_ret ?_
      show retQ _ _ _ _ _ _ _
      simp [*]

attribute [local simp] Tm.av Up.row Tm.zero in
set_option maxHeartbeats 1000000 in
theorem spec19_1 (r : Int) (us : List Up) (hus : us.length ≤ Bnd) (sx : Up.sms us) (gx : gds us) (ep rd : Int) (hrd : 0 ≤ rd) (h0 : (refR 1 r us != 0) = false) : Flat.Sp Try.prog 19 [vv (.int .i64 1), vv (.int .i64 r), .p (.ps (us.map Up.row)), vv (.int .u64 ep), vv (.int .u64 rd)] [] (vv (.bool true)) [] := by
  refine sk Try.func19 ?_
  intro F G hn hG
  have hcap : Cap ≤ Flat.lim := by decide
  have hcap2 : Cap = 1073741824 := rfl
  have hb4 : 4 * Bnd = 4194304 := rfl
  have hb1 : Bnd = 1048576 := rfl
  have hlm : Flat.lim = 140737488355328 := rfl
  have hu4 : us.length ≤ 4 * Bnd := by omega
  have h49 := spec49_1 r us hu4 sx h0
  have hr0 : refR 1 r us = 0 := by simpa using h0
  have hlaw := fun hz => rounds_law (l := 1) (r := r) (.inr rfl) (us := us) hz gx hus hr0
  have hen := ent_ok 1 sx us.length (Nat.le_refl _)
  rw [List.take_length] at hen
  have hds := done_sms (f := (entL 1 us).2) hen.1
  generalize finR3 (doneR (entL 1 us).2 (entL 1 us).1) = A at *
  obtain ⟨d, ⟨te, ta, tb⟩, w⟩ := A
  simp only at h49 hlaw hds
  have hdl : d.length ≤ 2 * us.length := by omega
  have hd1 := hds.1
  refine sq ?_
  refine rg 1000 ?_
  refine pr [0, 5, 10, 11, 12, 109] ?_
  refine sq ?_
  refine sq ?_
  refine rc 2000 ?_
  refine oc id (spec43) ?_
  refine oe 2100 ?_
  refine on ?_
  refine pr [0, 5, 10, 11, 12, 26, 27, 109] ?_
  refine ce ?_
  refine k_skip ?_
  refine sq ?_
  refine sq ?_
  refine rg 4000 ?_
  refine pr [0, 5, 10, 11, 12, 26, 28, 109] ?_
  refine k_block ?_
  refine k_loop (fun n l => ∃ i, i + n = us.length ∧ (∀ u ∈ us.take i, u.t.a = 0 ∧ u.t.b = 0) ∧ l = [(.tmp 0, .av (vv (.int .i64 1))), (.tmp 1, .av (vv (.int .i64 r))), (.tmp 2, .av (.p (.ps (us.map Up.row)))), (.tmp 3, .av (vv (.int .u64 ep))), (.tmp 4, .av (vv (.int .u64 rd))), (.tmp 28, .av (.p (.ps (us.map Up.row)))), (.tmp 29, .av (vv (.int .i64 us.length))), (.tmp 30, .av (vv (.int .i64 i)))]) (us.length) hG ⟨_, ⟨by simp, by simp, by simp⟩, 0, by simp, by simp, rfl⟩ ?_
  rintro n _ ⟨i, hin, hfa, rfl⟩
  refine sq ?_
  refine rg 5000 ?_
  refine pr [0, 5, 10, 11, 12, 26, 28, 109] ?_
  refine sq ?_
  refine cd ?_ ?_
  · intro h31_1
    have hlt : i < us.length := by simpa using h31_1
    obtain ⟨x, hxe⟩ : ∃ x, us[i] = x := ⟨_, rfl⟩
    have hx : us[i]? = some x := by simp [hlt, hxe]
    have hw := wrap_succ (show i < Flat.lim by omega)
    refine k_skip ?_
    refine sq ?_
    refine k_block ?_
    refine sq ?_
    refine rg 6000 ?_
    refine pr [0, 5, 10, 11, 12, 26, 28, 109] ?_
    refine sq ?_
    refine rg 7000 ?_
    refine pr [0, 5, 10, 11, 12, 26, 28, 109] ?_
    refine cd ?_ ?_
    · intro h38_2
      refine sq ?_
      refine rg 8000 ?_
      refine pr [0, 5, 10, 11, 12, 26, 28, 109] ?_
      refine k_ret ?_
      show retQ _ _ _ _ _ _ _
      simp [*]
    · intro h38_2
      have hxz : x.t.a = 0 ∧ x.t.b = 0 := by simpa using h38_2
      have hz2 : ∀ u ∈ us.take (i + 1), u.t.a = 0 ∧ u.t.b = 0 := by
        rw [List.take_add_one, hx]
        intro u hu
        rcases List.mem_append.1 hu with hu | hu
        · exact hfa u hu
        · simp only [Option.toList, List.mem_singleton] at hu; rw [hu]; exact hxz
      refine k_skip ?_
      refine k_nil ?_
      show AK _ _ _ _ _ _
      refine rg 9000 ?_
      refine k_nil ?_
      refine ⟨n - 1, by omega, _, ⟨?_, ?_, ?_⟩, i + 1, by omega, hz2, rfl⟩ <;> simp [*]
  · intro h31_1
    have hge : us.length ≤ i := by simpa using h31_1
    obtain rfl : i = us.length := by omega
    have hz : ∀ u ∈ us, u.t.a = 0 ∧ u.t.b = 0 := by rw [List.take_length] at hfa; exact hfa
    refine k_exit ?_
    show AK _ _ _ _ _ _
    refine sq ?_
    refine rc 10000 ?_
    refine oc id (h49) ?_
    refine oe 10100 ?_
    refine on ?_
    refine pr [0, 1, 2, 5, 10, 11, 13, 14, 15, 26, 48, 109] ?_
    refine sq ?_
    refine sq ?_
    refine rg 11000 ?_
    refine pr [0, 1, 2, 5, 10, 11, 13, 14, 16, 26, 49, 109] ?_
    refine cd ?_ ?_
    · intro h49_3
      refine sq ?_
      refine rg 12000 ?_
      refine pr [0, 1, 2, 5, 10, 11, 13, 14, 16, 26, 50, 109] ?_
      refine k_ret ?_
      show retQ _ _ _ _ _ _ _
      simp [*]
    · intro h49_3
      have h20 : w = 0 := by simpa using h49_3
      have hR := hlaw hz h20
      have h50 := spec50 d ⟨ep, 0, 0⟩ (by omega) hd1
      rw [hR.now] at h50
      have h50b := spec50 us ⟨ep, 0, 0⟩ (by omega) sx
      have hat := at_sms (t := ⟨ep, 0, 0⟩) sx
      generalize atR us ⟨ep, 0, 0⟩ = A2 at *
      obtain ⟨cs, w1⟩ := A2
      simp only at h50 h50b hat
      have h50c := spec50 d ⟨ep, 0, rem9 rd⟩ (by omega) hd1
      have hlt : (atR d ⟨ep, 0, rem9 rd⟩).1 = [] := hR.late ep (rem9 rd) (rem9_pos hrd)
      generalize atR d ⟨ep, 0, rem9 rd⟩ = C2 at *
      obtain ⟨c2, w3⟩ := C2
      simp only at hlt h50c
      subst hlt
      have h51 := spec51_1 d (by omega) hd1 hR.ref
      rw [hR.out] at h51
      have h52 := spec52 cs cs (by omega) (by omega) (fun c hc => Nat.le_trans (hat.1 c hc) (by decide)) (fun c hc => Nat.le_trans (hat.1 c hc) (by decide))
      have hss : sameBy sameK cs cs = true := (sameBy_iff sameK_iff cs cs).2 rfl
      rw [hss] at h52
      clear hR hlaw
      refine k_skip ?_
      refine sq ?_
      refine rg 13000 ?_
      refine pr [0, 1, 2, 3, 4, 5, 10, 11, 13, 14, 16, 26, 52, 109] ?_
      refine sq ?_
      refine rc 14000 ?_
      refine oc id (h50) ?_
      refine oe 14100 ?_
      refine on ?_
      refine pr [0, 1, 2, 3, 4, 5, 10, 11, 13, 14, 16, 26, 58, 109] ?_
      refine sq ?_
      refine rc 15000 ?_
      refine oc id (h50b) ?_
      refine oe 15100 ?_
      refine on ?_
      refine pr [0, 1, 4, 5, 10, 11, 13, 14, 16, 26, 64, 109] ?_
      refine sq ?_
      refine rg 16000 ?_
      refine pr [0, 1, 10, 11, 13, 14, 16, 26, 70, 109] ?_
      refine sq ?_
      refine rc 17000 ?_
      refine oc id (h50c) ?_ (hg := by simp [*, rem9]) (hf := by simp [*, rem9]; exact is_rfl _) (hx := by simp [*, rem9]; exact is_rfl _) (hargs := by simp [*, rem9]) (hB := by simp [*, rem9]) (hL := by simp [*, rem9]) (hd := by simp [*, rem9]; exact is_rfl _)
      refine oe 17100 ?_
      refine on ?_
      refine pr [0, 1, 10, 11, 13, 14, 17, 26, 76, 109] ?_
      refine sq ?_
      refine rc 18000 ?_
      refine oc id (h51) ?_
      refine oe 18100 ?_
      refine on ?_
      refine pr [10, 11, 17, 24, 25, 26, 83, 109] ?_
      refine sq ?_
      refine rc 19000 ?_
      iterate 2 (first | refine gp 19150 ?_ | refine os ?_ | refine gt 19150 ?_)
      refine oc id (h52) ?_
      refine oe 19300 ?_
      iterate 7 (first | refine gp 19950 ?_ | refine os ?_ | refine gt 19950 ?_)
      refine oe 20000 ?_
      iterate 2 (first | refine gp 20150 ?_ | refine os ?_ | refine gt 20150 ?_)
      refine oe 20200 ?_
      iterate 3 (first | refine gp 20450 ?_ | refine os ?_ | refine gt 20450 ?_)
      refine oe 20500 ?_
      refine on ?_
      refine pr [10, 11] ?_
      refine k_ret ?_
      show retQ _ _ _ _ _ _ _
      simp [*]

theorem spec19 (l r : Int) (us : List Up) (hus : us.length ≤ Bnd) (sx : Up.sms us) (gx : gds us) (ep rd : Int) (hrd : 0 ≤ rd) : Flat.Sp Try.prog 19 [vv (.int .i64 l), vv (.int .i64 r), .p (.ps (us.map Up.row)), vv (.int .u64 ep), vv (.int .u64 rd)] [] (vv (.bool true)) [] := by
  cases h : (refR l r us != 0) with
  | true => exact spec19_r l r us hus sx gx ep rd hrd h
  | false =>
    have hl : l = 0 ∨ l = 1 := by
      have h2 : refR l r us = 0 := by simpa using h
      rw [refR, orI_zero] at h2
      have h3 := h2 (if badL l r then 1 else 0) (by simp)
      cases hb : badL l r with
      | true => rw [hb] at h3; simp at h3
      | false => simp [badL] at hb; omega
    rcases hl with rfl | rfl
    · exact spec19_0 r us hus sx gx ep rd hrd h
    · exact spec19_1 r us hus sx gx ep rd hrd h

end Go.Proofs
end
