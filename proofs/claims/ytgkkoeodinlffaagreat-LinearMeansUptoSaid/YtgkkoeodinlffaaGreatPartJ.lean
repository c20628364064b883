/-
  Contracts: sorting in place, by merging. (and 11 texts more)
-/
import Derived.Test.YtgkkoeodinlffaaGreatPartH
import Derived.Test.YtgkkoeodinlffaaGreatFlatI
import Derived.Test.YtgkkoeodinlffaaGreatPartG
import Derived.Laws.Strings
section
namespace Go.Proofs
open Go.Flat
set_option maxRecDepth 100000
set_option linter.unusedVariables false
set_option linter.unusedSimpArgs false
attribute [local simp] Bool.and_assoc Bool.or_assoc evalG evalX efD skF guardG guardL isCall stepL evalOp ev evs lk tmpsL app AV.ok fresh vv putCells insV ins del putL place Go.Flat.look fillC fillR getCells loadF storeF binF scalarBin intBin strBin isShift shiftBin unF lenF maxF minF rowsF appendF builtinF idxF natOf sliceP sliceF optEv Flat.cut overwrite toPV toPVs constAV scalarC scalarCs AV.cells TI.isAgg allSome andAll scalarEq buildable Go.Flat.lim retQ resL resAll resOne PartOf noTmp closedIn refs refs.refsL isSomeV hasB ids leA leA.leL renA renA.renL callB refsAll backL dropIds renS LiesAt injB ownB freshB memN locId insAll leA_refl leL_refl okS frzS frzA frzA.frzL evalD feet fine updCells cellsFrom memP footRf footWf noTmpU updIds opOps opIds idsA footR footW guardTs opTs dstTs callR callW renLoc renC inBlockQ thenQ Value.oneCell' IntKind.bits IntKind.signed
section
def cmpBy {α : Type} (f : α → α → Int) : List α → List α → Int
 | [], [] => 0
 | [], _ :: _ => -1
 | _ :: _, [] => 1
 | x :: xs, y :: ys => if f x y != 0 then f x y else cmpBy f xs ys
def orI : List Int → Int
 | [] => 0
 | x :: r => if x != 0 then x else orI r
def urow (n : Int) : List PV := [.v (.int .u64 n)]
@[simp] theorem urow_len (n : Int) : (urow n).length = 1 := rfl
def cmpT (a b : Tm) : Int := if (a.a == b.a) && (a.b == b.b) then cmpI a.e b.e else orI [cmpI a.e b.e, cmpBy cmpI [a.a, a.b] [b.a, b.b]]
def Tm.av (t : Tm) : AV := .agg [vv (.int .u64 t.e), vv (.int .u64 t.a), vv (.int .u64 t.b)]
def rowsC (a b : List Val) : Int := cmpBy Val.cmp a b
def cmpU (x y : Up) : Int := orI [rowsC x.k y.k, rowsC x.r y.r, cmpT x.t y.t]
theorem orI_drop {l : List Int} {i : Nat} {x : Int} (hx : l[i]? = some x) : orI (l.drop i) = if x != 0 then x else orI (l.drop (i + 1)) := by
 obtain ⟨h1, h2⟩ := List.getElem?_eq_some_iff.1 hx; rw [List.drop_eq_getElem_cons h1, h2]; rfl
theorem drop_at {α : Type} {l : List α} {i : Nat} {x : α} (hx : l[i]? = some x) : l.drop i = x :: l.drop (i + 1) := by
 obtain ⟨h1, h2⟩ := List.getElem?_eq_some_iff.1 hx; rw [List.drop_eq_getElem_cons h1, h2]
theorem spec201 (x : Int) : Flat.Sp Tryz.prog 218 [vv (.int .u64 x)] [] (vv (.bool false)) [] := by
 refine sk Tryz.func218 ?_; intro F G hn hG; refine srp 1000 [0,1,2,6] ?_; refine srp 2000 [2,3] ?_; refine k_ret ?_; show retQ _ _ _ _ _ _ _; simp [*]
attribute [local simp] cmpI in
theorem spec184 (x y : Int) : Flat.Sp Tryz.prog 130 [vv (.int .u64 x), vv (.int .u64 y)] [] (vv (.int .i64 (cmpI x y))) [] := by
 refine sk Tryz.func130 ?_; intro F G hn hG; refine srp 1000 [0,2,4,20] ?_; refine src 2000 ?_; refine oc id (spec201 x) ?_; refine oe 2100 ?_; refine onp [0,2,4,7,9,20] ?_; refine src 3000 ?_; refine oc id (spec201 y) ?_; refine oe 3100 ?_; refine onp [0,2,4,7,11,20] ?_; refine sq ?_; refine srp 4000 [0,2,4,5,6,7,11,20] ?_; refine ce ?_; refine k_skip ?_; refine sq ?_; refine srp 8000 [0,2,4,5,13,20] ?_; refine ce ?_; refine k_skip ?_; refine sq ?_; refine srp 10000 [0,2,4,5,16,20] ?_; refine cd ?_ ?_
 · intro h16_1
   have h16_1 : x < y := by simpa using h16_1
   refine srp 11000 [0,2,4,5,17,20] ?_; refine k_ret ?_; show retQ _ _ _ _ _ _ _; simp [*]
 · intro h16_1
   have h16_1 : ¬ x < y := by simpa using h16_1
   refine k_skip ?_; refine sq ?_; refine srp 12000 [4,5,19,20] ?_; refine cd ?_ ?_
   · intro h19_2
     have h19_2 : y < x := by simpa using h19_2
     refine srp 13000 [4,5] ?_; refine k_ret ?_; show retQ _ _ _ _ _ _ _; simp [*]
   · intro h19_2
     have h19_2 : ¬ y < x := by simpa using h19_2
     refine k_skip ?_; refine srp 14000 [4,5] ?_; refine k_ret ?_; show retQ _ _ _ _ _ _ _; simp [*]
attribute [local simp] Val.row Val.av in
theorem spec188 (xs ys : List Val) (hlx : xs.length ≤ Flat.lim) (hly : ys.length ≤ Flat.lim) : Flat.Sp Tryz.prog 129 [.p (.ps (xs.map Val.row)), .p (.ps (ys.map Val.row)), .fn (.func 100) []] [] (vv (.int .i64 (cmpBy Val.cmp xs ys))) [] := by
 refine sk Tryz.func129 ?_; intro F G hn hG; refine srp 1000 [0,3,6,39] ?_; refine sq ?_; refine srp 2000 [0,3,6,39] ?_; refine k_block ?_; refine k_loop (fun n l => ∃ i, i + n = xs.length ∧ (i ≤ ys.length ∧ cmpBy Val.cmp (xs.drop i) (ys.drop i) = cmpBy Val.cmp xs ys) ∧ l = [(.tmp 0, .av (.p (.ps (xs.map Val.row)))), (.tmp 1, .av (.p (.ps (ys.map Val.row)))), (.tmp 2, .av (.fn (.func 100) [])), (.tmp 11, .av (.p (.ps (xs.map Val.row)))), (.tmp 12, .av (vv (.int .i64 xs.length))), (.tmp 13, .av (vv (.int .i64 i)))]) (xs.length) hG ⟨_, ⟨by simp, by simp, by simp⟩, 0, by simp, ⟨Nat.zero_le _, rfl⟩, rfl⟩ ?_
 rintro n _ ⟨i, hin, hfa, rfl⟩; obtain ⟨hiy, hcm⟩ := hfa; refine srp 3000 [0,3,6,39] ?_; refine sq ?_; refine cd ?_ ?_
 · intro h14_1
   have hlt : i < xs.length := by simpa using h14_1
   obtain ⟨x, hxe⟩ : ∃ x, xs[i] = x := ⟨_, rfl⟩; have hx : xs[i]? = some x := by simp [hlt, hxe]
   have hw := wrap_succ (show i < Flat.lim by omega)
   rw [drop_at hx] at hcm; refine k_skip ?_; refine sq ?_; refine k_block ?_; refine srp 4000 [0,3,6,39] ?_; refine sq ?_; refine srp 5000 [0,3,6,39] ?_; refine cd ?_ ?_
   · intro h21_2
     have hge : ys.length ≤ i := by have := h21_2; simp at this; omega
     rw [List.drop_eq_nil_of_le hge] at hcm; have hfin : cmpBy Val.cmp xs ys = 1 := by rw [← hcm]; rfl
     refine srp 6000 [0,3,6,39] ?_; refine k_ret ?_; show retQ _ _ _ _ _ _ _; simp [*]
   · intro h21_2
     have hlty : i < ys.length := by have := h21_2; simp at this; omega
     obtain ⟨y, hye⟩ : ∃ y, ys[i] = y := ⟨_, rfl⟩; have hy : ys[i]? = some y := by simp [hlty, hye]
     rw [drop_at hy] at hcm; have hcm : (if Val.cmp x y != 0 then Val.cmp x y else cmpBy Val.cmp (xs.drop (i + 1)) (ys.drop (i + 1))) = cmpBy Val.cmp xs ys := hcm
     refine k_skip ?_; refine srp 7000 [0,3,6,39] ?_; refine src 8000 ?_; refine oc id (spec105 x y) ?_; refine oe 8100 ?_; refine onp [0,3,6,39] ?_; refine srp 9000 [0,3,6,39] ?_; refine cd ?_ ?_
     · intro h31_3
       have hfin : cmpBy Val.cmp xs ys = Val.cmp x y := by have h2 : (Val.cmp x y != 0) = true := h31_3; rw [h2] at hcm; simpa using hcm.symm
       refine srp 10000 [0,3,6,39] ?_; refine k_ret ?_; show retQ _ _ _ _ _ _ _; simp [*]
     · intro h31_3
       have hnext : cmpBy Val.cmp (xs.drop (i + 1)) (ys.drop (i + 1)) = cmpBy Val.cmp xs ys := by have h2 : (Val.cmp x y != 0) = false := h31_3; rw [h2] at hcm; simpa using hcm
       refine k_skip ?_; refine k_nil ?_; show AK _ _ _ _ _ _; refine rg 11000 ?_; refine k_nil ?_; refine ⟨n - 1, by omega, _, ⟨?_, ?_, ?_⟩, i + 1, by omega, ⟨by omega, hnext⟩, rfl⟩ <;> simp [*]
 · intro h14_1
   have hge : xs.length ≤ i := by simpa using h14_1
   obtain rfl : i = xs.length := by omega
   rw [List.drop_eq_nil_of_le (Nat.le_refl _)] at hcm; refine k_exit ?_; show AK _ _ _ _ _ _; refine sq ?_; refine srp 12000 [6,7,38,39] ?_; refine cd ?_ ?_
   · intro h38_4
     have hlt2 : xs.length < ys.length := by simpa using h38_4
     obtain ⟨y, hy⟩ : ∃ y, ys[xs.length]? = some y := ⟨_, List.getElem?_eq_getElem hlt2⟩; rw [drop_at hy] at hcm; have hfin : cmpBy Val.cmp xs ys = -1 := by rw [← hcm]; rfl
     refine srp 13000 [6,7] ?_; refine k_ret ?_; show retQ _ _ _ _ _ _ _; simp [*]
   · intro h38_4
     have hge2 : ys.length ≤ xs.length := by simpa using h38_4
     rw [List.drop_eq_nil_of_le hge2] at hcm; have hfin : cmpBy Val.cmp xs ys = 0 := by rw [← hcm]; rfl
     refine k_skip ?_; refine srp 14000 [6,7] ?_; refine k_ret ?_; show retQ _ _ _ _ _ _ _; simp [*]
attribute [local simp] urow in
theorem spec185 (xs ys : List Int) (hlx : xs.length ≤ Flat.lim) (hly : ys.length ≤ Flat.lim) : Flat.Sp Tryz.prog 131 [.p (.ps (xs.map urow)), .p (.ps (ys.map urow))] [] (vv (.int .i64 (cmpBy cmpI xs ys))) [] := by
 refine sk Tryz.func131 ?_; intro F G hn hG; refine srp 1000 [0,2,4,36] ?_; refine sq ?_; refine srp 2000 [0,2,4,36] ?_; refine k_block ?_; refine k_loop (fun n l => ∃ i, i + n = xs.length ∧ (i ≤ ys.length ∧ cmpBy cmpI (xs.drop i) (ys.drop i) = cmpBy cmpI xs ys) ∧ l = [(.tmp 0, .av (.p (.ps (xs.map urow)))), (.tmp 1, .av (.p (.ps (ys.map urow)))), (.tmp 9, .av (.p (.ps (xs.map urow)))), (.tmp 10, .av (vv (.int .i64 xs.length))), (.tmp 11, .av (vv (.int .i64 i)))]) (xs.length) hG ⟨_, ⟨by simp, by simp, by simp⟩, 0, by simp, ⟨Nat.zero_le _, rfl⟩, rfl⟩ ?_
 rintro n _ ⟨i, hin, hfa, rfl⟩; obtain ⟨hiy, hcm⟩ := hfa; refine srp 3000 [0,2,4,36] ?_; refine sq ?_; refine cd ?_ ?_
 · intro h12_1
   have hlt : i < xs.length := by simpa using h12_1
   obtain ⟨x, hxe⟩ : ∃ x, xs[i] = x := ⟨_, rfl⟩; have hx : xs[i]? = some x := by simp [hlt, hxe]
   have hw := wrap_succ (show i < Flat.lim by omega)
   rw [drop_at hx] at hcm; refine k_skip ?_; refine sq ?_; refine k_block ?_; refine srp 4000 [0,2,4,36] ?_; refine sq ?_; refine srp 5000 [0,2,4,36] ?_; refine cd ?_ ?_
   · intro h19_2
     have hge : ys.length ≤ i := by have := h19_2; simp at this; omega
     rw [List.drop_eq_nil_of_le hge] at hcm; have hfin : cmpBy cmpI xs ys = 1 := by rw [← hcm]; rfl
     refine srp 6000 [0,2,4,36] ?_; refine k_ret ?_; show retQ _ _ _ _ _ _ _; simp [*]
   · intro h19_2
     have hlty : i < ys.length := by have := h19_2; simp at this; omega
     obtain ⟨y, hye⟩ : ∃ y, ys[i] = y := ⟨_, rfl⟩; have hy : ys[i]? = some y := by simp [hlty, hye]
     rw [drop_at hy] at hcm; have hcm : (if cmpI x y != 0 then cmpI x y else cmpBy cmpI (xs.drop (i + 1)) (ys.drop (i + 1))) = cmpBy cmpI xs ys := hcm
     refine k_skip ?_; refine srp 7000 [0,2,4,36] ?_; refine src 8000 ?_; refine oc id (spec184 x y) ?_; refine oe 8100 ?_; refine onp [0,2,4,36] ?_; refine srp 9000 [0,2,4,36] ?_; refine cd ?_ ?_
     · intro h28_3
       have hfin : cmpBy cmpI xs ys = cmpI x y := by have h2 : (cmpI x y != 0) = true := h28_3; rw [h2] at hcm; simpa using hcm.symm
       refine srp 10000 [0,2,4,36] ?_; refine k_ret ?_; show retQ _ _ _ _ _ _ _; simp [*]
     · intro h28_3
       have hnext : cmpBy cmpI (xs.drop (i + 1)) (ys.drop (i + 1)) = cmpBy cmpI xs ys := by have h2 : (cmpI x y != 0) = false := h28_3; rw [h2] at hcm; simpa using hcm
       refine k_skip ?_; refine k_nil ?_; show AK _ _ _ _ _ _; refine rg 11000 ?_; refine k_nil ?_; refine ⟨n - 1, by omega, _, ⟨?_, ?_, ?_⟩, i + 1, by omega, ⟨by omega, hnext⟩, rfl⟩ <;> simp [*]
 · intro h12_1
   have hge : xs.length ≤ i := by simpa using h12_1
   obtain rfl : i = xs.length := by omega
   rw [List.drop_eq_nil_of_le (Nat.le_refl _)] at hcm; refine k_exit ?_; show AK _ _ _ _ _ _; refine sq ?_; refine srp 12000 [4,5,35,36] ?_; refine cd ?_ ?_
   · intro h35_4
     have hlt2 : xs.length < ys.length := by simpa using h35_4
     obtain ⟨y, hy⟩ : ∃ y, ys[xs.length]? = some y := ⟨_, List.getElem?_eq_getElem hlt2⟩; rw [drop_at hy] at hcm; have hfin : cmpBy cmpI xs ys = -1 := by rw [← hcm]; rfl
     refine srp 13000 [4,5] ?_; refine k_ret ?_; show retQ _ _ _ _ _ _ _; simp [*]
   · intro h35_4
     have hge2 : ys.length ≤ xs.length := by simpa using h35_4
     rw [List.drop_eq_nil_of_le hge2] at hcm; have hfin : cmpBy cmpI xs ys = 0 := by rw [← hcm]; rfl
     refine k_skip ?_; refine srp 14000 [4,5] ?_; refine k_ret ?_; show retQ _ _ _ _ _ _ _; simp [*]
attribute [local simp] rowsC in
theorem spec147 (a b : List Val) (hla : a.length ≤ Flat.lim) (hlb : b.length ≤ Flat.lim) : Flat.Sp Tryz.prog 61 [.p (.ps (a.map Val.row)), .p (.ps (b.map Val.row))] [] (vv (.int .i64 (rowsC a b))) [] := by
 refine sk Tryz.func61 ?_; intro F G hn hG; refine srp 1000 [0,2,4,8] ?_; refine src 2000 ?_; refine oc id (spec188 a b hla hlb) ?_; refine oe 2100 ?_; refine onp [4,5] ?_; refine k_ret ?_; show retQ _ _ _ _ _ _ _; simp [*]
attribute [local simp] irow in
theorem spec146 (xs : List Int) (hlen : xs.length ≤ Flat.lim) : Flat.Sp Tryz.prog 60 [.p (.ps (xs.map irow))] [] (vv (.int .i64 (orI xs))) [] := by
 refine sk Tryz.func60 ?_; intro F G hn hG; refine srp 1000 [0,1,2,4,5,18] ?_; refine srp 2000 [0,1,2,4,5,18] ?_; refine sq ?_; refine srp 3000 [2,4,5,18] ?_; refine k_block ?_; refine k_loop (fun n l => ∃ i, i + n = xs.length ∧ (orI (xs.drop i) = orI xs) ∧ l = [(.tmp 3, .av (vv (.int .i64 0))), (.tmp 6, .av (.p (.ps (xs.map irow)))), (.tmp 7, .av (vv (.int .i64 xs.length))), (.tmp 8, .av (vv (.int .i64 i)))]) (xs.length) hG ⟨_, ⟨by simp, by simp, by simp⟩, 0, by simp, rfl, rfl⟩ ?_
 rintro n _ ⟨i, hin, hfa, rfl⟩; have hcm := hfa; refine srp 4000 [2,4,5,18] ?_; refine sq ?_; refine cd ?_ ?_
 · intro h9_1
   have hlt : i < xs.length := by simpa using h9_1
   obtain ⟨x, hxe⟩ : ∃ x, xs[i] = x := ⟨_, rfl⟩; have hx : xs[i]? = some x := by simp [hlt, hxe]
   have hw := wrap_succ (show i < Flat.lim by omega)
   rw [orI_drop hx] at hcm; refine k_skip ?_; refine sq ?_; refine k_block ?_; refine srp 5000 [2,4,5,18] ?_; refine srp 6000 [2,4,5,18] ?_; refine cd ?_ ?_
   · intro h14_2
     have hfin : orI xs = x := by have h2 : (x != 0) = true := h14_2; rw [h2] at hcm; simpa using hcm.symm
     refine srp 7000 [2,4,5,18] ?_; refine k_ret ?_; show retQ _ _ _ _ _ _ _; simp [*]
   · intro h14_2
     have hnext : orI (xs.drop (i + 1)) = orI xs := by have h2 : (x != 0) = false := h14_2; rw [h2] at hcm; simpa using hcm
     refine k_skip ?_; refine k_nil ?_; show AK _ _ _ _ _ _; refine rg 8000 ?_; refine k_nil ?_; refine ⟨n - 1, by omega, _, ⟨?_, ?_, ?_⟩, i + 1, by omega, hnext, rfl⟩ <;> simp [*]
 · intro h9_1
   have hge : xs.length ≤ i := by simpa using h9_1
   obtain rfl : i = xs.length := by omega
   rw [List.drop_eq_nil_of_le (Nat.le_refl _)] at hcm; have hfin : orI xs = 0 := hcm.symm; refine k_exit ?_; show AK _ _ _ _ _ _; refine srp 9000 [2,3] ?_; refine k_ret ?_; show retQ _ _ _ _ _ _ _; simp [*]
attribute [local simp] cmpT Tm.av urow irow in
theorem spec140 (a b : Tm) : Flat.Sp Tryz.prog 62 [a.av, b.av] [] (vv (.int .i64 (cmpT a b))) [] := by
 refine sk Tryz.func62 ?_; intro F G hn hG; refine srp 1000 [2,27] ?_; refine sq ?_; refine srp 2000 [2,5,9,27] ?_; refine cd ?_ ?_
 · intro h9_1
   have h2 : ((a.a == b.a) && (a.b == b.b)) = true := by simpa using h9_1
   refine src 3000 ?_; refine oc id (spec184 a.e b.e) ?_; refine oe 3100 ?_; refine onp [2,5,15,27] ?_; refine k_ret ?_; show retQ _ _ _ _ _ _ _; simp [*]
 · intro h9_1
   have h2 : ((a.a == b.a) && (a.b == b.b)) = false := by simpa using h9_1
   refine fv 1000 3 ?_; refine fv 1001 3 ?_; refine k_skip ?_; refine sq ?_; refine dr ?_; refine de 4000 ?_; refine dc id (spec184 a.e b.e) ?_; refine de 4100 ?_; refine dc id (spec185 [a.a, a.b] [b.a, b.b] (by simp [Flat.lim]) (by simp [Flat.lim])) ?_
   refine de 4200 ?_; refine dc id (spec146 [cmpI a.e b.e, cmpBy cmpI [a.a, a.b] [b.a, b.b]] (by simp [Flat.lim])) ?_
   refine de 4300 ?_; refine dn ?_; refine pr [4,5] ?_; refine k_ret ?_; show retQ _ _ _ _ _ _ _; simp [*]
attribute [local simp] cmpU Up.av Up.row irow in
theorem spec87 (x y : Up) (h1 : x.k.length ≤ Flat.lim) (h2 : y.k.length ≤ Flat.lim) (h3 : x.r.length ≤ Flat.lim) (h4 : y.r.length ≤ Flat.lim) : Flat.Sp Tryz.prog 18 [x.av, y.av] [] (vv (.int .i64 (cmpU x y))) [] := by
 refine sk Tryz.func18 ?_; intro F G hn hG; refine srp 1000 [2,22] ?_; refine sq ?_; refine dr ?_; refine de 2000 ?_; refine dc id (spec147 x.k y.k h1 h2) ?_; refine de 2100 ?_; refine dc id (spec147 x.r y.r h3 h4) ?_; refine de 2200 ?_; refine dc id (spec140 x.t y.t) ?_ (hg := by simp [*, Tm.av]) (hf := by simp [*, Tm.av]; exact is_rfl _) (hx := by simp [*, Tm.av]; exact is_rfl _) (hargs := by simp [*, Tm.av]) (hB := by simp [*, Tm.av]) (hL := by simp [*, Tm.av]) (hd := by simp [*, Tm.av]; exact is_rfl _)
 refine de 2300 ?_; refine dc id (spec146 [rowsC x.k y.k, rowsC x.r y.r, cmpT x.t y.t] (by simp [Flat.lim])) ?_
 refine de 2400 ?_; refine dn ?_; refine pr [4,5] ?_; refine k_ret ?_; show retQ _ _ _ _ _ _ _; simp [*]
end
section
def chkT (t : Tm) : Int := if decide ((if (if t.a < t.b then t.b else t.a) > t.e then (if t.a < t.b then t.b else t.a) else t.e) > 4611686018427387904) then 1 else 0
def chkU (u : Up) : Int := orI [checkRow u.k, checkRow u.r, chkT u.t]
def chkUs (us : List Up) : Int := orI (us.map chkU)
def Tm.row (t : Tm) : List PV := [.v (.int .u64 t.e), .v (.int .u64 t.a), .v (.int .u64 t.b)]
@[simp] theorem Tm.row_len (t : Tm) : t.row.length = 3 := rfl
def Up.sm (u : Up) : Prop := u.k.length ≤ Bnd ∧ u.r.length ≤ Bnd
def lrow (l : List Up) : List PV := [.ps (l.map Up.row)]
@[simp] theorem lrow_len (l : List Up) : (lrow l).length = 1 := rfl
@[simp] theorem wrap64_00 : IntKind.i64.wrap 0 = 0 := rfl
def cat (ls : List (List Up)) : List Up := ls.flatten
theorem cat_succ {ls : List (List Up)} {i : Nat} {l : List Up} (h : ls[i]? = some l) : cat (ls.take (i + 1)) = cat (ls.take i) ++ l := by
 rw [cat, cat, List.take_add_one, h]; simp
theorem cat_le {ls : List (List Up)} (i : Nat) : (cat (ls.take i)).length ≤ (cat ls).length := by
 have : cat ls = cat (ls.take i) ++ cat (ls.drop i) := by rw [cat, cat, cat, ← List.flatten_append, List.take_append_drop]
 rw [this, List.length_append]; omega
theorem cat_all {ls : List (List Up)} {i : Nat} (h : ls.length ≤ i) : cat (ls.take i) = cat ls := by rw [List.take_of_length_le h]
def Cap : Nat := 1073741824
attribute [local simp] irow in
theorem spec97 (xs : List Int) (hlen : xs.length ≤ Flat.lim) : Flat.Sp Tryz.prog 74 [.p (.ps (xs.map irow))] [] (vv (.int .i64 (orI xs))) [] := by
 refine sk Tryz.func74 ?_; intro F G hn hG; refine srp 1000 [0,1,2,4,5,18] ?_; refine srp 2000 [0,1,2,4,5,18] ?_; refine sq ?_; refine srp 3000 [2,4,5,18] ?_; refine k_block ?_; refine k_loop (fun n l => ∃ i, i + n = xs.length ∧ (orI (xs.drop i) = orI xs) ∧ l = [(.tmp 3, .av (vv (.int .i64 0))), (.tmp 6, .av (.p (.ps (xs.map irow)))), (.tmp 7, .av (vv (.int .i64 xs.length))), (.tmp 8, .av (vv (.int .i64 i)))]) (xs.length) hG ⟨_, ⟨by simp, by simp, by simp⟩, 0, by simp, rfl, rfl⟩ ?_
 rintro n _ ⟨i, hin, hfa, rfl⟩; have hcm := hfa; refine srp 4000 [2,4,5,18] ?_; refine sq ?_; refine cd ?_ ?_
 · intro h9_1
   have hlt : i < xs.length := by simpa using h9_1
   obtain ⟨x, hxe⟩ : ∃ x, xs[i] = x := ⟨_, rfl⟩; have hx : xs[i]? = some x := by simp [hlt, hxe]
   have hw := wrap_succ (show i < Flat.lim by omega)
   rw [orI_drop hx] at hcm; refine k_skip ?_; refine sq ?_; refine k_block ?_; refine srp 5000 [2,4,5,18] ?_; refine srp 6000 [2,4,5,18] ?_; refine cd ?_ ?_
   · intro h14_2
     have hfin : orI xs = x := by have h2 : (x != 0) = true := h14_2; rw [h2] at hcm; simpa using hcm.symm
     refine srp 7000 [2,4,5,18] ?_; refine k_ret ?_; show retQ _ _ _ _ _ _ _; simp [*]
   · intro h14_2
     have hnext : orI (xs.drop (i + 1)) = orI xs := by have h2 : (x != 0) = false := h14_2; rw [h2] at hcm; simpa using hcm
     refine k_skip ?_; refine k_nil ?_; show AK _ _ _ _ _ _; refine rg 8000 ?_; refine k_nil ?_; refine ⟨n - 1, by omega, _, ⟨?_, ?_, ?_⟩, i + 1, by omega, hnext, rfl⟩ <;> simp [*]
 · intro h9_1
   have hge : xs.length ≤ i := by simpa using h9_1
   obtain rfl : i = xs.length := by omega
   rw [List.drop_eq_nil_of_le (Nat.le_refl _)] at hcm; have hfin : orI xs = 0 := hcm.symm; refine k_exit ?_; show AK _ _ _ _ _ _; refine srp 9000 [2,3] ?_; refine k_ret ?_; show retQ _ _ _ _ _ _ _; simp [*]
attribute [local simp] urow in
theorem spec151 (a b : Int) : Flat.Sp Tryz.prog 167 [.p (.ps [urow a, urow b])] [] (vv (.int .u64 (if a < b then b else a))) [] := by
 refine sk Tryz.func167 ?_; intro F G hn hG; refine srp 1000 [0,1,2,25] ?_; refine sq ?_; refine srp 2000 [0,1,2,5,7,25] ?_; refine ce ?_; refine k_skip ?_; refine srp 4000 [0,1,2,5,12,25] ?_; refine sq ?_; refine srp 5000 [0,1,2,5,12,25] ?_; refine k_block ?_; refine k_rounds 2 ?_; show AK _ _ _ _ _ _; refine sq ?_; refine srp 6000 [0,1,2,5,12,25] ?_; refine ct ?_; refine k_skip ?_; refine sq ?_; refine k_block ?_; refine rg 8000 ?_; refine k_nil ?_; show AK _ _ _ _ _ _; refine rg 7000 ?_; refine k_nil ?_; show AK _ _ _ _ _ _; refine sq ?_; refine srp 1006000 [0,1,2,5,12,25] ?_; refine ce ?_; refine k_exit ?_; show AK _ _ _ _ _ _; refine srp 9000 [2,3] ?_; refine k_ret ?_; show retQ _ _ _ _ _ _ _; simp [*]
attribute [local simp] chkT Tm.row urow in
theorem spec96 (t : Tm) : Flat.Sp Tryz.prog 76 [.p (.ps [t.row])] [] (vv (.int .i64 (chkT t))) [] := by
 refine sk Tryz.func76 ?_; intro F G hn hG; refine srp 1000 [0,1,2,3,4,19] ?_; refine sq ?_; refine srp 2000 [2,3,4,19] ?_; refine k_block ?_; refine k_rounds 2 ?_; show AK _ _ _ _ _ _; refine srp 3000 [2,3,4,19] ?_; refine sq ?_; refine ct ?_; refine k_skip ?_; refine sq ?_; refine k_block ?_; refine srp 4000 [2,3,4,19] ?_; refine sq ?_; refine fv 4002 3 ?_; refine dr ?_; refine de 5000 ?_; refine dc id (spec151 t.a t.b) ?_; refine de 5100 ?_; refine dn ?_; refine pr [2,3,4,19] ?_; refine cd ?_ ?_
 · intro h17_1
   have h17_1 : decide ((if (if t.a < t.b then t.b else t.a) > t.e then (if t.a < t.b then t.b else t.a) else t.e) > 4611686018427387904) = true := by simpa using h17_1
   refine srp 6000 [2,3,4,19] ?_; refine k_ret ?_; show retQ _ _ _ _ _ _ _; simp [*]
 · intro h17_1
   have h17_1 : decide ((if (if t.a < t.b then t.b else t.a) > t.e then (if t.a < t.b then t.b else t.a) else t.e) > 4611686018427387904) = false := by simpa using h17_1
   refine k_skip ?_; refine k_nil ?_; show AK _ _ _ _ _ _; refine rg 7000 ?_; refine k_nil ?_; show AK _ _ _ _ _ _; refine srp 1003000 [2,3,4,19] ?_; refine sq ?_; refine ce ?_; refine k_exit ?_; show AK _ _ _ _ _ _; refine srp 8000 [2,3] ?_; refine k_ret ?_; show retQ _ _ _ _ _ _ _; simp [*]
attribute [local simp] Up.row irow Tm.row in
theorem spec80 (us : List Up) (hlen : us.length ≤ Flat.lim) (hsm : ∀ u ∈ us, u.sm) : Flat.Sp Tryz.prog 54 [.p (.ps (us.map Up.row))] [] (vv (.int .i64 (chkUs us))) [] := by
 refine sk Tryz.func54 ?_; intro F G hn hG; refine srp 1000 [0,1,2,3,4,28] ?_; refine sq ?_; refine srp 2000 [2,3,4,28] ?_; refine k_block ?_; refine k_loop (fun n l => ∃ i, i + n = us.length ∧ (orI ((us.map chkU).drop i) = chkUs us) ∧ l = [(.tmp 6, .av (.p (.ps (us.map Up.row)))), (.tmp 7, .av (vv (.int .i64 us.length))), (.tmp 8, .av (vv (.int .i64 i)))]) (us.length) hG ⟨_, ⟨by simp, by simp, by simp⟩, 0, by simp, rfl, rfl⟩ ?_
 rintro n _ ⟨i, hin, hfa, rfl⟩; have hcm := hfa; refine srp 3000 [2,3,4,28] ?_; refine sq ?_; refine cd ?_ ?_
 · intro h9_1
   have hlt : i < us.length := by simpa using h9_1
   obtain ⟨x, hxe⟩ : ∃ x, us[i] = x := ⟨_, rfl⟩; have hx : us[i]? = some x := by simp [hlt, hxe]
   have hw := wrap_succ (show i < Flat.lim by omega)
   obtain ⟨hk, hr⟩ := hsm x (List.mem_of_getElem? hx); have hk : x.k.length ≤ Flat.lim := Nat.le_trans hk (by decide)
   have hr : x.r.length ≤ Flat.lim := Nat.le_trans hr (by decide)
   rw [orI_drop (show (us.map chkU)[i]? = some (chkU x) by simp [hx])] at hcm
   refine k_skip ?_; refine sq ?_; refine k_block ?_; refine srp 4000 [2,3,4,28] ?_; refine sq ?_; refine dr ?_; refine de 5000 ?_; refine dc id (spec54 x.k hk) ?_; refine de 5100 ?_; refine dc id (spec54 x.r hr) ?_; refine de 5200 ?_; refine dc id (spec96 x.t) ?_; refine de 5300 ?_; refine dc id ((show Flat.Sp Tryz.prog 74 _ _ (vv (.int .i64 (chkU x))) _ from spec97 [checkRow x.k, checkRow x.r, chkT x.t] (by simp [Flat.lim]))) ?_
   refine de 5400 ?_; refine dn ?_; refine pr [2,3,4,28] ?_; refine srp 6000 [2,3,4,28] ?_; refine cd ?_ ?_
   · intro h25_2
     have h2 : (chkU x != 0) = true := h25_2; rw [h2] at hcm; have hfin : chkUs us = chkU x := by simpa using hcm.symm
     refine srp 7000 [2,3,4,28] ?_; refine k_ret ?_; show retQ _ _ _ _ _ _ _; simp [*]
   · intro h25_2
     have h2 : (chkU x != 0) = false := h25_2; rw [h2] at hcm; have hnext : orI ((us.map chkU).drop (i + 1)) = chkUs us := by simpa using hcm
     refine k_skip ?_; refine k_nil ?_; show AK _ _ _ _ _ _; refine rg 8000 ?_; refine k_nil ?_; refine ⟨n - 1, by omega, _, ⟨?_, ?_, ?_⟩, i + 1, by omega, hnext, rfl⟩ <;> simp [*]
 · intro h9_1
   have hge : us.length ≤ i := by simpa using h9_1
   obtain rfl : i = us.length := by omega
   rw [List.drop_eq_nil_of_le (by simp)] at hcm
   have hfin : chkUs us = 0 := hcm.symm; refine k_exit ?_; show AK _ _ _ _ _ _; refine srp 9000 [2,3] ?_; refine k_ret ?_; show retQ _ _ _ _ _ _ _; simp [*]
attribute [local simp] Val.row in
theorem spec148 (ts : List Val) (hl : ts.length ≤ Bnd) : Flat.Sp Tryz.prog 128 [.p (.ps (ts.map Val.row))] [] (.p (.ps (ts.map Val.row))) [] := by
 refine sk Tryz.func128 ?_; intro F G hn hG; have hl0 : ts.length ≤ 140737488355328 := by simp only [Bnd] at hl; omega
 have hl1 : ts.length * 32 ≤ 140737488355328 := by simp only [Bnd] at hl; omega
 have htk : (ts.map Val.row).take ts.length = ts.map Val.row := List.take_of_length_le (by simp)
 refine srp 1000 [0,1,2,8] ?_; refine sq ?_; refine src 2000 ?_; refine nc fun b4 hnil => ?_
 refine onp [0,1,2,3,4,8] ?_; refine cd ?_ ?_
 · intro h4_1
   have hts : ts = [] := by simpa using hnil h4_1
   subst hts; refine srp 3000 [0,1,2,3,5,8] ?_; refine k_ret ?_; show retQ _ _ _ _ _ _ _; simp [*]
 · intro h4_1
   refine k_skip ?_; refine srp 4000 [2,3] ?_; refine fz 4002 ?_; refine k_ret ?_; show retQ _ _ _ _ _ _ _; simp [*]
attribute [local simp] Up.row in
theorem spec92 (us : List Up) (hl : us.length ≤ Cap) : Flat.Sp Tryz.prog 172 [.p (.ps (us.map Up.row))] [] (.sl 4002 us.length 0 us.length) [(.arr 4002, .arr 37 6 (us.map Up.row) 0)] := by
 refine sk Tryz.func172 ?_; intro F G hn hG; have hl0 : us.length ≤ 140737488355328 := by simp only [Cap] at hl; omega
 have hl1 : us.length * 80 ≤ 140737488355328 := by simp only [Cap] at hl; omega
 have htk : (us.map Up.row).take us.length = us.map Up.row := List.take_of_length_le (by simp)
 refine srp 1000 [0,1,2,8] ?_; refine sq ?_; refine src 2000 ?_; refine nc fun b4 hnil => ?_
 refine onp [0,1,2,3,4,8] ?_; refine cd ?_ ?_
 · intro h4_1
   have hts : us = [] := by simpa using hnil h4_1
   subst hts; refine srp 3000 [0,1,2,3,5,8] ?_; refine ow (.tmp 2) 4002 37 6 ?_; refine k_ret ?_; show retQ _ _ _ _ _ _ _; simp [*]
 · intro h4_1
   refine k_skip ?_; refine srp 4000 [2,3] ?_; refine k_ret ?_; show retQ _ _ _ _ _ _ _; simp [*]
theorem spec145_0  : Flat.Sp Tryz.prog 127 [.psf [], vv (.int .i64 0)] [] (.psf []) [] := by
 refine sk Tryz.func127 ?_; intro F G hn hG; refine srp 1000 [0,2,4,27] ?_; refine sq ?_; refine srp 2000 [0,2,4,5,6,27] ?_; refine ce ?_; refine k_skip ?_; refine sq ?_; refine srp 4000 [0,2,4,5,15,27] ?_; refine srp 5000 [0,2,4,5,16,27] ?_; refine ce ?_; refine k_skip ?_; refine srp 7000 [4,5] ?_; refine k_ret ?_; show retQ _ _ _ _ _ _ _; simp [*]
attribute [local simp] Up.row Up.zero in
theorem spec145_n (n : Nat) (h0 : 0 < n) (h1 : n ≤ Cap) : Flat.Sp Tryz.prog 127 [.psf [], vv (.int .i64 n)] [] (.sl 6005 n 0 0) [(.arr 6005, .arr 37 6 (List.replicate n Up.zero.row) 0)] := by
 refine sk Tryz.func127 ?_; intro F G hn hG; have hw : IntKind.i64.wrap (n : Int) = n := Flat.wrap_small (by simp only [Cap] at h1; simp only [Flat.lim]; omega)
 have hn0 : ¬ ((n : Int) < 0) := by omega
 have hn2 : n ≤ 140737488355328 := by simp only [Cap] at h1; omega
 have hn3 : n * 80 ≤ 140737488355328 := by simp only [Cap] at h1; omega
 refine srp 1000 [0,2,4,27] ?_; refine sq ?_; refine srp 2000 [0,2,4,5,6,27] ?_; refine ce ?_; refine k_skip ?_; refine sq ?_; refine srp 4000 [0,2,4,5,15,27] ?_; refine srp 5000 [0,2,4,5,16,27] ?_; refine ct ?_; refine rgp 6000 [0,1,4,5,26,27] ?_; refine srp 7000 [4,5] ?_; refine k_ret ?_; show retQ _ _ _ _ _ _ _; simp [*]
attribute [local simp] lrow in
theorem spec86_0 (ls : List (List Up)) (L : Nat) (hLL : (cat ls).length = L) (hlen : ls.length ≤ Cap) (hc : L ≤ Cap) (h0 : L = 0) : Flat.Sp Tryz.prog 56 [.p (.ps (ls.map lrow))] [] (.sl 900 L 0 L) [(.arr 900, .arr 37 6 ((cat ls).map Up.row) 0)] := by
 refine sk Tryz.func56 ?_; intro F G hn hG; simp only [Cap] at hlen hc; have hwL : IntKind.i64.wrap (L : Int) = L := Flat.wrap_small (by simp only [Flat.lim]; omega)
 have hca : cat (ls.take ls.length) = cat ls := cat_all (Nat.le_refl _); refine srp 1000 [0,1,2,4,5,7,8,36] ?_; refine srp 2000 [0,1,2,4,5,7,8,36] ?_; refine sq ?_; refine srp 3000 [0,1,2,4,5,7,8,36] ?_; refine k_block ?_; refine k_loop (fun n l => ∃ i, i + n = ls.length ∧ (True) ∧ l = [(.tmp 0, .av (.p (.ps (ls.map lrow)))), (.tmp 3, .av (vv (.int .i64 (cat (ls.take i)).length))), (.tmp 9, .av (.p (.ps (ls.map lrow)))), (.tmp 10, .av (vv (.int .i64 ls.length))), (.tmp 11, .av (vv (.int .i64 i)))]) (ls.length) hG ⟨_, ⟨by simp [cat], by simp, by simp⟩, 0, by simp, trivial, rfl⟩ ?_
 rintro n _ ⟨i, hin, hfa, rfl⟩; refine srp 4000 [0,1,2,4,5,7,8,36] ?_; refine sq ?_; refine cd ?_ ?_
 · intro h12_1
   have hlt : i < ls.length := by simpa using h12_1
   obtain ⟨x, hxe⟩ : ∃ x, ls[i] = x := ⟨_, rfl⟩; have hx : ls[i]? = some x := by simp [hlt, hxe]
   have hw := wrap_succ (show i < Flat.lim by simp only [Flat.lim]; omega)
   have hcs := cat_succ hx; have hle := cat_le (ls := ls) (i + 1); rw [hcs, List.length_append] at hle; have hws := wadd (x := (cat (ls.take i)).length) (y := x.length) rfl (by simp only [Flat.lim]; omega)
   simp only [Int.natCast_add] at hws; have hn0 : ¬ (((cat (ls.take i)).length : Int) + (x.length : Int) < 0) := by omega
   refine k_skip ?_; refine sq ?_; refine k_block ?_; refine srp 5000 [0,1,2,4,5,7,8,36] ?_; refine srp 6000 [0,1,2,4,5,7,8,36] ?_; refine srp 7000 [0,1,2,4,5,7,8,36] ?_; refine ce ?_; refine k_skip ?_; refine k_nil ?_; show AK _ _ _ _ _ _; refine rg 9000 ?_; refine k_nil ?_; refine ⟨n - 1, by omega, _, ⟨?_, ?_, ?_⟩, i + 1, by omega, trivial, rfl⟩ <;> simp [*, List.length_append]
 · intro h12_1
   have hge : ls.length ≤ i := by simpa using h12_1
   obtain rfl : i = ls.length := by omega
   skip; refine k_exit ?_; show AK _ _ _ _ _ _; refine src 10000 ?_; refine oc (fun _ => 900) (spec145_0) ?_
   refine oe 10100 ?_; refine onp [0,1,2,3,6,7,8,9,25,36] ?_; refine ow (.tmp 6) 900 37 6 ?_; refine sq ?_; refine srp 11000 [2,3,6,7,8,9,25,36] ?_; refine k_block ?_; refine k_loop (fun n l => ∃ i, i + n = ls.length ∧ (True) ∧ l = [(.tmp 6, .av (.sl 900 L 0 (cat (ls.take i)).length)), (.tmp 25, .av (.p (.ps (ls.map lrow)))), (.tmp 26, .av (vv (.int .i64 ls.length))), (.tmp 27, .av (vv (.int .i64 i))), (.arr 900, .arr 37 6 ((cat (ls.take i)).map Up.row ++ List.replicate (L - (cat (ls.take i)).length) Up.zero.row) 0)]) (ls.length) hG ⟨_, ⟨by simp [cat, *], by simp, by simp⟩, 0, by simp, trivial, rfl⟩ ?_
   rintro n _ ⟨i, hin, hfa, rfl⟩; refine srp 12000 [2,3,6,7,8,9,25,36] ?_; refine sq ?_; refine cd ?_ ?_
   · intro h28_2
     have hlt : i < ls.length := by simpa using h28_2
     obtain ⟨x, hxe⟩ : ∃ x, ls[i] = x := ⟨_, rfl⟩; have hx : ls[i]? = some x := by simp [hlt, hxe]
     have hw := wrap_succ (show i < Flat.lim by simp only [Flat.lim]; omega)
     have hcs := cat_succ hx; have hle := cat_le (ls := ls) (i + 1); rw [hcs, List.length_append] at hle; obtain ⟨k, hk⟩ : ∃ k, (cat (ls.take i)).length = k := ⟨_, rfl⟩; rw [hk] at hle; have hkl : k ≤ L := by omega
     refine k_skip ?_; refine sq ?_; refine k_block ?_; refine srp 13000 [2,3,6,7,8,9,25,36] ?_; refine k_cut [(.tmp 6, .av (.sl 900 L 0 (cat (ls.take (i + 1))).length)), (.tmp 25, .av (.p (.ps (ls.map lrow)))), (.tmp 26, .av (vv (.int .i64 ls.length))), (.tmp 27, .av (vv (.int .i64 i))), (.arr 900, .arr 37 6 ((cat (ls.take (i + 1))).map Up.row ++ List.replicate (L - (cat (ls.take (i + 1))).length) Up.zero.row) 0)] (by assumption) ?_ ?_
     · skip
       have hkL : k = L := by omega
       have hx0 : x = [] := List.length_eq_zero_iff.1 (by omega)
       subst hx0; subst hkL; have hb1 : k * 80 ≤ 140737488355328 := by omega
       have hb2 : k ≤ 140737488355328 := by omega
       have hcs0 : cat (ls.take (i + 1)) = cat (ls.take i) := by rw [hcs, List.append_nil]
       refine rg 14000 ?_; refine k_nil ?_; refine ⟨rfl, ?_, ?_, ?_⟩ <;> simp [*]
     refine k_nil ?_; show AK _ _ _ _ _ _; refine rg 15000 ?_; refine k_nil ?_; refine ⟨n - 1, by omega, _, ⟨?_, ?_, ?_⟩, i + 1, by omega, trivial, rfl⟩ <;> simp [*, *]
   · intro h28_2
     have hge : ls.length ≤ i := by simpa using h28_2
     obtain rfl : i = ls.length := by omega
     refine k_exit ?_; show AK _ _ _ _ _ _; refine srp 16000 [2,3] ?_; refine k_ret ?_; show retQ _ _ _ _ _ _ _; simp [*]
attribute [local simp] lrow in
theorem spec86_1 (ls : List (List Up)) (L : Nat) (hLL : (cat ls).length = L) (hlen : ls.length ≤ Cap) (hc : L ≤ Cap) (h0 : 0 < L) : Flat.Sp Tryz.prog 56 [.p (.ps (ls.map lrow))] [] (.sl 900 L 0 L) [(.arr 900, .arr 37 6 ((cat ls).map Up.row) 0)] := by
 refine sk Tryz.func56 ?_; intro F G hn hG; simp only [Cap] at hlen hc; have hwL : IntKind.i64.wrap (L : Int) = L := Flat.wrap_small (by simp only [Flat.lim]; omega)
 have hca : cat (ls.take ls.length) = cat ls := cat_all (Nat.le_refl _); refine srp 1000 [0,1,2,4,5,7,8,36] ?_; refine srp 2000 [0,1,2,4,5,7,8,36] ?_; refine sq ?_; refine srp 3000 [0,1,2,4,5,7,8,36] ?_; refine k_block ?_; refine k_loop (fun n l => ∃ i, i + n = ls.length ∧ (True) ∧ l = [(.tmp 0, .av (.p (.ps (ls.map lrow)))), (.tmp 3, .av (vv (.int .i64 (cat (ls.take i)).length))), (.tmp 9, .av (.p (.ps (ls.map lrow)))), (.tmp 10, .av (vv (.int .i64 ls.length))), (.tmp 11, .av (vv (.int .i64 i)))]) (ls.length) hG ⟨_, ⟨by simp [cat], by simp, by simp⟩, 0, by simp, trivial, rfl⟩ ?_
 rintro n _ ⟨i, hin, hfa, rfl⟩; refine srp 4000 [0,1,2,4,5,7,8,36] ?_; refine sq ?_; refine cd ?_ ?_
 · intro h12_1
   have hlt : i < ls.length := by simpa using h12_1
   obtain ⟨x, hxe⟩ : ∃ x, ls[i] = x := ⟨_, rfl⟩; have hx : ls[i]? = some x := by simp [hlt, hxe]
   have hw := wrap_succ (show i < Flat.lim by simp only [Flat.lim]; omega)
   have hcs := cat_succ hx; have hle := cat_le (ls := ls) (i + 1); rw [hcs, List.length_append] at hle; have hws := wadd (x := (cat (ls.take i)).length) (y := x.length) rfl (by simp only [Flat.lim]; omega)
   simp only [Int.natCast_add] at hws; have hn0 : ¬ (((cat (ls.take i)).length : Int) + (x.length : Int) < 0) := by omega
   refine k_skip ?_; refine sq ?_; refine k_block ?_; refine srp 5000 [0,1,2,4,5,7,8,36] ?_; refine srp 6000 [0,1,2,4,5,7,8,36] ?_; refine srp 7000 [0,1,2,4,5,7,8,36] ?_; refine ce ?_; refine k_skip ?_; refine k_nil ?_; show AK _ _ _ _ _ _; refine rg 9000 ?_; refine k_nil ?_; refine ⟨n - 1, by omega, _, ⟨?_, ?_, ?_⟩, i + 1, by omega, trivial, rfl⟩ <;> simp [*, List.length_append]
 · intro h12_1
   have hge : ls.length ≤ i := by simpa using h12_1
   obtain rfl : i = ls.length := by omega
   skip; refine k_exit ?_; show AK _ _ _ _ _ _; refine src 10000 ?_; refine oc (fun _ => 900) (spec145_n L h0 (by simp only [Cap]; omega)) ?_
   refine oe 10100 ?_; refine onp [0,1,2,3,6,7,8,9,25,36] ?_; refine sq ?_; refine srp 11000 [2,3,6,7,8,9,25,36] ?_; refine k_block ?_; refine k_loop (fun n l => ∃ i, i + n = ls.length ∧ (True) ∧ l = [(.tmp 6, .av (.sl 900 L 0 (cat (ls.take i)).length)), (.tmp 25, .av (.p (.ps (ls.map lrow)))), (.tmp 26, .av (vv (.int .i64 ls.length))), (.tmp 27, .av (vv (.int .i64 i))), (.arr 900, .arr 37 6 ((cat (ls.take i)).map Up.row ++ List.replicate (L - (cat (ls.take i)).length) Up.zero.row) 0)]) (ls.length) hG ⟨_, ⟨by simp [cat, *], by simp, by simp⟩, 0, by simp, trivial, rfl⟩ ?_
   rintro n _ ⟨i, hin, hfa, rfl⟩; refine srp 12000 [2,3,6,7,8,9,25,36] ?_; refine sq ?_; refine cd ?_ ?_
   · intro h28_2
     have hlt : i < ls.length := by simpa using h28_2
     obtain ⟨x, hxe⟩ : ∃ x, ls[i] = x := ⟨_, rfl⟩; have hx : ls[i]? = some x := by simp [hlt, hxe]
     have hw := wrap_succ (show i < Flat.lim by simp only [Flat.lim]; omega)
     have hcs := cat_succ hx; have hle := cat_le (ls := ls) (i + 1); rw [hcs, List.length_append] at hle; obtain ⟨k, hk⟩ : ∃ k, (cat (ls.take i)).length = k := ⟨_, rfl⟩; rw [hk] at hle; have hkl : k ≤ L := by omega
     refine k_skip ?_; refine sq ?_; refine k_block ?_; refine srp 13000 [2,3,6,7,8,9,25,36] ?_; refine k_cut [(.tmp 6, .av (.sl 900 L 0 (cat (ls.take (i + 1))).length)), (.tmp 25, .av (.p (.ps (ls.map lrow)))), (.tmp 26, .av (vv (.int .i64 ls.length))), (.tmp 27, .av (vv (.int .i64 i))), (.arr 900, .arr 37 6 ((cat (ls.take (i + 1))).map Up.row ++ List.replicate (L - (cat (ls.take (i + 1))).length) Up.zero.row) 0)] (by assumption) ?_ ?_
     · skip
       rcases h0q : ((k == L) : Bool) with _ | _
       · skip
         have hkne : ¬ k = L := by simpa using h0q
         have hklt : k < L := by omega
         have hmax : max L (k + x.length) = L := by omega
         have htk : ((cat (ls.take i)).map Up.row ++ List.replicate (L - k) Up.zero.row).take k = (cat (ls.take i)).map Up.row := by rw [List.take_append_of_le_length (by simp [hk]), List.take_of_length_le (by simp [hk])]
         have hdk : ((cat (ls.take i)).map Up.row ++ List.replicate (L - k) Up.zero.row).drop (k + x.length) = List.replicate (L - (k + x.length)) Up.zero.row := by rw [List.drop_append, List.drop_eq_nil_of_le (by simp [hk]), List.drop_replicate]; simp [hk]; omega
         have hlk : k + (L - k) = L := by omega
         have hb1 : (k + x.length) * 80 ≤ 140737488355328 := by omega
         have hb2 : k + x.length ≤ 140737488355328 := by omega
         refine rg 14000 ?_; refine k_nil ?_; refine ⟨rfl, ?_, ?_, ?_⟩ <;> simp [*]
       · skip
         have hkL : k = L := by simpa using h0q
         have hx0 : x = [] := List.length_eq_zero_iff.1 (by omega)
         subst hx0; subst hkL; have hb1 : k * 80 ≤ 140737488355328 := by omega
         have hb2 : k ≤ 140737488355328 := by omega
         have hcs0 : cat (ls.take (i + 1)) = cat (ls.take i) := by rw [hcs, List.append_nil]
         refine rg 1014000 ?_; refine k_nil ?_; refine ⟨rfl, ?_, ?_, ?_⟩ <;> simp [*]
     refine k_nil ?_; show AK _ _ _ _ _ _; refine rg 15000 ?_; refine k_nil ?_; refine ⟨n - 1, by omega, _, ⟨?_, ?_, ?_⟩, i + 1, by omega, trivial, rfl⟩ <;> simp [*, *]
   · intro h28_2
     have hge : ls.length ≤ i := by simpa using h28_2
     obtain rfl : i = ls.length := by omega
     refine k_exit ?_; show AK _ _ _ _ _ _; refine srp 16000 [2,3] ?_; refine k_ret ?_; show retQ _ _ _ _ _ _ _; simp [*]
theorem spec86 (ls : List (List Up)) (hlen : ls.length ≤ Cap) (hc : (cat ls).length ≤ Cap) : Flat.Sp Tryz.prog 56 [.p (.ps (ls.map lrow))] [] (.sl 900 (cat ls).length 0 (cat ls).length) [(.arr 900, .arr 37 6 ((cat ls).map Up.row) 0)] := by
 rcases Nat.eq_zero_or_pos (cat ls).length with h | h
 · exact spec86_0 ls _ rfl hlen hc h
 · exact spec86_1 ls _ rfl hlen hc h
end
end Go.Proofs
end
section
set_option linter.unusedVariables false
set_option linter.unusedSimpArgs false
namespace Go.Proofs
section
variable {α : Type}
def ltC (c : α → α → Int) (x y : α) : Bool := decide (c x y < 0)
structure Cmp (c : α → α → Int) : Prop where
 ord : Ord (ltC c)
 zero : ∀ x y, c x y = 0 ↔ ltC c x y = false ∧ ltC c y x = false
variable {c : α → α → Int}
theorem Cmp.refl (h : Cmp c) (x : α) : c x x = 0 := (h.zero x x).2 ⟨h.ord.irr x, h.ord.irr x⟩
theorem Cmp.symm (h : Cmp c) {x y : α} (h1 : c x y = 0) : c y x = 0 := (h.zero y x).2 ((h.zero x y).1 h1).symm
theorem Cmp.trans (h : Cmp c) {x y z : α} (h1 : c x y = 0) (h2 : c y z = 0) : c x z = 0 := by
 obtain ⟨a1, a2⟩ := (h.zero x y).1 h1; obtain ⟨b1, b2⟩ := (h.zero y z).1 h2; exact (h.zero x z).2 ⟨h.ord.tr z y x b1 a1, h.ord.tr x y z a2 b2⟩
theorem Cmp.le_lt (h : Cmp c) {x y z : α} (h1 : ltC c y x = false) (h2 : ltC c y z = true) : ltC c x z = true := by
 cases hh : ltC c x z with
 | true => rfl
 | false => rw [h.ord.tr z x y hh h1] at h2; exact absurd h2 (by simp)
theorem Cmp.lt_le (h : Cmp c) {x y z : α} (h1 : ltC c x y = true) (h2 : ltC c z y = false) : ltC c x z = true := by
 cases hh : ltC c x z with
 | true => rfl
 | false => rw [h.ord.tr y z x h2 hh] at h1; exact absurd h1 (by simp)
theorem Cmp.ne_of_lt (h : Cmp c) {x y : α} (h1 : ltC c x y = true) : c x y ≠ 0 := fun e => by rw [((h.zero x y).1 e).1] at h1; exact absurd h1 (by simp)
theorem Cmp.ne_of_gt (h : Cmp c) {x y : α} (h1 : ltC c x y = true) : c y x ≠ 0 := fun e => h.ne_of_lt h1 (h.symm e)
theorem Cmp.lt_of (h : Cmp c) {x y : α} (h1 : ltC c y x = false) (h2 : c x y ≠ 0) : ltC c x y = true := by
 cases hh : ltC c x y with
 | true => rfl
 | false => exact absurd ((h.zero x y).2 ⟨hh, h1⟩) h2
def gpush (c : α → α → Int) (g : List (α × List Int)) (x : α) : List (α × List Int) :=
 match g.getLast? with
 | none => g ++ [(x, [])]
 | some r => if c r.1 x = 0 then g else g ++ [(x, [])]
def gadd (g : List (α × List Int)) (n : Int) : List (α × List Int) :=
 match g.getLast? with
 | none => g
 | some r => g.set (g.length - 1) (r.1, r.2 ++ [n])
def gstep (c : α → α → Int) (nm : α → Int) (g : List (α × List Int)) (x : α) : List (α × List Int) := gadd (gpush c g x) (nm x)
def grp (c : α → α → Int) (nm : α → Int) (l : List α) : List (α × List Int) := l.foldl (gstep c nm) []
theorem grp_snoc (nm : α → Int) (l : List α) (x : α) : grp c nm (l ++ [x]) = gstep c nm (grp c nm l) x := by simp [grp]
theorem gstep_nil (nm : α → Int) (x : α) : gstep c nm [] x = [(x, [nm x])] := rfl
theorem gadd_snoc (g : List (α × List Int)) (r : α × List Int) (n : Int) : gadd (g ++ [r]) n = g ++ [(r.1, r.2 ++ [n])] := by
 have e : (g ++ [r]).getLast? = some r := by simp
 rw [gadd, e]; simp
theorem gstep_snoc (nm : α → Int) (g : List (α × List Int)) (r : α × List Int) (x : α) : gstep c nm (g ++ [r]) x = if c r.1 x = 0 then g ++ [(r.1, r.2 ++ [nm x])] else g ++ [r, (x, [nm x])] := by
 have e : (g ++ [r]).getLast? = some r := by simp
 by_cases h : c r.1 x = 0
 · rw [if_pos h, gstep, gpush, e]
   simp only [h, if_true]; rw [gadd_snoc]
 · rw [if_neg h, gstep, gpush, e]
   simp only [h, if_false]; rw [gadd_snoc]; simp
theorem perm_sum {l l' : List Int} (h : l.Perm l') : l.sum = l'.sum := by
 induction h with
 | nil => rfl
 | cons x _ ih => simp only [List.sum_cons, ih]
 | swap x y l => simp only [List.sum_cons]; omega
 | trans _ _ ih1 ih2 => rw [ih1, ih2]
def alike (c : α → α → Int) (nm : α → Int) (l : List α) (r : α) : List Int := (l.filter fun x => decide (c r x = 0)).map nm
def tot (c : α → α → Int) (nm : α → Int) (l : List α) (r : α) : Int := (alike c nm l r).sum
structure Grp (c : α → α → Int) (nm : α → Int) (l : List α) (g : List (α × List Int)) : Prop where
 inc : g.Pairwise fun r s => ltC c r.1 s.1 = true
 pile : ∀ r ∈ g, r.2 = alike c nm l r.1
 all : ∀ x ∈ l, ∃ r ∈ g, c r.1 x = 0
 mem : ∀ r ∈ g, r.1 ∈ l
theorem grp_ok (h : Cmp c) (nm : α → Int) (l : List α) (hl : Line (ltC c) l) : Grp c nm l (grp c nm l) := by
 suffices hh : ∀ n (l : List α), l.length = n → Line (ltC c) l → Grp c nm l (grp c nm l) from hh _ l rfl hl
 intro n
 induction n with
 | zero =>
   intro l hn _; obtain rfl := List.length_eq_zero_iff.1 hn; exact ⟨List.Pairwise.nil, by simp [grp], by simp, by simp [grp]⟩
 | succ n ih =>
   intro l hn hl; obtain ⟨p, x, rfl⟩ : ∃ p x, l = p ++ [x] := ⟨l.dropLast, l.getLast (by intro e; simp [e] at hn), (List.dropLast_concat_getLast _).symm⟩
   obtain ⟨hp1, hp2, hp3⟩ := List.pairwise_append.1 hl; have hpx : ∀ y ∈ p, ltC c x y = false := fun y hy => hp3 y hy x (by simp)
   have I := ih p (by simpa using hn) hp1
   rw [grp_snoc]
   have ha : ∀ r, alike c nm (p ++ [x]) r = alike c nm p r ++ (if c r x = 0 then [nm x] else []) := by
     intro r; simp only [alike, List.filter_append, List.map_append]; congr 1
     by_cases e : c r x = 0 <;> simp [e]
   rcases List.eq_nil_or_concat (grp c nm p) with e | ⟨g, r, e⟩
   · have hpn : p = [] := by
       cases p with
       | nil => rfl
       | cons y p => obtain ⟨r, hr, _⟩ := I.all y (by simp); rw [e] at hr; simp at hr
     subst hpn; rw [e, gstep_nil]; refine ⟨by simp, ?_, ?_, ?_⟩
     · simp [alike, h.refl]
     · simp [h.refl]
     · simp
   · rw [List.concat_eq_append] at e
     rw [e] at I ⊢; rw [gstep_snoc]; have hinc := I.inc; obtain ⟨i1, i2, i3⟩ := List.pairwise_append.1 hinc; have hgr : ∀ s ∈ g, ltC c s.1 r.1 = true := fun s hs => i3 s hs r (by simp)
     have hrp : r.1 ∈ p := I.mem r (by simp)
     have hrx : ltC c x r.1 = false := hpx _ hrp
     by_cases hc : c r.1 x = 0
     · rw [if_pos hc]
       have hgx : ∀ s ∈ g, c s.1 x ≠ 0 := fun s hs e2 => h.ne_of_lt (hgr s hs) (h.trans e2 (h.symm hc))
       refine ⟨?_, ?_, ?_, ?_⟩
       · exact List.pairwise_append.2 ⟨i1, by simp, fun s hs t ht => by rw [List.mem_singleton] at ht; rw [ht]; exact hgr s hs⟩
       · intro s hs
         rw [ha]; rcases List.mem_append.1 hs with hs | hs
         · rw [if_neg (hgx s hs), List.append_nil]; exact I.pile s (by simp [hs])
         · rw [List.mem_singleton] at hs
           subst hs; rw [if_pos hc, I.pile r (by simp)]
       · intro y hy
         rcases List.mem_append.1 hy with hy | hy
         · obtain ⟨s, hs, hsy⟩ := I.all y hy
           rcases List.mem_append.1 hs with hs | hs
           · exact ⟨s, by simp [hs], hsy⟩
           · rw [List.mem_singleton] at hs
             subst hs; exact ⟨_, List.mem_append_right _ (List.mem_singleton.2 rfl), hsy⟩
         · rw [List.mem_singleton] at hy
           subst hy; exact ⟨_, List.mem_append_right _ (List.mem_singleton.2 rfl), hc⟩
       · intro s hs
         rcases List.mem_append.1 hs with hs | hs
         · exact List.mem_append_left _ (I.mem s (by simp [hs]))
         · rw [List.mem_singleton] at hs
           subst hs; exact List.mem_append_left _ hrp
     · rw [if_neg hc]
       have hlt : ltC c r.1 x = true := h.lt_of hrx hc
       have hle : ∀ s ∈ g ++ [r], ltC c s.1 x = true := by
         intro s hs; rcases List.mem_append.1 hs with hs | hs
         · exact h.le_lt (h.ord.asy _ _ (hgr s hs)) hlt
         · rw [List.mem_singleton] at hs; rw [hs]; exact hlt
       have hpne : ∀ y ∈ p, c x y ≠ 0 := by
         intro y hy e2; obtain ⟨s, hs, hsy⟩ := I.all y hy; exact h.ne_of_lt (hle s hs) (h.trans hsy (h.symm e2))
       have e3 : g ++ [r, (x, [nm x])] = (g ++ [r]) ++ [(x, [nm x])] := by simp
       rw [e3]; refine ⟨?_, ?_, ?_, ?_⟩
       · exact List.pairwise_append.2 ⟨hinc, by simp, fun s hs t ht => by rw [List.mem_singleton] at ht; rw [ht]; exact hle s hs⟩
       · intro s hs
         rw [ha]; rcases List.mem_append.1 hs with hs | hs
         · rw [if_neg (h.ne_of_lt (hle s hs)), List.append_nil]; exact I.pile s hs
         · rw [List.mem_singleton] at hs
           subst hs; rw [if_pos (h.refl x)]
           have : alike c nm p x = [] := by
             rw [alike, List.map_eq_nil_iff, List.filter_eq_nil_iff]; intro y hy
             simpa using hpne y hy
           rw [this, List.nil_append]
       · intro y hy
         rcases List.mem_append.1 hy with hy | hy
         · obtain ⟨s, hs, hsy⟩ := I.all y hy
           exact ⟨s, List.mem_append_left _ hs, hsy⟩
         · rw [List.mem_singleton] at hy
           subst hy; exact ⟨_, List.mem_append_right _ (List.mem_singleton.2 rfl), h.refl y⟩
       · intro s hs
         rcases List.mem_append.1 hs with hs | hs
         · exact List.mem_append_left _ (I.mem s hs)
         · rw [List.mem_singleton] at hs
           subst hs; exact List.mem_append_right _ (List.mem_singleton.2 rfl)
theorem tot_congr (h : Cmp c) (nm : α → Int) (l : List α) {r s : α} (e : c r s = 0) : tot c nm l r = tot c nm l s := by
 unfold tot alike; congr 2; apply List.filter_congr; intro x _; have : c r x = 0 ↔ c s x = 0 := ⟨fun k => h.trans (h.symm e) k, fun k => h.trans e k⟩
 simp [this]
theorem strict_ext (h : Cmp c) : ∀ (l l' : List α), l.Pairwise (fun x y => ltC c x y = true) → l'.Pairwise (fun x y => ltC c x y = true) → (∀ x, x ∈ l ↔ x ∈ l') → l = l'
 | [], [], _, _, _ => rfl
 | [], y :: l', _, _, hm => absurd ((hm y).2 (by simp)) (by simp)
 | x :: l, [], _, _, hm => absurd ((hm x).1 (by simp)) (by simp)
 | x :: l, y :: l', h1, h2, hm => by
   obtain ⟨a1, a2⟩ := List.pairwise_cons.1 h1; obtain ⟨b1, b2⟩ := List.pairwise_cons.1 h2
   have hxy : x = y := by
     rcases List.mem_cons.1 ((hm x).1 (by simp)) with e | e
     · exact e
     · rcases List.mem_cons.1 ((hm y).2 (by simp)) with e2 | e2
       · exact e2.symm
       · have p1 := b1 x e
         have p2 := a1 y e2; rw [h.ord.asy _ _ p1] at p2; exact absurd p2 (by simp)
   subst hxy; congr 1; apply strict_ext h l l' a2 b2; intro z; constructor
   · intro hz
     rcases List.mem_cons.1 ((hm z).1 (by simp [hz])) with e | e
     · subst e; have := a1 z hz; rw [h.ord.irr] at this; exact absurd this (by simp)
     · exact e
   · intro hz
     rcases List.mem_cons.1 ((hm z).2 (by simp [hz])) with e | e
     · subst e; have := b1 z hz; rw [h.ord.irr] at this; exact absurd this (by simp)
     · exact e
end
end Go.Proofs
end
section
namespace Go.Proofs
open Go.Flat
set_option maxRecDepth 100000
set_option linter.unusedVariables false
set_option linter.unusedSimpArgs false
attribute [local simp] Bool.and_assoc Bool.or_assoc evalG evalX efD skF guardG guardL isCall stepL evalOp ev evs lk tmpsL app AV.ok fresh vv putCells insV ins del putL place Go.Flat.look fillC fillR getCells loadF storeF binF scalarBin intBin strBin isShift shiftBin unF lenF maxF minF rowsF appendF builtinF idxF natOf sliceP sliceF optEv Flat.cut overwrite toPV toPVs constAV scalarC scalarCs AV.cells TI.isAgg allSome andAll scalarEq buildable Go.Flat.lim retQ resL resAll resOne PartOf noTmp closedIn refs refs.refsL isSomeV hasB ids leA leA.leL renA renA.renL callB refsAll backL dropIds renS LiesAt injB ownB freshB memN locId insAll leA_refl leL_refl okS frzS frzA frzA.frzL evalD feet fine updCells cellsFrom memP footRf footWf noTmpU updIds opOps opIds idsA footR footW guardTs opTs dstTs callR callW renLoc renC inBlockQ thenQ Value.oneCell' IntKind.bits IntKind.signed
section
def gfit {α : Type} (g : α × List Int) : Int × Int := tfit (tsum g.2)
def gerr {α : Type} (gs : List (α × List Int)) : Int := orI (gs.map fun g => (gfit g).2)
def gout {α : Type} (put : α → Int → α) (gs : List (α × List Int)) : List α := gs.filterMap fun g => if (gfit g).1 != 0 then some (put g.1 (gfit g).1) else none
@[simp] theorem tsum_nil0 : tsum [] = (0, 0) := rfl
theorem tsum_snoc (ns : List Int) (n : Int) : tsum (ns ++ [n]) = tadd (tsum ns) n := by simp [tsum]
theorem grp_take {α : Type} {c : α → α → Int} {nm : α → Int} {l : List α} {i : Nat} {x : α} (h : l[i]? = some x) : grp c nm (l.take (i + 1)) = gstep c nm (grp c nm (l.take i)) x := by
 rw [List.take_add_one, h]; exact grp_snoc nm _ x
theorem gstep_len {α : Type} {c : α → α → Int} {nm : α → Int} (g : List (α × List Int)) (x : α) : (gstep c nm g x).length ≤ g.length + 1 := by
 rcases List.eq_nil_or_concat g with rfl | ⟨q, r, rfl⟩
 · simp [gstep_nil]
 · rw [List.concat_eq_append, gstep_snoc]
   split <;> simp
theorem grp_len {α : Type} {c : α → α → Int} {nm : α → Int} {l : List α} : ∀ i : Nat, (grp c nm (l.take i)).length ≤ i
 | 0 => by simp [grp]
 | i + 1 => by
   have ih := grp_len (c := c) (nm := nm) (l := l) i
   cases h : l[i]? with
   | none =>
     have h2 := List.getElem?_eq_none_iff.1 h; rw [List.take_of_length_le (by omega)]
     rw [List.take_of_length_le h2] at ih; omega
   | some x => rw [grp_take h]; have := gstep_len (c := c) (nm := nm) (grp c nm (l.take i)) x; omega
theorem gstep_push {α : Type} {c : α → α → Int} {nm : α → Int} {g : List (α × List Int)} {x : α} (h : g.length = 0 ∨ ∃ r, g[g.length - 1]? = some r ∧ c r.1 x ≠ 0) : gstep c nm g x = (g ++ [(x, [])]).set g.length (x, [nm x]) := by
 rcases List.eq_nil_or_concat g with rfl | ⟨q, r, rfl⟩
 · simp [gstep_nil]
 · rw [List.concat_eq_append] at h ⊢
   rcases h with h | ⟨r', h1, h2⟩
   · simp at h
   · simp at h1
     subst h1; rw [gstep_snoc, if_neg h2]; simp
theorem gstep_same {α : Type} {c : α → α → Int} {nm : α → Int} {g : List (α × List Int)} {x : α} {r : α × List Int} (h1 : g[g.length - 1]? = some r) (h2 : c r.1 x = 0) : gstep c nm g x = g.set (g.length - 1) (r.1, r.2 ++ [nm x]) := by
 rcases List.eq_nil_or_concat g with rfl | ⟨q, s, rfl⟩
 · simp at h1
 · rw [List.concat_eq_append] at h1 ⊢
   simp at h1; subst h1; rw [gstep_snoc, if_pos h2]; simp
theorem gout_take {α : Type} {put : α → Int → α} {gs : List (α × List Int)} {i : Nat} {g : α × List Int} (h : gs[i]? = some g) : gout put (gs.take (i + 1)) = gout put (gs.take i) ++ (if (gfit g).1 != 0 then [put g.1 (gfit g).1] else []) := by
 rw [gout, gout, List.take_add_one, h, List.filterMap_append]; congr 1; cases hc : ((gfit g).1 != 0) <;> simp only [Option.toList, List.filterMap_cons, List.filterMap_nil, hc, Bool.false_eq_true, if_true, if_false]
theorem gout_len {α : Type} {put : α → Int → α} {gs : List (α × List Int)} : (gout put gs).length ≤ gs.length := List.length_filterMap_le ..
def Up.grow (g : Up × List Int) : List PV := [.v (.int .u64 (tsum g.2).1), .v (.int .u64 (tsum g.2).2)] ++ g.1.row
@[simp] theorem Up.grow_len (g : Up × List Int) : (Up.grow g).length = 8 := rfl
def Up.put (u : Up) (n : Int) : Up := ⟨u.k, u.r, u.t, n⟩
theorem grp_mem {α : Type} (c : α → α → Int) (nm : α → Int) (l : List α) : ∀ r ∈ grp c nm l, r.1 ∈ l := by
 suffices h : ∀ n (l : List α), l.length = n → ∀ r ∈ grp c nm l, r.1 ∈ l from h _ l rfl
 intro n
 induction n with
 | zero => intro l hl r hr; obtain rfl := List.length_eq_zero_iff.1 hl; simp [grp] at hr
 | succ n ih =>
   intro l hl r hr; obtain ⟨p, x, rfl⟩ : ∃ p x, l = p ++ [x] := ⟨l.dropLast, l.getLast (by intro e; simp [e] at hl), (List.dropLast_concat_getLast _).symm⟩
   have I := ih p (by simpa using hl)
   rw [grp_snoc] at hr; rcases List.eq_nil_or_concat (grp c nm p) with e | ⟨g, s, e⟩
   · rw [e, gstep_nil] at hr
     simp at hr; subst hr; simp
   · rw [List.concat_eq_append] at e
     rw [e, gstep_snoc] at hr; rw [e] at I; have hs := I s (by simp)
     split at hr
     · rcases List.mem_append.1 hr with hr | hr
       · exact List.mem_append_left _ (I r (by simp [hr]))
       · rw [List.mem_singleton] at hr; subst hr; exact List.mem_append_left _ hs
     · simp at hr
       rcases hr with hr | rfl | rfl
       · exact List.mem_append_left _ (I r (by simp [hr]))
       · exact List.mem_append_left _ hs
       · simp
theorem push_of {α : Type} {c : α → α → Int} {gs : List (α × List Int)} {x z : α} (h : ((((gs.length : Nat) : Int) == 0) || (c (gs.getD (gs.length - 1) (z, [])).1 x != 0)) = true) : gs.length = 0 ∨ ∃ r, gs[gs.length - 1]? = some r ∧ c r.1 x ≠ 0 := by
 by_cases h0 : gs.length = 0
 · exact .inl h0
 · right
   have hl : gs.length - 1 < gs.length := by omega
   refine ⟨gs[gs.length - 1], List.getElem?_eq_getElem hl, ?_⟩; have e : gs.getD (gs.length - 1) (z, []) = gs[gs.length - 1] := by rw [List.getD_eq_getElem?_getD, List.getElem?_eq_getElem hl]; rfl
   rw [e] at h; have h1 : (((gs.length : Nat) : Int) == 0) = false := by simp; exact fun e => h0 (by rw [e]; rfl)
   rw [h1] at h
   simpa using h
theorem same_of {α : Type} {c : α → α → Int} {gs : List (α × List Int)} {x z : α} (h : ((((gs.length : Nat) : Int) == 0) || (c (gs.getD (gs.length - 1) (z, [])).1 x != 0)) = false) : ¬ gs.length = 0 ∧ ∃ r, gs[gs.length - 1]? = some r ∧ c r.1 x = 0 := by
 rw [Bool.or_eq_false_iff] at h; have h0 : ¬ gs.length = 0 := by have := h.1; simp at this; intro e; exact this (List.length_eq_zero_iff.1 e)
 have hl : gs.length - 1 < gs.length := by omega
 refine ⟨h0, gs[gs.length - 1], List.getElem?_eq_getElem hl, ?_⟩; have e : gs.getD (gs.length - 1) (z, []) = gs[gs.length - 1] := by rw [List.getD_eq_getElem?_getD, List.getElem?_eq_getElem hl]; rfl
 have h2 := h.2; rw [e] at h2
 simpa using h2
theorem set_same {α : Type} {l : List α} {i : Nat} {x : α} (h : l[i]? = some x) : l.set i x = l := by
 obtain ⟨h1, h2⟩ := List.getElem?_eq_some_iff.1 h; rw [← h2, List.set_getElem_self]
attribute [local simp] Up.row in
theorem spec90 (us : List Up) (hl : us.length ≤ Cap) (hsm : ∀ u ∈ us, u.sm) : Flat.Sp Tryz.prog 59 [.p (.ps (us.map Up.row))] [] (.p (.ps (us.map Up.row))) [] := by
 refine sk Tryz.func59 ?_; intro F G hn hG; have hl0 : us.length ≤ 140737488355328 := by simp only [Cap] at hl; omega
 have hl1 : us.length * 80 ≤ 140737488355328 := by simp only [Cap] at hl; omega
 have htk : (us.map Up.row).take us.length = us.map Up.row := List.take_of_length_le (by simp)
 refine srp 1000 [0,1,2,10,11,38] ?_; refine srp 2000 [0,1,2,5,8,10,11,38] ?_; refine srp 3000 [2,5,11,38] ?_; refine sq ?_; refine srp 4000 [2,5,12,38] ?_; refine k_block ?_; refine k_loop (fun n l => ∃ i, i + n = us.length ∧ (True) ∧ l = [(.tmp 3, .av (.sl 2002 us.length 0 us.length)), (.tmp 12, .av (vv (.int .i64 us.length))), (.tmp 13, .av (vv (.int .i64 i))), (.arr 2002, .arr 37 6 (us.map Up.row) 0)]) (us.length) hG ⟨_, ⟨by simp, by simp, by simp⟩, 0, by simp, trivial, rfl⟩ ?_
 rintro n _ ⟨i, hin, hfa, rfl⟩; refine srp 5000 [2,5,12,38] ?_; refine sq ?_; refine cd ?_ ?_
 · intro h14_1
   have hlt : i < us.length := by simpa using h14_1
   obtain ⟨x, hxe⟩ : ∃ x, us[i] = x := ⟨_, rfl⟩; have hx : us[i]? = some x := by simp [hlt, hxe]
   have hw := wrap_succ (show i < Flat.lim by simp only [Flat.lim]; omega)
   obtain ⟨hk, hr⟩ := hsm x (List.mem_of_getElem? hx)
   have hset : (us.map Up.row).set i [PV.ps (x.k.map Val.row), PV.ps (x.r.map Val.row), PV.v (.int .u64 x.t.e), PV.v (.int .u64 x.t.a), PV.v (.int .u64 x.t.b), PV.v (.int .i64 x.d)] = us.map Up.row := by
     have : (us.map Up.row)[i]? = some x.row := by simp [hx]
     exact set_same this
   refine k_skip ?_; refine sq ?_; refine k_block ?_; refine srp 6000 [2,5,12,38] ?_; refine dr ?_; refine de 7000 ?_; refine dc id (spec148 x.k hk) ?_; refine de 7100 ?_; refine dc id (spec148 x.r hr) ?_; refine de 7200 ?_; refine dn ?_; refine k_nil ?_; show AK _ _ _ _ _ _; refine rg 8000 ?_; refine k_nil ?_; refine ⟨n - 1, by omega, _, ⟨?_, ?_, ?_⟩, i + 1, by omega, trivial, rfl⟩ <;> simp [*]
 · intro h14_1
   have hge : us.length ≤ i := by simpa using h14_1
   refine k_exit ?_; show AK _ _ _ _ _ _; refine srp 9000 [2,3] ?_; refine fz 2002 ?_; refine k_ret ?_; show retQ _ _ _ _ _ _ _; simp [*]
attribute [local simp] Up.av Up.row in
theorem spec88 (u : Up) : Flat.Sp Tryz.prog 57 [u.av] [] (vv (.int .i64 u.d)) [] := by
 refine sk Tryz.func57 ?_; intro F G hn hG; refine srp 1000 [1,5] ?_; refine srp 2000 [2,3] ?_; refine k_ret ?_; show retQ _ _ _ _ _ _ _; simp [*]
attribute [local simp] Up.av Up.row Up.put in
theorem spec89 (u : Up) (n : Int) : Flat.Sp Tryz.prog 58 [u.av, vv (.int .i64 n)] [] ((u.put n).av) [] := by
 refine sk Tryz.func58 ?_; intro F G hn hG; refine srp 1000 [1,3,4,8] ?_; refine srp 2000 [2,3,4,5,7,8] ?_; refine srp 3000 [4,5] ?_; refine k_ret ?_; show retQ _ _ _ _ _ _ _; simp [*]
attribute [local simp] tfit in
theorem spec144g (x : Up) (p : Int × Int) : Flat.Sp Tryz.prog 126 [.ptr 0 0] [(.var 0, .n 8), (.cell 0 0, .av (vv (.int .u64 p.1))), (.cell 0 1, .av (vv (.int .u64 p.2))), (.cell 0 2, .av (.p (.ps (x.k.map Val.row)))), (.cell 0 3, .av (.p (.ps (x.r.map Val.row)))), (.cell 0 4, .av (.p (.v (.int .u64 x.t.e)))), (.cell 0 5, .av (.p (.v (.int .u64 x.t.a)))), (.cell 0 6, .av (.p (.v (.int .u64 x.t.b)))), (.cell 0 7, .av (.p (.v (.int .i64 x.d))))] (.tup [vv (.int .i64 (tfit p).1), vv (.int .i64 (tfit p).2)]) [(.var 0, .n 8), (.cell 0 0, .av (vv (.int .u64 p.1))), (.cell 0 1, .av (vv (.int .u64 p.2))), (.cell 0 2, .av (.p (.ps (x.k.map Val.row)))), (.cell 0 3, .av (.p (.ps (x.r.map Val.row)))), (.cell 0 4, .av (.p (.v (.int .u64 x.t.e)))), (.cell 0 5, .av (.p (.v (.int .u64 x.t.a)))), (.cell 0 6, .av (.p (.v (.int .u64 x.t.b)))), (.cell 0 7, .av (.p (.v (.int .i64 x.d))))] := by
 refine sk Tryz.func126 ?_; intro F G hn hG; refine srp 1000 [0,1,2,21] ?_; refine sq ?_; refine sq ?_; refine dr ?_; refine de 2000 ?_; refine dn ?_; refine pr [0,1,2,4,15,21] ?_; refine cd ?_ ?_
 · intro h15_1
   have h15_1 : tfits p = false := by simpa [tfits, IntKind.bits] using h15_1
   refine srp 3000 [0,1,2,4,16,21] ?_; refine k_ret ?_; show retQ _ _ _ _ _ _ _; simp [*]
 · intro h15_1
   have h15_1 : tfits p = true := by simpa [tfits, IntKind.bits] using h15_1
   refine k_skip ?_; refine srp 4000 [2,4] ?_; refine k_ret ?_; show retQ _ _ _ _ _ _ _; simp [*]
attribute [local simp] Up.grow Up.row tadd tsum_snoc in
theorem spec143e (gs : List (Up × List Int)) (L k : Nat) (hL : gs.length = L) (g : Up × List Int) (hk : gs[k]? = some g) (n : Int) : Flat.Sp Tryz.prog 125 [.eptr 0 L k 0, vv (.int .i64 n)] [(.arr 0, .arr 253 8 (gs.map Up.grow) 0)] (.tup []) [(.arr 0, .arr 253 8 ((gs.set k (g.1, g.2 ++ [n])).map Up.grow) 0)] := by
 refine sk Tryz.func125 ?_; intro F G hn hG; have hU := wrapU_in n; have hU2 := wrapU_in (n.fdiv 9223372036854775808); obtain ⟨q1, q2, q3, q4⟩ := tsum_in g.2; have hkl := (List.getElem?_eq_some_iff.1 hk).1; have hk2 : ∀ h : k < gs.length, gs[k]'h = g := fun h => (List.getElem?_eq_some_iff.1 hk).2
 have hkL : k < L := by omega
 refine srp 1000 [0,2,4,30,31,33] ?_; refine src 2000 ?_; refine o_ext hn (vs := [.int .u64 (tsum g.2).2, .int .u64 (IntKind.u64.wrap n), .int .u64 0]) (rs := [.int .u64 (((tsum g.2).2 + IntKind.u64.wrap n + 0) % 18446744073709551616), .int .u64 (((tsum g.2).2 + IntKind.u64.wrap n + 0) / 18446744073709551616)]) rfl (by simp [*]) (by simp [*]; exact is_rfl _) (by simp [*]; exact is_rfl _) (fun w => ext187 _ _ _ q3 hU.1 (by omega) (by omega) w) (by simp [*]) (by simp [*]; exact is_rfl _) ?_
 refine oe 2100 ?_; refine onp [0,2,4,5,18,30,31,33] ?_; refine rc 3000 ?_; refine o_ext hn (vs := [.int .u64 (tsum g.2).1, .int .u64 (IntKind.u64.wrap (n.fdiv 9223372036854775808)), .int .u64 (((tsum g.2).2 + IntKind.u64.wrap n) / 18446744073709551616)]) (rs := [.int .u64 (((tsum g.2).1 + IntKind.u64.wrap (n.fdiv 9223372036854775808) + ((tsum g.2).2 + IntKind.u64.wrap n) / 18446744073709551616) % 18446744073709551616), .int .u64 (((tsum g.2).1 + IntKind.u64.wrap (n.fdiv 9223372036854775808) + ((tsum g.2).2 + IntKind.u64.wrap n) / 18446744073709551616) / 18446744073709551616)]) rfl (by simp [*]) (by simp [*]; exact is_rfl _) (by simp [*]; exact is_rfl _) (fun w => ext187 _ _ _ q1 hU2.1 (by omega) (by omega) w) (by simp [*]) (by simp [*]; exact is_rfl _) ?_
 refine oe 3100 ?_; refine on ?_; refine k_nil ?_; show retQ _ _ _ _ _ _ _; simp [*]
end
section
attribute [local simp] Up.grow Up.row Up.av in
set_option maxHeartbeats 1000000 in
theorem spec85 (c : Up → Up → Int) (ho : Ord (ltU c)) (us : List Up) (hus : us.length ≤ Cap) (hc : ∀ x ∈ us, ∀ y ∈ us, Flat.Sp Tryz.prog 18 [x.av, y.av] [] (vv (.int .i64 (c x y))) []) (hnm : ∀ x ∈ us, Flat.Sp Tryz.prog 57 [x.av] [] (vv (.int .i64 (Up.d x))) []) (hput : ∀ x ∈ us, ∀ n : Int, Flat.Sp Tryz.prog 58 [x.av, vv (.int .i64 n)] [] (Up.put x n).av [])  : Flat.Sp Tryz.prog 55 [.sl 0 us.length 0 us.length, .fn (.func 18) [], .fn (.func 57) [], .fn (.func 58) []] [(.arr 0, .arr 37 6 (us.map Up.row) 0)] (.tup [.p (.ps ((if gerr (grp c Up.d (isrt (ltU c) us)) != 0 then [] else gout Up.put (grp c Up.d (isrt (ltU c) us))).map Up.row)), vv (.int .i64 (gerr (grp c Up.d (isrt (ltU c) us))))]) [(.arr 0, .arr 37 6 ((isrt (ltU c) us).map Up.row) 0)] := by
 refine sk Tryz.func55 ?_; intro F G hn hG; simp only [Cap] at hus; obtain ⟨S, hS⟩ : ∃ S, isrt (ltU c) us = S := ⟨_, rfl⟩; have hSl : S.length = us.length := by rw [← hS, isrt_length]
 have hSm : ∀ x ∈ S, x ∈ us := fun x hx => (isrt_perm (lt := (ltU c)) us).mem_iff.1 (by rw [hS]; exact hx)
 rw [hS]; refine srp 1000 [0,4,8,11,12,15,16,21,22,58,59,86] ?_; refine src 2000 ?_; refine oc id (spec142 c ho us (by simp only [Flat.lim]; omega) hc) ?_
 refine onp [0,4,8,11,12,15,16,19,22,58,59,86] ?_; refine srp 3000 [0,4,8,11,12,15,16,19,22,58,59,86] ?_; refine ow (.tmp 10) 900 253 8 ?_; refine sq ?_; refine srp 4000 [1,4,8,11,12,15,16,19,22,58,59,86] ?_; refine k_block ?_; refine k_loop (fun n l => ∃ i, i + n = us.length ∧ (True) ∧ l = [(.tmp 1, .av (.fn (.func 18) [])), (.tmp 2, .av (.fn (.func 57) [])), (.tmp 3, .av (.fn (.func 58) [])), (.tmp 10, .av (.sl 900 (grp c Up.d (S.take i)).length 0 (grp c Up.d (S.take i)).length)), (.tmp 22, .av (.sl 0 us.length 0 us.length)), (.tmp 23, .av (vv (.int .i64 us.length))), (.tmp 24, .av (vv (.int .i64 i))), (.arr 0, .arr 37 6 (S.map Up.row) 0), (.arr 900, .arr 253 8 ((grp c Up.d (S.take i)).map Up.grow) 0)]) (us.length) hG ⟨_, ⟨by simp [grp, *], by simp, by simp⟩, 0, by simp, trivial, rfl⟩ ?_
 rintro n _ ⟨i, hin, hfa, rfl⟩; obtain ⟨gs, hgs⟩ : ∃ gs, (grp c Up.d (S.take i)) = gs := ⟨_, rfl⟩; have hgl : gs.length ≤ i := by rw [← hgs]; exact grp_len i
 have hgm : ∀ r ∈ gs, r.1 ∈ us := by rw [← hgs]; exact fun r hr => hSm _ (List.mem_of_mem_take (grp_mem c Up.d _ r hr))
 refine srp 5000 [1,4,8,11,12,15,16,19,22,58,59,86] ?_; refine sq ?_; refine cd ?_ ?_
 · intro h25_1
   have hlt : i < us.length := by simpa using h25_1
   obtain ⟨x0, hxe⟩ : ∃ x0, us[i] = x0 := ⟨_, rfl⟩; have hx : us[i]? = some x0 := by simp [hlt, hxe]
   clear hx hxe x0; obtain ⟨x, hxe⟩ : ∃ x, S[i]'(by omega) = x := ⟨_, rfl⟩
   have hx : S[i]? = some x := by rw [List.getElem?_eq_getElem (by omega), hxe]
   have hx2 : ∀ h : i < S.length, S[i]'h = x := fun h => (List.getElem?_eq_some_iff.1 hx).2
   have hw := wrap_succ (show i < Flat.lim by simp only [Flat.lim]; omega)
   have hxm := hSm x (List.mem_of_getElem? hx); have hiS : i < S.length := by omega
   have hgt := grp_take (c := c) (nm := Up.d) hx; rw [hgs] at hgt; have hb1 : (gs.length + 1) * 96 ≤ 140737488355328 := by omega
   have hb2 : gs.length + 1 ≤ 140737488355328 := by omega
   refine k_skip ?_; refine sq ?_; refine k_block ?_; refine srp 6000 [1,4,8,11,12,15,16,19,22,58,59,86] ?_; refine sq ?_; refine srp 7000 [1,4,8,11,12,15,16,19,22,58,59,86] ?_; refine sq ?_; refine cv [(.tmp 43, vv (.bool ((((gs.length : Nat) : Int) == 0) || (c (gs.getD (gs.length - 1) (Up.zero, [])).1 x != 0))))] ?_ ?_
   · skip
     rcases h0 : ((((gs.length : Nat) : Int) == 0) : Bool) with _ | _
     · skip
       have hgl0 : ¬ gs.length = 0 := by have := h0; simp at this; intro e; exact this (List.length_eq_zero_iff.1 e)
       obtain ⟨k, hk⟩ : ∃ k, k + 1 = gs.length := ⟨gs.length - 1, by omega⟩
       obtain ⟨r, hr⟩ : ∃ r, gs[k]? = some r := ⟨_, List.getElem?_eq_getElem (by omega)⟩
       have hr2 : ∀ h : k < gs.length, gs[k]'h = r := fun h => (List.getElem?_eq_some_iff.1 hr).2
       have hkl : k < gs.length := by omega
       have hwk := wsub hk (by simp only [Flat.lim]; omega)
       simp only [Int.natCast_one] at hwk; have hrm : r.1 ∈ us := hgm r (List.mem_of_getElem? hr); have hgd : gs.getD (gs.length - 1) (Up.zero, []) = r := by rw [show gs.length - 1 = k by omega, List.getD_eq_getElem?_getD, hr]; rfl
       have hgd2 : gs[gs.length - 1]?.getD (Up.zero, []) = r := by rw [show gs.length - 1 = k by omega, hr]; rfl
       refine dr ?_; refine de 8000 ?_; iterate 8 (first | refine dp 8750 ?_ | refine ds ?_ | refine dt 8750 ?_)
       refine dc id (hc r.1 hrm x hxm) ?_; first | refine dp 8950 ?_ | refine ds ?_ | refine dt 8950 ?_
       refine de 9000 ?_; refine dn ?_; refine k_nil ?_; refine ⟨rfl, ?_, ?_, ?_⟩ <;> simp [*]
     · skip
       refine dr ?_; refine de 1008000 ?_; iterate 8 (first | refine dp 1008750 ?_ | refine ds ?_ | refine dt 1008750 ?_)
       refine ds ?_; first | refine dp 1008950 ?_ | refine ds ?_ | refine dt 1008950 ?_
       refine de 1009000 ?_; refine dn ?_; refine k_nil ?_; refine ⟨rfl, ?_, ?_, ?_⟩ <;> simp [*]
   refine pr [1,4,8,11,12,15,16,19,22,58,59,86] ?_; refine cd ?_ ?_
   · intro h43_2
     have h43_2 : ((((gs.length : Nat) : Int) == 0) || (c (gs.getD (gs.length - 1) (Up.zero, [])).1 x != 0)) = true := h43_2; have hor : gs.length = 0 ∨ ∃ r, gs[gs.length - 1]? = some r ∧ c r.1 x ≠ 0 := push_of h43_2; rw [gstep_push hor] at hgt; have h143 := spec143e (gs ++ [(x, [])]) (gs.length + 1) gs.length (by simp) (x, []) (by simp) (Up.d x)
     have hwk := wrap_nat (n := gs.length) (by simp only [Flat.lim]; omega)
     have hgsn : ((gs.length : Int) + 1 - 1) = (gs.length : Int) := by omega
     have hlt9 : (gs.length : Int) < (gs.length : Int) + 1 := by omega
     refine rgp 9000 [1,4,8,11,12,15,16,19,22,58,59,86] ?_; refine dr ?_; refine de 10000 ?_; refine dc id (hnm x hxm) ?_; refine dc (fun _ => 900) (h143) ?_
     refine dn ?_; refine k_nil ?_; show AK _ _ _ _ _ _; refine rg 11000 ?_; refine k_nil ?_; refine ⟨n - 1, by omega, _, ⟨?_, ?_, ?_⟩, i + 1, by omega, trivial, rfl⟩ <;> simp [*, *]
   · intro h43_2
     have h43_2 : ((((gs.length : Nat) : Int) == 0) || (c (gs.getD (gs.length - 1) (Up.zero, [])).1 x != 0)) = false := h43_2; obtain ⟨hgl0, r, hr0, hcr⟩ := same_of h43_2; rw [gstep_same hr0 hcr] at hgt; obtain ⟨k, hk⟩ : ∃ k, k + 1 = gs.length := ⟨gs.length - 1, by omega⟩
     have hkk : gs.length - 1 = k := by omega
     rw [hkk] at hgt hr0; have hkl : k < gs.length := by omega
     have hr2 : ∀ h : k < gs.length, gs[k]'h = r := fun h => (List.getElem?_eq_some_iff.1 hr0).2
     have hwk := wsub hk (by simp only [Flat.lim]; omega)
     simp only [Int.natCast_one] at hwk; have h143 := spec143e gs gs.length k rfl r hr0 (Up.d x); refine k_skip ?_; refine dr ?_; refine de 10000 ?_; refine dc id (hnm x hxm) ?_; refine dc (fun _ => 900) (h143) ?_
     refine dn ?_; refine k_nil ?_; show AK _ _ _ _ _ _; refine rg 11000 ?_; refine k_nil ?_; refine ⟨n - 1, by omega, _, ⟨?_, ?_, ?_⟩, i + 1, by omega, trivial, rfl⟩ <;> simp [*, *]
 · intro h25_1
   have hge : us.length ≤ i := by simpa using h25_1
   obtain rfl : i = us.length := by omega
   have hgs : grp c Up.d S = gs := by rw [← hgs, ← hSl, List.take_length]
   rw [hgs]; have hSt : S.take us.length = S := by rw [← hSl, List.take_length]
   refine k_exit ?_; show AK _ _ _ _ _ _; refine srp 12000 [3,4,8,11,14,15,16,19,60,86] ?_; refine ow (.tmp 14) 901 37 6 ?_; refine sq ?_; refine srp 13000 [3,4,8,10,14,15,16,19,60,86] ?_; refine k_block ?_; refine k_loop (fun n l => ∃ i, i + n = gs.length ∧ (orI ((gs.map fun g => (gfit g).2).drop i) = gerr gs) ∧ l = [(.tmp 3, .av (.fn (.func 58) [])), (.tmp 14, .av (.sl 901 (gout Up.put (gs.take i)).length 0 (gout Up.put (gs.take i)).length)), (.tmp 60, .av (.sl 900 gs.length 0 gs.length)), (.tmp 61, .av (vv (.int .i64 gs.length))), (.tmp 62, .av (vv (.int .i64 i))), (.arr 0, .arr 37 6 (S.map Up.row) 0), (.arr 900, .arr 253 8 (gs.map Up.grow) 0), (.arr 901, .arr 37 6 ((gout Up.put (gs.take i)).map Up.row) 0)]) (gs.length) hG ⟨_, ⟨by simp [gout, *], by simp, by simp⟩, 0, by simp, rfl, rfl⟩ ?_
   rintro n _ ⟨i, hin, hfa, rfl⟩; have hcm := hfa; have hol : (gout Up.put (gs.take i)).length ≤ i := by have := gout_len (put := Up.put) (gs := gs.take i); simp only [List.length_take] at this; omega
   refine srp 14000 [3,4,8,10,14,15,16,19,60,86] ?_; refine sq ?_; refine cd ?_ ?_
   · intro h63_3
     have hlt : i < gs.length := by simpa using h63_3
     obtain ⟨g, hxe⟩ : ∃ g, gs[i] = g := ⟨_, rfl⟩; have hx : gs[i]? = some g := by simp [hlt, hxe]
     have hw := wrap_succ (show i < Flat.lim by simp only [Flat.lim]; omega)
     have hgt := gout_take (put := Up.put) hx; have hgm2 : g.1 ∈ us := hgm g (List.mem_of_getElem? hx); rw [orI_drop (show (gs.map fun g => (gfit g).2)[i]? = some (gfit g).2 by simp [hx])] at hcm
     have hgx2 : ∀ h : i < gs.length, gs[i]'h = g := fun h => (List.getElem?_eq_some_iff.1 hx).2
     have hgm := hgm2; have hb1 : ((gout Up.put (gs.take i)).length + 1) * 80 ≤ 140737488355328 := by omega
     have hb2 : (gout Up.put (gs.take i)).length + 1 ≤ 140737488355328 := by omega
     refine k_skip ?_; refine sq ?_; refine k_block ?_; refine srp 15000 [3,4,8,10,14,15,16,19,60,86] ?_; refine src 16000 ?_; refine oc (fun _ => 15002) (spec144g g.1 (tsum g.2)) ?_
     refine oe 16100 ?_; refine onp [3,4,8,10,14,15,16,19,60,86] ?_; refine sq ?_; refine srp 17000 [3,4,8,10,14,15,16,19,60,86] ?_; refine cd ?_ ?_
     · intro h72_4
       have h2 : ((gfit g).2 != 0) = true := h72_4; rw [h2] at hcm; have hfin : gerr gs = (tfit (tsum g.2)).2 := by simpa [gfit] using hcm.symm
       have h2 : ((tfit (tsum g.2)).2 == 0) = false := by simpa [gfit] using h2
       refine srp 18000 [3,4,8,10,14,15,16,19,60,86] ?_; refine k_ret ?_; show retQ _ _ _ _ _ _ _; simp [*]
     · intro h72_4
       have h2 : ((gfit g).2 != 0) = false := h72_4; rw [h2] at hcm; have hnext : orI ((gs.map fun g => (gfit g).2).drop (i + 1)) = gerr gs := by simpa using hcm
       refine k_skip ?_; refine srp 19000 [3,4,8,10,14,15,16,19,60,86] ?_; refine cd ?_ ?_
       · intro h75_5
         have h3 : ((gfit g).1 != 0) = true := h75_5; rw [h3] at hgt; have hgt : gout Up.put (gs.take (i + 1)) = (gout Up.put (gs.take i)) ++ [Up.put g.1 (tfit (tsum g.2)).1] := hgt; have hgfe : gfit g = tfit (tsum g.2) := rfl; refine rc 20000 ?_; refine oc id (hput g.1 hgm (tfit (tsum g.2)).1) ?_; refine oe 20100 ?_; refine on ?_; refine k_nil ?_; show AK _ _ _ _ _ _; refine rg 21000 ?_; refine k_nil ?_; refine ⟨n - 1, by omega, _, ⟨?_, ?_, ?_⟩, i + 1, by omega, hnext, rfl⟩ <;> simp [*, *]
       · intro h75_5
         have h3 : ((gfit g).1 != 0) = false := h75_5; rw [h3] at hgt; have hgt : gout Up.put (gs.take (i + 1)) = (gout Up.put (gs.take i)) := by rw [hgt]; simp
         refine k_skip ?_; refine k_nil ?_; show AK _ _ _ _ _ _; refine rg 21000 ?_; refine k_nil ?_; refine ⟨n - 1, by omega, _, ⟨?_, ?_, ?_⟩, i + 1, by omega, hnext, rfl⟩ <;> simp [*, *]
   · intro h63_3
     have hge : gs.length ≤ i := by simpa using h63_3
     obtain rfl : i = gs.length := by omega
     rw [List.drop_eq_nil_of_le (by simp)] at hcm
     have hge0 : gerr gs = 0 := hcm.symm; have hgtk : gs.take gs.length = gs := List.take_length ..; have hgo : ((gout Up.put gs).map Up.row).take (gout Up.put gs).length = (gout Up.put gs).map Up.row := List.take_of_length_le (by simp)
     refine k_exit ?_; show AK _ _ _ _ _ _; refine srp 22000 [8,10] ?_; refine fz 900 ?_; refine fz 901 ?_; refine k_ret ?_; show retQ _ _ _ _ _ _ _; simp [*]
end
end Go.Proofs
end
section
set_option linter.unusedVariables false
set_option linter.unusedSimpArgs false
namespace Go.Proofs
open Go.Flat
section
variable {α β : Type}
structure CmpA (c : α → α → Int) : Prop where
 anti : ∀ x y, c y x = - c x y
 tr : ∀ x y z, c x y ≤ 0 → c y z ≤ 0 → c x z ≤ 0
theorem CmpA.cmp {c : α → α → Int} (h : CmpA c) : Cmp c := by
 refine ⟨⟨fun x => ?_, fun x y hxy => ?_, fun x y z h1 h2 => ?_⟩, fun x y => ?_⟩
 · have := h.anti x x; simp only [ltC]; simp; omega
 · have := h.anti x y; simp only [ltC, decide_eq_true_eq] at hxy; simp only [ltC]; simp; omega
 · have a1 := h.anti x y
   have a2 := h.anti y z; have a3 := h.anti x z; simp only [ltC, decide_eq_false_iff_not] at h1 h2; simp only [ltC, decide_eq_false_iff_not]; have := h.tr x y z (by omega) (by omega)
   omega
 · have := h.anti x y
   simp only [ltC, decide_eq_false_iff_not]; omega
theorem CmpA.comap {c : β → β → Int} (h : CmpA c) (f : α → β) : CmpA (fun x y => c (f x) (f y)) := ⟨fun x y => h.anti _ _, fun x y z => h.tr _ _ _⟩
def lex2 (f g : α → α → Int) (x y : α) : Int := if f x y != 0 then f x y else g x y
theorem CmpA.refl {c : α → α → Int} (h : CmpA c) (x : α) : c x x = 0 := by have := h.anti x x; omega
theorem CmpA.lex {f g : α → α → Int} (hf : CmpA f) (hg : CmpA g) : CmpA (lex2 f g) := by
 refine ⟨fun x y => ?_, fun x y z h1 h2 => ?_⟩
 · have a := hf.anti x y
   have b := hg.anti x y; simp only [lex2, bne_iff_ne, ne_eq, ite_not]; split <;> split <;> omega
 · have t1 := hf.tr x y z
   have t2 := hf.tr z x y; have t3 := hf.tr y z x; have t4 := hg.tr x y z; have a1 := hf.anti x y; have a2 := hf.anti y z; have a3 := hf.anti x z; simp only [lex2, bne_iff_ne, ne_eq, ite_not] at h1 h2 ⊢; split at h1 <;> split at h2 <;> split <;> omega
theorem cmpI_ok : CmpA cmpI := by
 refine ⟨fun x y => ?_, fun x y z h1 h2 => ?_⟩
 · unfold cmpI; repeat' split <;> try omega
 · unfold cmpI at h1 h2 ⊢
   repeat' split at h1 <;> try omega
   all_goals (repeat' split at h2) <;> try omega
   all_goals (repeat' split) <;> omega
theorem cmpBy_cons (f : α → α → Int) (x y : α) (xs ys : List α) : cmpBy f (x :: xs) (y :: ys) = if f x y != 0 then f x y else cmpBy f xs ys := rfl
theorem cmpBy_ok {f : α → α → Int} (h : CmpA f) : CmpA (cmpBy f) := by
 have anti : ∀ xs ys : List α, cmpBy f ys xs = - cmpBy f xs ys := by
   intro xs
   induction xs with
   | nil => intro ys; cases ys <;> rfl
   | cons x xs ih =>
     intro ys
     cases ys with
     | nil => rfl
     | cons y ys =>
       have a := h.anti x y; have b := ih ys; simp only [cmpBy_cons, bne_iff_ne, ne_eq, ite_not]; split <;> split <;> omega
 refine ⟨anti, ?_⟩; intro xs
 induction xs with
 | nil =>
   intro ys zs h1 h2
   cases zs with
   | nil => exact Int.le_refl _
   | cons z zs => show (-1 : Int) ≤ 0; omega
 | cons x xs ih =>
   intro ys zs h1 h2
   cases ys with
   | nil => have : cmpBy f (x :: xs) [] = 1 := rfl; omega
   | cons y ys =>
     cases zs with
     | nil => have : cmpBy f (y :: ys) [] = 1 := rfl; omega
     | cons z zs =>
       have t1 := h.tr x y z; have t2 := h.tr z x y; have t3 := h.tr y z x; have t4 := ih ys zs; have a1 := h.anti x y; have a2 := h.anti y z; have a3 := h.anti x z; simp only [cmpBy_cons, bne_iff_ne, ne_eq, ite_not] at h1 h2 ⊢; split at h1 <;> split at h2 <;> split <;> omega
theorem cmpBy_eq {f : α → α → Int} {p : α → Prop} (h : ∀ x y, p x → p y → (f x y = 0 ↔ x = y)) : ∀ xs ys : List α, (∀ x ∈ xs, p x) → (∀ y ∈ ys, p y) → (cmpBy f xs ys = 0 ↔ xs = ys)
 | [], [], _, _ => by simp [cmpBy]
 | [], y :: ys, _, _ => by simp [cmpBy]
 | x :: xs, [], _, _ => by simp [cmpBy]
 | x :: xs, y :: ys, hx, hy => by
   have ih := cmpBy_eq h xs ys (fun z hz => hx z (by simp [hz])) (fun z hz => hy z (by simp [hz]))
   have e := h x y (hx x (by simp)) (hy y (by simp))
   rw [cmpBy_cons, List.cons.injEq]
   by_cases hq : f x y = 0
   · simp only [hq, bne_self_eq_false, Bool.false_eq_true, if_false]
     rw [ih]; simp [e.1 hq]
   · have : (f x y != 0) = true := by simpa using hq
     rw [this, if_pos rfl]; constructor
     · intro h2; exact absurd h2 hq
     · rintro ⟨h2, _⟩; exact absurd (e.2 h2) hq
end
theorem cmpI_eq (x y : Int) : cmpI x y = 0 ↔ x = y := by
 unfold cmpI
 repeat' split <;> try omega
def cmpB (a b : UInt8) : Int := cmpI a.toNat b.toNat
theorem cmpB_ok : CmpA cmpB := cmpI_ok.comap fun a : UInt8 => (a.toNat : Int)
theorem cmpB_eq (a b : UInt8) : cmpB a b = 0 ↔ a = b := by
 rw [cmpB, cmpI_eq]; constructor
 · intro h; exact UInt8.toNat_inj.1 (by omega)
 · rintro rfl; rfl
theorem less_cmp : ∀ a b : List UInt8, cmpBy cmpB a b = if Op.bytesLess a b then -1 else if !(Op.bytesLess a b || a == b) then 1 else 0
 | [], [] => by simp [cmpBy, Op.bytesLess]
 | [], y :: b => by simp [cmpBy, Op.bytesLess]
 | x :: a, [] => by simp [cmpBy, Op.bytesLess]
 | x :: a, y :: b => by
   have ih := less_cmp a b; rw [cmpBy_cons, Op.bytesLess]
   by_cases h1 : x < y
   · have h1' : x.toNat < y.toNat := h1
     have e : cmpB x y = -1 := by unfold cmpB cmpI; rw [if_pos (by omega)]
     simp [e, h1]
   · by_cases h2 : x = y
     · subst h2
       have e : cmpB x x = 0 := (cmpB_eq x x).2 rfl; simp only [e, bne_self_eq_false, Bool.false_eq_true, if_false]; rw [ih]; simp
     · have h1' : ¬ x.toNat < y.toNat := h1
       have h2' : x.toNat ≠ y.toNat := fun e => h2 (UInt8.toNat_inj.1 e)
       have e : cmpB x y = 1 := by unfold cmpB cmpI; rw [if_neg (by omega), if_pos (by omega)]
       simp [e, h1, h2]
theorem cmpS_by (x y : ByteArray) : cmpS x y = cmpBy cmpB x.toList y.toList := by rw [less_cmp]; rfl
theorem cmpS_ok : CmpA cmpS := by
 have : cmpS = fun x y : ByteArray => cmpBy cmpB x.toList y.toList := by funext x y; exact cmpS_by x y
 rw [this]; exact (cmpBy_ok cmpB_ok).comap fun x : ByteArray => x.toList
theorem cmpS_list (x y : ByteArray) : cmpS x y = 0 ↔ x.toList = y.toList := by
 rw [cmpS_by]; exact cmpBy_eq (p := fun _ => True) (fun a b _ _ => cmpB_eq a b) _ _ (fun _ _ => trivial) (fun _ _ => trivial)
def Val.kt (v : Val) : Int := if v.t then 1 else 0
def Val.ks (v : Val) : ByteArray := if v.t then v.s else ⟨#[]⟩
def Val.kn (v : Val) : Int := if v.t then 0 else v.n
theorem Val.cmp_lex (a b : Val) : a.cmp b = lex2 (fun x y : Val => cmpI x.kt y.kt) (lex2 (fun x y : Val => cmpS x.ks y.ks) (fun x y : Val => cmpI x.kn y.kn)) a b := by
 have e0 : cmpI 0 0 = 0 := rfl; have e1 : cmpI 1 1 = 0 := rfl; have e2 : cmpI 0 1 = -1 := rfl; have e3 : cmpI 1 0 = 1 := rfl; have e4 : cmpS ⟨#[]⟩ ⟨#[]⟩ = 0 := (cmpS_list _ _).2 rfl; obtain ⟨ta, na, sa⟩ := a; obtain ⟨tb, nb, sb⟩ := b; cases ta <;> cases tb <;> simp [Val.cmp, lex2, Val.kt, Val.ks, Val.kn, e0, e1, e2, e3, e4]
theorem Val.cmp_ok : CmpA Val.cmp := by
 have : Val.cmp = lex2 (fun x y : Val => cmpI x.kt y.kt) (lex2 (fun x y : Val => cmpS x.ks y.ks) (fun x y : Val => cmpI x.kn y.kn)) := by funext a b; exact Val.cmp_lex a b
 rw [this]; exact (cmpI_ok.comap Val.kt).lex ((cmpS_ok.comap Val.ks).lex (cmpI_ok.comap Val.kn))
theorem toList_inj {x y : ByteArray} (h : x.toList = y.toList) : x = y := by
 apply ByteArray.ext; rw [ByteArray.toList_eq, ByteArray.toList_eq] at h; exact Array.ext' h
theorem Val.cmp_eq (a b : Val) (ha : a.right = true) (hb : b.right = true) : a.cmp b = 0 ↔ a = b := by
 obtain ⟨ta, na, sa⟩ := a; obtain ⟨tb, nb, sb⟩ := b; cases ta <;> cases tb <;> simp [Val.right] at ha hb <;> simp [Val.cmp, cmpI_eq, cmpS_list]
 · intro _; exact toList_inj (by rw [ha, hb])
 · constructor
   · intro h; exact ⟨by rw [ha.1, hb.1], toList_inj h⟩
   · rintro ⟨_, rfl⟩; rfl
theorem rowsC_ok : CmpA rowsC := cmpBy_ok Val.cmp_ok
theorem cmpT_lex (a b : Tm) : cmpT a b = lex2 (fun x y : Tm => cmpI x.e y.e) (fun x y : Tm => cmpBy cmpI [x.a, x.b] [y.a, y.b]) a b := by
 unfold cmpT lex2
 by_cases h : (a.a == b.a && a.b == b.b) = true
 · rw [if_pos h]
   simp only [Bool.and_eq_true, beq_iff_eq] at h; have e1 : cmpI b.a b.a = 0 := (cmpI_eq _ _).2 rfl; have e2 : cmpI b.b b.b = 0 := (cmpI_eq _ _).2 rfl; simp only [cmpBy, h.1, h.2, e1, e2]
   by_cases q : cmpI a.e b.e = 0 <;> simp [q]
 · rw [if_neg h]
   simp only [orI]
   by_cases q : cmpI a.e b.e = 0
   · simp [q]
     intro h2; exact h2.symm
   · simp [q]
theorem cmpT_ok : CmpA cmpT := by
 have : cmpT = lex2 (fun x y : Tm => cmpI x.e y.e) (fun x y : Tm => cmpBy cmpI [x.a, x.b] [y.a, y.b]) := by funext a b; exact cmpT_lex a b
 rw [this]; exact (cmpI_ok.comap Tm.e).lex ((cmpBy_ok cmpI_ok).comap fun t : Tm => [t.a, t.b])
theorem cmpT_eq (a b : Tm) : cmpT a b = 0 ↔ a = b := by
 rw [cmpT_lex]; unfold lex2; have e := cmpBy_eq (p := fun _ => True) (fun a b _ _ => cmpI_eq a b) [a.a, a.b] [b.a, b.b] (fun _ _ => trivial) (fun _ _ => trivial)
 have e2 := cmpI_eq a.e b.e; obtain ⟨ae, aa, ab⟩ := a; obtain ⟨be, ba, bb⟩ := b; simp only [Tm.mk.injEq]; simp only at e e2
 by_cases q : cmpI ae be = 0
 · simp only [q, bne_self_eq_false, Bool.false_eq_true, if_false]
   rw [e]; simp [e2.1 q]
 · have : (cmpI ae be != 0) = true := by simpa using q
   rw [this, if_pos rfl]; constructor
   · intro h2; exact absurd h2 q
   · rintro ⟨h2, _⟩; exact absurd (e2.2 h2) q
theorem cmpU_lex (x y : Up) : cmpU x y = lex2 (fun x y : Up => rowsC x.k y.k) (lex2 (fun x y : Up => rowsC x.r y.r) (fun x y : Up => cmpT x.t y.t)) x y := by
 unfold cmpU lex2; simp only [orI]
 by_cases q1 : rowsC x.k y.k = 0 <;> by_cases q2 : rowsC x.r y.r = 0 <;> by_cases q3 : cmpT x.t y.t = 0 <;> simp [q1, q2, q3]
theorem cmpU_ok : CmpA cmpU := by
 have : cmpU = lex2 (fun x y : Up => rowsC x.k y.k) (lex2 (fun x y : Up => rowsC x.r y.r) (fun x y : Up => cmpT x.t y.t)) := by funext a b; exact cmpU_lex a b
 rw [this]; exact (rowsC_ok.comap Up.k).lex ((rowsC_ok.comap Up.r).lex (cmpT_ok.comap Up.t))
theorem ordU : Ord (ltU cmpU) := cmpU_ok.cmp.ord
end Go.Proofs
end
section
namespace Go.Proofs
open Go.Flat
set_option maxRecDepth 100000
set_option linter.unusedVariables false
set_option linter.unusedSimpArgs false
attribute [local simp] Bool.and_assoc Bool.or_assoc evalG evalX efD skF guardG guardL isCall stepL evalOp ev evs lk tmpsL app AV.ok fresh vv putCells insV ins del putL place Go.Flat.look fillC fillR getCells loadF storeF binF scalarBin intBin strBin isShift shiftBin unF lenF maxF minF rowsF appendF builtinF idxF natOf sliceP sliceF optEv Flat.cut overwrite toPV toPVs constAV scalarC scalarCs AV.cells TI.isAgg allSome andAll scalarEq buildable Go.Flat.lim retQ resL resAll resOne PartOf noTmp closedIn refs refs.refsL isSomeV hasB ids leA leA.leL renA renA.renL callB refsAll backL dropIds renS LiesAt injB ownB freshB memN locId insAll leA_refl leL_refl okS frzS frzA frzA.frzL evalD feet fine updCells cellsFrom memP footRf footWf noTmpU updIds opOps opIds idsA footR footW guardTs opTs dstTs callR callW renLoc renC inBlockQ thenQ Value.oneCell' IntKind.bits IntKind.signed
section
def Up.sms (us : List Up) : Prop := ∀ u ∈ us, u.sm
theorem Up.sm_lim {u : Up} (h : u.sm) : u.k.length ≤ Flat.lim ∧ u.r.length ≤ Flat.lim := ⟨Nat.le_trans h.1 (by decide), Nat.le_trans h.2 (by decide)⟩
theorem spec87s {x y : Up} (hx : x.sm) (hy : y.sm) : Flat.Sp Tryz.prog 18 [x.av, y.av] [] (vv (.int .i64 (cmpU x y))) [] := spec87 x y (Up.sm_lim hx).1 (Up.sm_lim hy).1 (Up.sm_lim hx).2 (Up.sm_lim hy).2
def piles (ls : List (List Up)) : List (Up × List Int) := grp cmpU Up.d (isrt (ltU cmpU) (cat ls))
def consR (ls : List (List Up)) : List Up × Int := if orI (ls.map chkUs) != 0 then ([], orI (ls.map chkUs)) else (if gerr (piles ls) != 0 then [] else gout Up.put (piles ls), gerr (piles ls))
theorem mem_cat {ls : List (List Up)} {u : Up} : u ∈ cat ls ↔ ∃ l ∈ ls, u ∈ l := List.mem_flatten
theorem gout_sms {gs : List (Up × List Int)} (h : ∀ r ∈ gs, r.1.sm) : Up.sms (gout Up.put gs) := by
 intro u hu; simp only [gout, List.mem_filterMap] at hu; obtain ⟨r, hr, h2⟩ := hu; split at h2
 · simp only [Option.some.injEq] at h2; subst h2; exact h r hr
 · simp at h2
theorem piles_mem {ls : List (List Up)} : ∀ r ∈ piles ls, r.1 ∈ cat ls := fun r hr => (isrt_perm _).mem_iff.1 (grp_mem cmpU Up.d _ r hr)
theorem piles_len (ls : List (List Up)) : (piles ls).length ≤ (cat ls).length := by
 have := grp_len (c := cmpU) (nm := Up.d) (l := isrt (ltU cmpU) (cat ls)) (isrt (ltU cmpU) (cat ls)).length; rw [List.take_length, isrt_length] at this; exact this
theorem cons_len (ls : List (List Up)) : (consR ls).1.length ≤ (cat ls).length := by
 unfold consR; split
 · simp
 · simp only
   split
   · simp
   · exact Nat.le_trans gout_len (piles_len ls)
theorem cons_sms {ls : List (List Up)} (h : ∀ l ∈ ls, Up.sms l) : Up.sms (consR ls).1 := by
 unfold consR; split
 · intro u hu; simp at hu
 · simp only
   split
   · intro u hu; simp at hu
   · refine gout_sms fun r hr => ?_
     obtain ⟨l, h1, h2⟩ := mem_cat.1 (piles_mem r hr); exact h l h1 _ h2
attribute [local simp] lrow in
theorem spec45 (ls : List (List Up)) (hlen : ls.length ≤ Cap) (hc : (cat ls).length ≤ Cap) (hsm : ∀ l ∈ ls, Up.sms l) : Flat.Sp Tryz.prog 17 [.p (.ps (ls.map lrow))] [] (.tup [.p (.ps ((consR ls).1.map Up.row)), vv (.int .i64 (consR ls).2)]) [] := by
 refine sk Tryz.func17 ?_; intro F G hn hG; have hcap : Cap ≤ Flat.lim := by decide
 have hcm : Up.sms (cat ls) := fun u hu => by obtain ⟨l, h1, h2⟩ := mem_cat.1 hu; exact hsm l h1 u h2
 have hol : (if gerr (piles ls) != 0 then [] else gout Up.put (piles ls)).length ≤ Cap := by
   split
   · simp
   · exact Nat.le_trans gout_len (Nat.le_trans (piles_len ls) hc)
 have hos : Up.sms (if gerr (piles ls) != 0 then [] else gout Up.put (piles ls)) := by
   split
   · intro u hu; simp at hu
   · exact gout_sms fun r hr => hcm _ (piles_mem r hr)
 refine srp 1000 [0,1,2,4,5,30] ?_; refine sq ?_; refine srp 2000 [0,1,2,4,5,30] ?_; refine k_block ?_; refine k_loop (fun n l => ∃ i, i + n = ls.length ∧ (orI ((ls.map chkUs).drop i) = orI (ls.map chkUs)) ∧ l = [(.tmp 0, .av (.p (.ps (ls.map lrow)))), (.tmp 9, .av (.p (.ps (ls.map lrow)))), (.tmp 10, .av (vv (.int .i64 ls.length))), (.tmp 11, .av (vv (.int .i64 i)))]) (ls.length) hG ⟨_, ⟨by simp, by simp, by simp⟩, 0, by simp, rfl, rfl⟩ ?_
 rintro n _ ⟨i, hin, hfa, rfl⟩; have hcm2 := hfa; refine srp 3000 [0,1,2,4,5,30] ?_; refine sq ?_; refine cd ?_ ?_
 · intro h12_1
   have hlt : i < ls.length := by simpa using h12_1
   obtain ⟨x, hxe⟩ : ∃ x, ls[i] = x := ⟨_, rfl⟩; have hx : ls[i]? = some x := by simp [hlt, hxe]
   have hw := wrap_succ (show i < Flat.lim by omega)
   have hxl : x.length ≤ Cap := by have := cat_le (ls := ls) (i + 1); rw [cat_succ hx, List.length_append] at this; omega
   have hxs := hsm x (List.mem_of_getElem? hx); rw [orI_drop (show (ls.map chkUs)[i]? = some (chkUs x) by simp [hx])] at hcm2
   refine k_skip ?_; refine sq ?_; refine k_block ?_; refine srp 4000 [0,1,2,4,5,30] ?_; refine src 5000 ?_; refine oc id (spec80 x (by omega) hxs) ?_
   refine oe 5100 ?_; refine onp [0,1,2,4,5,30] ?_; refine srp 6000 [0,1,2,4,5,30] ?_; refine cd ?_ ?_
   · intro h18_2
     have h2 : (chkUs x != 0) = true := h18_2; rw [h2] at hcm2; have hfin : orI (ls.map chkUs) = chkUs x := by simpa using hcm2.symm
     have hcR : consR ls = ([], chkUs x) := by rw [consR, hfin, h2]; rfl
     refine srp 7000 [0,1,2,4,5,30] ?_; refine k_ret ?_; show retQ _ _ _ _ _ _ _; simp [*]
   · intro h18_2
     have h2 : (chkUs x != 0) = false := h18_2; rw [h2] at hcm2; have hnext : orI ((ls.map chkUs).drop (i + 1)) = orI (ls.map chkUs) := by simpa using hcm2
     refine k_skip ?_; refine k_nil ?_; show AK _ _ _ _ _ _; refine rg 8000 ?_; refine k_nil ?_; refine ⟨n - 1, by omega, _, ⟨?_, ?_, ?_⟩, i + 1, by omega, hnext, rfl⟩ <;> simp [*]
 · intro h12_1
   have hge : ls.length ≤ i := by simpa using h12_1
   obtain rfl : i = ls.length := by omega
   rw [List.drop_eq_nil_of_le (by simp)] at hcm2
   have hfin : orI (ls.map chkUs) = 0 := hcm2.symm; have hcR : consR ls = ((if gerr (piles ls) != 0 then [] else gout Up.put (piles ls)), gerr (piles ls)) := by rw [consR, hfin]; rfl
   have h85 : Flat.Sp Tryz.prog 55 [.sl 0 (cat ls).length 0 (cat ls).length, .fn (.func 18) [], .fn (.func 57) [], .fn (.func 58) []] [(.arr 0, .arr 37 6 ((cat ls).map Up.row) 0)] (.tup [.p (.ps ((if gerr (piles ls) != 0 then [] else gout Up.put (piles ls)).map Up.row)), vv (.int .i64 (gerr (piles ls)))]) [(.arr 0, .arr 37 6 ((isrt (ltU cmpU) (cat ls)).map Up.row) 0)] := spec85 cmpU ordU (cat ls) hc (fun x hx y hy => spec87s (hcm x hx) (hcm y hy)) (fun x _ => spec88 x) (fun x _ n => spec89 x n)
   have h90 := spec90 (if gerr (piles ls) != 0 then [] else gout Up.put (piles ls)) hol hos
   refine k_exit ?_; show AK _ _ _ _ _ _; refine src 9000 ?_; refine oc id (spec86 ls hlen hc) ?_; refine oc (fun _ => 900) (h85) ?_
   refine oe 9200 ?_; refine onp [2,4,7,9,27,30] ?_; refine src 10000 ?_; refine oc id (h90) ?_; refine oe 10100 ?_; refine onp [2,4] ?_; refine k_ret ?_; show retQ _ _ _ _ _ _ _; simp [*]
abbrev Fa := Bool × Tm
def noteR (f : Fa) (t : Tm) : Fa := if !f.1 || decide (cmpT t f.2 < 0) then (true, t) else f
attribute [local simp] Tm.av noteR in
theorem spec82 (us : List Up) (f : Fa) (t : Tm) : Flat.Sp Tryz.prog 86 [.ptr 0 0, t.av] [(.var 0, .n 5), (.cell 0 0, .av (vv (.bool f.1))), (.cell 0 1, .av (vv (.int .u64 f.2.e))), (.cell 0 2, .av (vv (.int .u64 f.2.a))), (.cell 0 3, .av (vv (.int .u64 f.2.b))), (.cell 0 4, .av (.p (.ps (us.map Up.row))))] (.tup []) [(.var 0, .n 5), (.cell 0 0, .av (vv (.bool (noteR f t).1))), (.cell 0 1, .av (vv (.int .u64 (noteR f t).2.e))), (.cell 0 2, .av (vv (.int .u64 (noteR f t).2.a))), (.cell 0 3, .av (vv (.int .u64 (noteR f t).2.b))), (.cell 0 4, .av (.p (.ps (us.map Up.row))))] := by
 refine sk Tryz.func86 ?_; intro F G hn hG; refine srp 1000 [0,1,3,25] ?_; refine sq ?_; refine cv [(.tmp 17, vv (.bool (!f.1 || decide (cmpT t f.2 < 0))))] ?_ ?_
 · skip
   rcases h0 : (f.1 : Bool) with _ | _
   · skip
     refine dr ?_; refine de 2000 ?_; iterate 5 (first | refine dp 2450 ?_ | refine ds ?_ | refine dt 2450 ?_)
     refine ds ?_; first | refine dp 2650 ?_ | refine ds ?_ | refine dt 2650 ?_
     refine de 2700 ?_; refine dn ?_; refine k_nil ?_; refine ⟨rfl, ?_, ?_, ?_⟩ <;> simp [*]
   · skip
     refine dr ?_; refine de 1002000 ?_; iterate 5 (first | refine dp 1002450 ?_ | refine ds ?_ | refine dt 1002450 ?_)
     refine dc id (spec140 t f.2) ?_; first | refine dp 1002650 ?_ | refine ds ?_ | refine dt 1002650 ?_
     refine de 1002700 ?_; refine dn ?_; refine k_nil ?_; refine ⟨rfl, ?_, ?_, ?_⟩ <;> simp [*]
 refine pr [0,1,3,4,17,25] ?_; refine cd ?_ ?_
 · intro h17_1
   have h17_1 : (!f.1 || decide (cmpT t f.2 < 0)) = true := h17_1; have hn2 : noteR f t = (true, t) := by rw [noteR, if_pos h17_1]
   refine dr ?_; refine de 3000 ?_; refine dn ?_; refine k_nil ?_; show retQ _ _ _ _ _ _ _; simp [*]
 · intro h17_1
   have h17_1 : (!f.1 || decide (cmpT t f.2 < 0)) = false := h17_1; have hn2 : noteR f t = f := by rw [noteR, h17_1]; rfl
   refine k_skip ?_; refine k_nil ?_; show retQ _ _ _ _ _ _ _; simp [*]
attribute [local simp] Tm.av noteR in
theorem spec82s (us : List Up) (f : Fa) (t : Tm) : Flat.Sp Tryz.prog 86 [.ptr 0 0, t.av] [(.var 0, .n 5), (.cell 0 0, .av (vv (.bool f.1))), (.cell 0 1, .av (vv (.int .u64 f.2.e))), (.cell 0 2, .av (vv (.int .u64 f.2.a))), (.cell 0 3, .av (vv (.int .u64 f.2.b))), (.cell 0 4, .av (.sl 1 us.length 0 us.length)), (.arr 1, .arr 37 6 (us.map Up.row) 0)] (.tup []) [(.var 0, .n 5), (.cell 0 0, .av (vv (.bool (noteR f t).1))), (.cell 0 1, .av (vv (.int .u64 (noteR f t).2.e))), (.cell 0 2, .av (vv (.int .u64 (noteR f t).2.a))), (.cell 0 3, .av (vv (.int .u64 (noteR f t).2.b))), (.cell 0 4, .av (.sl 1 us.length 0 us.length)), (.arr 1, .arr 37 6 (us.map Up.row) 0)] := by
 refine sk Tryz.func86 ?_; intro F G hn hG; refine srp 1000 [0,1,3,25] ?_; refine sq ?_; refine cv [(.tmp 17, vv (.bool (!f.1 || decide (cmpT t f.2 < 0))))] ?_ ?_
 · skip
   rcases h0 : (f.1 : Bool) with _ | _
   · skip
     refine dr ?_; refine de 2000 ?_; iterate 5 (first | refine dp 2450 ?_ | refine ds ?_ | refine dt 2450 ?_)
     refine ds ?_; first | refine dp 2650 ?_ | refine ds ?_ | refine dt 2650 ?_
     refine de 2700 ?_; refine dn ?_; refine k_nil ?_; refine ⟨rfl, ?_, ?_, ?_⟩ <;> simp [*]
   · skip
     refine dr ?_; refine de 1002000 ?_; iterate 5 (first | refine dp 1002450 ?_ | refine ds ?_ | refine dt 1002450 ?_)
     refine dc id (spec140 t f.2) ?_; first | refine dp 1002650 ?_ | refine ds ?_ | refine dt 1002650 ?_
     refine de 1002700 ?_; refine dn ?_; refine k_nil ?_; refine ⟨rfl, ?_, ?_, ?_⟩ <;> simp [*]
 refine pr [0,1,3,4,17,25] ?_; refine cd ?_ ?_
 · intro h17_1
   have h17_1 : (!f.1 || decide (cmpT t f.2 < 0)) = true := h17_1; have hn2 : noteR f t = (true, t) := by rw [noteR, if_pos h17_1]
   refine dr ?_; refine de 3000 ?_; refine dn ?_; refine k_nil ?_; show retQ _ _ _ _ _ _ _; simp [*]
 · intro h17_1
   have h17_1 : (!f.1 || decide (cmpT t f.2 < 0)) = false := h17_1; have hn2 : noteR f t = f := by rw [noteR, h17_1]; rfl
   refine k_skip ?_; refine k_nil ?_; show retQ _ _ _ _ _ _ _; simp [*]
attribute [local simp] Up.row in
theorem spec83 (f : Fa) (us vs : List Up) (h : us.length + vs.length ≤ Cap) : Flat.Sp Tryz.prog 87 [.ptr 0 0, .p (.ps (vs.map Up.row))] [(.var 0, .n 5), (.cell 0 0, .av (vv (.bool f.1))), (.cell 0 1, .av (vv (.int .u64 f.2.e))), (.cell 0 2, .av (vv (.int .u64 f.2.a))), (.cell 0 3, .av (vv (.int .u64 f.2.b))), (.cell 0 4, .av (.sl 1 us.length 0 us.length)), (.arr 1, .arr 37 6 (us.map Up.row) 0)] (.tup []) [(.var 0, .n 5), (.cell 0 0, .av (vv (.bool f.1))), (.cell 0 1, .av (vv (.int .u64 f.2.e))), (.cell 0 2, .av (vv (.int .u64 f.2.a))), (.cell 0 3, .av (vv (.int .u64 f.2.b))), (.cell 0 4, .av (.sl 1 (us ++ vs).length 0 (us ++ vs).length)), (.arr 1, .arr 37 6 ((us ++ vs).map Up.row) 0)] := by
 refine sk Tryz.func87 ?_; intro F G hn hG; simp only [Cap] at h; have hb1 : (us.length + vs.length) * 80 ≤ 140737488355328 := by omega
 have hb2 : us.length + vs.length ≤ 140737488355328 := by omega
 refine rg 1000 ?_; refine k_nil ?_; show retQ _ _ _ _ _ _ _; simp [*]
end
section
def alk (x : Up) : List Up → Nat
 | [] => 0
 | y :: r => if cmpU x y == 0 then alk x r + 1 else 0
theorem alk_le (x : Up) : ∀ r : List Up, alk x r ≤ r.length
 | [] => Nat.le_refl _
 | y :: r => by have := alk_le x r; unfold alk; split <;> simp <;> omega
theorem alk_of {x : Up} : ∀ (r : List Up) (k : Nat), k ≤ r.length → (∀ i y, i < k → r[i]? = some y → cmpU x y = 0) → (k = r.length ∨ ∃ y, r[k]? = some y ∧ cmpU x y ≠ 0) → alk x r = k
 | [], k, h, _, _ => by simp at h; subst h; rfl
 | y :: r, 0, _, _, h2 => by
   rcases h2 with h2 | ⟨z, h2, h3⟩
   · simp at h2
   · simp at h2; subst h2
     rw [alk, if_neg (by simpa using h3)]
 | y :: r, k + 1, h, h1, h2 => by
   have e := h1 0 y (by omega) (by simp)
   rw [alk, if_pos (by simpa using e)]
   congr 1; exact alk_of r k (by simpa using h) (fun i z hi hz => h1 (i + 1) z (by omega) (by simpa using hz)) (by simpa using h2)
def pcs (o : List Up) (f : Fa) : List Up → List Up × Fa
 | [] => (o, f)
 | x :: r => pcs (o ++ (consR [x :: r.take (alk x r)]).1) (if (consR [x :: r.take (alk x r)]).2 != 0 then noteR f x.t else f) (r.drop (alk x r))
termination_by l => l.length
decreasing_by simp only [List.length_drop, List.length_cons]; omega
theorem pcs_step {o : List Up} {f : Fa} {r : List Up} {x : Up} {j : Nat} (h0 : r[0]? = some x) (h1 : 1 ≤ j) (h2 : j ≤ r.length) (h3 : ∀ i y, 1 ≤ i → i < j → r[i]? = some y → cmpU x y = 0) (h4 : j = r.length ∨ ∃ y, r[j]? = some y ∧ cmpU x y ≠ 0) :
   pcs o f r = pcs (o ++ (consR [r.take j]).1) (if (consR [r.take j]).2 != 0 then noteR f x.t else f) (r.drop j) := by
 cases r with
 | nil => simp at h0
 | cons z r =>
   simp at h0; subst h0; obtain ⟨k, rfl⟩ : ∃ k, j = k + 1 := ⟨j - 1, by omega⟩
   have e : alk z r = k := alk_of r k (by simpa using h2) (fun i y hi hy => h3 (i + 1) y (by omega) (by omega) (by simpa using hy)) (by simpa using h4)
   rw [pcs, e]; rfl
theorem pcs_nil (o : List Up) (f : Fa) : pcs o f [] = (o, f) := by rw [pcs]
theorem cat_one (l : List Up) : cat [l] = l := by simp [cat]
def doneR (f : Fa) (us : List Up) : List Up × Fa := if (consR [us]).2 != 0 then pcs [] f (isrt (ltU cmpU) us) else ((consR [us]).1, f)
def Tm.zero : Tm := ⟨0, 0, 0⟩
attribute [local simp] Up.row Tm.av lrow Up.av in
set_option maxHeartbeats 1000000 in
theorem spec141 (f : Fa) (us : List Up) (hus : us.length ≤ Cap) (hsm : Up.sms us) : Flat.Sp Tryz.prog 179 [.ptr 0 0] [(.var 0, .n 5), (.cell 0 0, .av (vv (.bool f.1))), (.cell 0 1, .av (vv (.int .u64 f.2.e))), (.cell 0 2, .av (vv (.int .u64 f.2.a))), (.cell 0 3, .av (vv (.int .u64 f.2.b))), (.cell 0 4, .av (.p (.ps (us.map Up.row))))] (.p (.ps ((pcs [] f (isrt (ltU cmpU) us)).1.map Up.row))) [(.var 0, .n 5), (.cell 0 0, .av (vv (.bool (pcs [] f (isrt (ltU cmpU) us)).2.1))), (.cell 0 1, .av (vv (.int .u64 (pcs [] f (isrt (ltU cmpU) us)).2.2.e))), (.cell 0 2, .av (vv (.int .u64 (pcs [] f (isrt (ltU cmpU) us)).2.2.a))), (.cell 0 3, .av (vv (.int .u64 (pcs [] f (isrt (ltU cmpU) us)).2.2.b))), (.cell 0 4, .av (.p (.ps (us.map Up.row))))] := by
 refine sk Tryz.func179 ?_; intro F G hn hG; have hcap : Cap ≤ Flat.lim := by decide
 have hcap2 : Cap = 1073741824 := rfl; obtain ⟨S, hS⟩ : ∃ S, isrt (ltU cmpU) us = S := ⟨_, rfl⟩; have hSl : S.length = us.length := by rw [← hS, isrt_length]
 have hSs : Up.sms S := fun u hu => hsm u ((isrt_perm (lt := ltU cmpU) us).mem_iff.1 (by rw [hS]; exact hu))
 rw [hS]; have h142 := spec142 cmpU ordU us (by simp only [Flat.lim]; omega) (fun x hx y hy => spec87s (hsm x hx) (hsm y hy))
 rw [hS] at h142; have hSt : (S.map Up.row).take us.length = S.map Up.row := List.take_of_length_le (by simp [hSl])
 refine srp 1000 [0,1,2,14,15,52,53,60] ?_; refine src 2000 ?_; refine oc id (spec92 us hus) ?_; refine oe 2100 ?_; refine onp [0,1,2,8,13,14,15,52,53,60] ?_; refine src 3000 ?_; refine oc (fun _ => 4002) (h142) ?_
 refine onp [0,1,2,8,15,52,53,60] ?_; refine fz 4002 ?_; refine srp 4000 [0,1,2,8,15,52,53,60] ?_; refine ow (.tmp 4) 900 37 6 ?_; refine sq ?_; refine k_block ?_; refine k_loop (fun n l => ∃ (r o : List Up) (f1 : Fa), n = r.length ∧ (pcs o f1 r = pcs [] f S ∧ Up.sms r ∧ o.length + r.length ≤ Cap) ∧ l = [(.tmp 0, .av (.ptr 0 0)), (.tmp 3, .av (.p (.ps (r.map Up.row)))), (.tmp 4, .av (.sl 900 o.length 0 o.length)), (.var 0, .n 5), (.cell 0 0, .av (vv (.bool f1.1))), (.cell 0 1, .av (vv (.int .u64 f1.2.e))), (.cell 0 2, .av (vv (.int .u64 f1.2.a))), (.cell 0 3, .av (vv (.int .u64 f1.2.b))), (.cell 0 4, .av (.p (.ps (us.map Up.row)))), (.arr 900, .arr 37 6 (o.map Up.row) 0)]) (S.length) hG ⟨_, ⟨by simp [*], by simp, by simp⟩, S, [], f, rfl, ⟨rfl, hSs, by simp; omega⟩, rfl⟩ ?_
 rintro n _ ⟨r, o, f1, hnr, ⟨hp, hrs, hol⟩, rfl⟩; clear h142; refine sq ?_; refine srp 5000 [0,1,2,8,15,52,53,60] ?_; refine cd ?_ ?_
 · intro h17_1
   have hrl : 0 < r.length := by have := h17_1; simp at this; omega
   obtain ⟨x, hx⟩ : ∃ x, r[0]? = some x := ⟨_, List.getElem?_eq_getElem hrl⟩; have hx2 : ∀ h : 0 < r.length, r[0]'h = x := fun h => (List.getElem?_eq_some_iff.1 hx).2
   have hxs := hrs x (List.mem_of_getElem? hx); have hxg : (r.map Up.row)[0]? = some x.row := by simp [hx]
   refine k_skip ?_; refine k_block ?_; refine srp 6000 [0,1,2,8,15,52,53,60] ?_; refine sq ?_; refine k_block ?_; refine k_loop (fun n l => ∃ j : Nat, n = r.length - j ∧ (1 ≤ j ∧ j ≤ r.length ∧ ∀ i y, 1 ≤ i → i < j → r[i]? = some y → cmpU x y = 0) ∧ l = [(.tmp 5, .av (vv (.int .i64 j))), (.tmp 0, .av (.ptr 0 0)), (.tmp 3, .av (.p (.ps (r.map Up.row)))), (.tmp 4, .av (.sl 900 o.length 0 o.length)), (.var 0, .n 5), (.cell 0 0, .av (vv (.bool f1.1))), (.cell 0 1, .av (vv (.int .u64 f1.2.e))), (.cell 0 2, .av (vv (.int .u64 f1.2.a))), (.cell 0 3, .av (vv (.int .u64 f1.2.b))), (.cell 0 4, .av (.p (.ps (us.map Up.row)))), (.arr 900, .arr 37 6 (o.map Up.row) 0)]) (r.length - 1) hG ⟨_, ⟨by simp, by simp, by simp⟩, 1, rfl, ⟨Nat.le_refl _, hrl, fun i y h1 h2 => by omega⟩, rfl⟩ ?_
   rintro n2 _ ⟨j, hnj, ⟨hj1, hjl0, hji⟩, rfl⟩; refine sq ?_; refine sq ?_; refine cv [(.tmp 32, vv (.bool (decide (j < r.length) && (cmpU x (r.getD j Up.zero) == 0))))] ?_ ?_
   · skip
     rcases h0 : (decide (j < r.length) : Bool) with _ | _
     · skip
       refine dr ?_; refine de 7000 ?_; iterate 7 (first | refine dp 7650 ?_ | refine ds ?_ | refine dt 7650 ?_)
       refine ds ?_; first | refine dp 7850 ?_ | refine ds ?_ | refine dt 7850 ?_
       refine de 7900 ?_; refine dn ?_; refine k_nil ?_; refine ⟨rfl, ?_, ?_, ?_⟩ <;> simp [*]
     · skip
       have hjl : j < r.length := by simpa using h0
       obtain ⟨y, hy⟩ : ∃ y, r[j]? = some y := ⟨_, List.getElem?_eq_getElem hjl⟩; have hy2 : ∀ h : j < r.length, r[j]'h = y := fun h => (List.getElem?_eq_some_iff.1 hy).2
       have hys := hrs y (List.mem_of_getElem? hy); have hgy : r.getD j Up.zero = y := by rw [List.getD_eq_getElem?_getD, hy]; rfl
       have hgy2 : r[j]?.getD Up.zero = y := by rw [hy]; rfl
       refine dr ?_; refine de 1007000 ?_; iterate 7 (first | refine dp 1007650 ?_ | refine ds ?_ | refine dt 1007650 ?_)
       refine dc id (spec87s hxs hys) ?_; first | refine dp 1007850 ?_ | refine ds ?_ | refine dt 1007850 ?_
       refine de 1007900 ?_; refine dn ?_; refine k_nil ?_; refine ⟨rfl, ?_, ?_, ?_⟩ <;> simp [*]
   refine pr [0,1,2,8,15,52,53,60] ?_; refine cd ?_ ?_
   · intro h32_2
     have h32_2 : (decide (j < r.length) && (cmpU x (r.getD j Up.zero) == 0)) = true := h32_2; have h0 : decide (j < r.length) = true := by cases h : decide (j < r.length) with | true => rfl | false => rw [h] at h32_2; exact absurd h32_2 (by simp)
     have hjl : j < r.length := by simpa using h0
     obtain ⟨y, hy⟩ : ∃ y, r[j]? = some y := ⟨_, List.getElem?_eq_getElem hjl⟩; have hy2 : ∀ h : j < r.length, r[j]'h = y := fun h => (List.getElem?_eq_some_iff.1 hy).2
     have hys := hrs y (List.mem_of_getElem? hy); have hgy : r.getD j Up.zero = y := by rw [List.getD_eq_getElem?_getD, hy]; rfl
     have hgy2 : r[j]?.getD Up.zero = y := by rw [hy]; rfl
     rw [h0, hgy] at h32_2; have hcy : cmpU x y = 0 := by simpa using h32_2
     have hw := wrap_succ (show j < Flat.lim by omega)
     have hjn : ∀ i z, 1 ≤ i → i < j + 1 → r[i]? = some z → cmpU x z = 0 := by
       intro i z q1 q2 q3
       by_cases q : i = j
       · subst q; rw [hy] at q3; simp only [Option.some.injEq] at q3; rw [← q3]; exact hcy
       · exact hji i z q1 (by omega) q3
     refine k_skip ?_; refine k_block ?_; refine rg 8000 ?_; refine k_nil ?_; show AK _ _ _ _ _ _; refine k_nil ?_; refine ⟨r.length - (j + 1), by omega, _, ⟨?_, ?_, ?_⟩, j + 1, rfl, ⟨by omega, by omega, hjn⟩, rfl⟩ <;> simp [*]
   · intro h32_2
     have h32_2 : (decide (j < r.length) && (cmpU x (r.getD j Up.zero) == 0)) = false := h32_2
     have h4 : j = r.length ∨ ∃ y, r[j]? = some y ∧ cmpU x y ≠ 0 := by
       by_cases h0 : j < r.length
       · obtain ⟨y, hy⟩ : ∃ y, r[j]? = some y := ⟨_, List.getElem?_eq_getElem h0⟩
         have hgy : r.getD j Up.zero = y := by rw [List.getD_eq_getElem?_getD, hy]; rfl
         rw [hgy] at h32_2; exact .inr ⟨y, hy, by simpa [h0] using h32_2⟩
       · exact .inl (by omega)
     have hps := pcs_step (o := o) (f := f1) hx hj1 hjl0 hji h4; rw [hp] at hps; have hcl := cons_len [r.take j]; rw [cat_one, List.length_take] at hcl; have hb1 : (o.length + (consR [r.take j]).1.length) * 80 ≤ 140737488355328 := by omega
     have hb2 : o.length + (consR [r.take j]).1.length ≤ 140737488355328 := by omega
     have hdj : (r.drop j).take (r.length - j) = r.drop j := List.take_of_length_le (by simp)
     have hdj2 : ((r.map Up.row).drop j).take (r.length - j) = (r.map Up.row).drop j := List.take_of_length_le (by simp)
     have hjj : (j : Int) ≤ r.length := by omega
     refine k_exit ?_; show AK _ _ _ _ _ _; refine src 9000 ?_; refine oc id (spec45 [r.take j] (by simp [Cap]) (by rw [cat_one]; simp; omega) (by intro l hl; rw [List.mem_singleton] at hl; rw [hl]; exact fun u hu => hrs u (List.mem_of_mem_take hu))) ?_
     refine oe 9100 ?_; refine onp [0,1,2,8,15,52,53,60] ?_; refine sq ?_; refine srp 10000 [0,1,2,8,15,52,53,60] ?_; refine cd ?_ ?_
     · intro h44_3
       have h2 : ((consR [r.take j]).2 != 0) = true := h44_3; rw [h2, if_pos rfl] at hps; have hpn := hps.symm; refine dr ?_; refine de 11000 ?_; refine dc id (spec82 us f1 x.t) ?_; refine dn ?_; refine pr [0,1,2,8,15,52,53,60] ?_; refine srp 12000 [0,1,2,8,15,52,53,60] ?_; refine rg 13000 ?_; refine k_nil ?_; show AK _ _ _ _ _ _; refine k_nil ?_; refine ⟨(r.drop j).length, by simp; omega, _, ⟨?_, ?_, ?_⟩, r.drop j, o ++ (consR [r.take j]).1, (noteR f1 x.t), rfl, ⟨hpn, fun u hu => hrs u (List.mem_of_mem_drop hu), by simp; omega⟩, rfl⟩ <;> simp [*]
     · intro h44_3
       have h2 : ((consR [r.take j]).2 != 0) = false := h44_3; rw [h2] at hps; have hpn : pcs (o ++ (consR [r.take j]).1) f1 (r.drop j) = pcs [] f S := by simpa using hps.symm
       refine k_skip ?_; refine srp 12000 [0,1,2,8,15,52,53,60] ?_; refine rg 13000 ?_; refine k_nil ?_; show AK _ _ _ _ _ _; refine k_nil ?_; refine ⟨(r.drop j).length, by simp; omega, _, ⟨?_, ?_, ?_⟩, r.drop j, o ++ (consR [r.take j]).1, f1, rfl, ⟨hpn, fun u hu => hrs u (List.mem_of_mem_drop hu), by simp; omega⟩, rfl⟩ <;> simp [*]
 · intro h17_1
   obtain rfl : r = [] := by have := h17_1; simp at this; exact this
   rw [pcs_nil] at hp
   replace hp := hp.symm
   have hot : (o.map Up.row).take o.length = o.map Up.row := List.take_of_length_le (by simp)
   refine k_exit ?_; show AK _ _ _ _ _ _; refine srp 14000 [2,3] ?_; refine fz 900 ?_; refine k_ret ?_; show retQ _ _ _ _ _ _ _; simp [*]
attribute [local simp] lrow Tm.av Tm.zero in
theorem spec84 (f : Fa) (us : List Up) (hus : us.length ≤ Cap) (hsm : Up.sms us) : Flat.Sp Tryz.prog 88 [.ptr 0 0] [(.var 0, .n 5), (.cell 0 0, .av (vv (.bool f.1))), (.cell 0 1, .av (vv (.int .u64 f.2.e))), (.cell 0 2, .av (vv (.int .u64 f.2.a))), (.cell 0 3, .av (vv (.int .u64 f.2.b))), (.cell 0 4, .av (.p (.ps (us.map Up.row))))] (.tup [.p (.ps ((doneR f us).1.map Up.row)), (if (doneR f us).2.1 then (doneR f us).2.2 else Tm.zero).av, vv (.int .i64 (if (doneR f us).2.1 then 10 else 0))]) [(.var 0, .n 5), (.cell 0 0, .av (vv (.bool (doneR f us).2.1))), (.cell 0 1, .av (vv (.int .u64 (doneR f us).2.2.e))), (.cell 0 2, .av (vv (.int .u64 (doneR f us).2.2.a))), (.cell 0 3, .av (vv (.int .u64 (doneR f us).2.2.b))), (.cell 0 4, .av (.p (.ps (us.map Up.row))))] := by
 refine sk Tryz.func88 ?_; intro F G hn hG; refine srp 1000 [0,1,2,34] ?_; refine src 2000 ?_; refine oc id (spec45 [us] (by simp [Cap]) (by rw [cat_one]; exact hus) (by intro l hl; rw [List.mem_singleton] at hl; rw [hl]; exact hsm)) ?_
 refine oe 2100 ?_; refine onp [0,1,2,7,16,34] ?_; refine sq ?_; refine srp 3000 [0,1,2,6,17,34] ?_; refine cd ?_ ?_
 · intro h17_1
   have h2 : ((consR [us]).2 != 0) = true := h17_1; have hd : doneR f us = pcs [] f (isrt (ltU cmpU) us) := by rw [doneR, h2]; rfl
   refine rc 4000 ?_; refine oc id (spec141 f us hus hsm) ?_; refine oe 4100 ?_; refine onp [0,1,2,6,20,34] ?_; refine sq ?_; refine srp 5000 [0,1,2,6,25,34] ?_; refine cd ?_ ?_
   · intro h25_2
     have h25_22 := h25_2; simp only [Bool.not_eq_true'] at h25_22; refine srp 6000 [0,1,2,6,28,34] ?_; refine k_ret ?_; show retQ _ _ _ _ _ _ _; simp [*]
   · intro h25_2
     have h25_22 := h25_2; simp only [Bool.not_eq_false'] at h25_22; refine k_skip ?_; refine sq ?_; refine dr ?_; refine de 7000 ?_; refine dn ?_; refine pr [2,5] ?_; refine k_ret ?_; show retQ _ _ _ _ _ _ _; simp [*]
 · intro h17_1
   have h2 : ((consR [us]).2 != 0) = false := h17_1; have hd : doneR f us = ((consR [us]).1, f) := by rw [doneR, h2]; rfl
   refine k_skip ?_; refine sq ?_; refine srp 5000 [0,1,2,6,25,34] ?_; refine cd ?_ ?_
   · intro h25_3
     have h25_32 := h25_3; simp only [Bool.not_eq_true'] at h25_32; refine srp 6000 [0,1,2,6,28,34] ?_; refine k_ret ?_; show retQ _ _ _ _ _ _ _; simp [*]
   · intro h25_3
     have h25_32 := h25_3; simp only [Bool.not_eq_false'] at h25_32; refine k_skip ?_; refine sq ?_; refine dr ?_; refine de 7000 ?_; refine dn ?_; refine pr [2,5] ?_; refine k_ret ?_; show retQ _ _ _ _ _ _ _; simp [*]
end
section
def zeroN (v : Val) : Bool := v.n == 0
def evErr (ex : List E) (row : List Val) : Int := orI (ex.map fun e => (evalE row e).2)
def evVal (row : List Val) (e : E) : Val := (evalE row e).1
def evR (ex : List E) (row : List Val) : List Val × Int := if evErr ex row != 0 then ([], evErr ex row) else (ex.map (evVal row), 0)
structure Ct where
 r : List Val
 n : Int
def Ct.row (c : Ct) : List PV := [.ps (c.r.map Val.row), .v (.int .i64 c.n)]
@[simp] theorem Ct.row_len (c : Ct) : c.row.length = 2 := rfl
def Ct.av (c : Ct) : AV := .agg (c.row.map .p)
def Ct.zero : Ct := ⟨[], 0⟩
def oneM (k : Int) (ex : List E) (c : Ct) : List Ct × Int :=
 if k == 6 then ([⟨c.r, (timesR c.n (-1)).1⟩], (timesR c.n (-1)).2)
 else if (evR ex c.r).2 != 0 then ([], (evR ex c.r).2)
 else if k == 3 then ([⟨(evR ex c.r).1, c.n⟩], 0)
 else if ((evR ex c.r).1.getD 0 vZ).n == 0 then ([], 0) else ([c], 0)
def sevR (ex : List E) (u : Up) : List Up × Bool :=
 if (evR ex u.r).2 != 0 || checkRow (evR ex u.r).1 != 0 then ([], false) else if (evR ex u.r).1.any zeroN then ([], true) else ([u], true)
def Up.bare (u : Up) : Up := ⟨[], u.r, u.t, u.d⟩
def Up.ofC (t : Tm) (c : Ct) : Up := ⟨[], c.r, t, c.n⟩
def badC (l : List Ct) : Bool := l.any fun c => checkRow c.r != 0
def oneR (k : Int) (ex : List E) (u : Up) : List Up × Bool :=
 if k == 5 then ([u.bare], true)
 else if k == 4 && (((ex.length : Nat) : Int) != 1) then sevR ex u.bare
 else if (oneM k ex ⟨u.r, u.d⟩).2 != 0 then ([], false)
 else if badC (oneM k ex ⟨u.r, u.d⟩).1 then ([], false) else ((oneM k ex ⟨u.r, u.d⟩).1.map (Up.ofC u.t), true)
theorem evR_len (ex : List E) (row : List Val) : (evR ex row).1.length ≤ ex.length := by
 unfold evR; split <;> simp
theorem oneM_len (k : Int) (ex : List E) (c : Ct) : (oneM k ex c).1.length ≤ 1 := by
 unfold oneM
 repeat' split
 all_goals simp
theorem oneM_rows (k : Int) (ex : List E) (c : Ct) (he : ex.length ≤ Bnd) (hc : c.r.length ≤ Bnd) : ∀ x ∈ (oneM k ex c).1, x.r.length ≤ Bnd := by
 intro x hx; have := evR_len ex c.r; unfold oneM at hx
 repeat' split at hx
 all_goals simp at hx
 all_goals subst hx
 all_goals first | exact hc | (simp only; omega)
theorem any_take {α : Type} {p : α → Bool} {l : List α} {i : Nat} {x : α} (h : l[i]? = some x) : (l.drop i).any p = (p x || (l.drop (i + 1)).any p) := by rw [drop_at h]; rfl
theorem fill_z {α : Type} {z x : α} {n i : Nat} (h : i < n) : (List.replicate (n - i) z).set 0 x = x :: List.replicate (n - (i + 1)) z := by
 rw [show n - i = (n - (i + 1)) + 1 by omega, List.replicate_succ]; rfl
theorem evR_one {ex : List E} {row : List Val} (h : ex.length = 1) (h2 : ((evR ex row).2 != 0) = false) : (evR ex row).1.length = 1 := by
 unfold evR at h2 ⊢; split at h2
 · rename_i h3; rw [h3] at h2; exact absurd h2 (by simp)
 · rename_i h3; rw [if_neg h3]; simp [h]
theorem one_of {k : Int} {n : Nat} (hk : k = 3 ∨ k = 4 ∨ k = 5 ∨ k = 6) (h5 : (k == 5) = false) (h4 : (k == 4 && (((n : Nat) : Int) != 1)) = false) (h6 : (k == 6) = false) (h3 : (k == 3) = false) : n = 1 := by
 simp only [beq_eq_false_iff_ne, ne_eq] at h5 h6 h3; obtain rfl : k = 4 := by omega
 simp at h4; omega
attribute [local simp] Val.av zeroN in
theorem spec183 (v : Val) : Flat.Sp Tryz.prog 250 [v.av] [] (vv (.bool (zeroN v))) [] := by
 refine sk Tryz.func250 ?_; intro F G hn hG; refine srp 1000 [1,6] ?_; refine srp 2000 [2,3] ?_; refine k_ret ?_; show retQ _ _ _ _ _ _ _; simp [*]
attribute [local simp] Val.row Val.av in
theorem spec157z (xs : List Val) (hlen : xs.length ≤ Flat.lim) : Flat.Sp Tryz.prog 195 [.p (.ps (xs.map Val.row)), .fn (.func 250) []] [] (vv (.int .i64 (firstP zeroN xs 0))) [] := by
 refine sk Tryz.func195 ?_; intro F G hn hG; refine srp 1000 [0,2,4,19] ?_; refine sq ?_; refine srp 2000 [0,2,4,6,7,19] ?_; refine k_block ?_; refine k_loop (fun n l => ∃ i, i + n = xs.length ∧ (firstP zeroN xs 0 = firstP zeroN (xs.drop i) i) ∧ l = [(.tmp 0, .av (.p (.ps (xs.map Val.row)))), (.tmp 1, .av (.fn (.func 250) [])), (.tmp 7, .av (vv (.int .i64 xs.length))), (.tmp 8, .av (vv (.int .i64 i)))]) (xs.length) hG ⟨_, ⟨by simp, by simp, by simp⟩, 0, by simp, rfl, rfl⟩ ?_
 rintro n _ ⟨i, hin, hfa, rfl⟩; have hwi : i < Flat.lim → IntKind.i64.wrap ((i : Int) + 1) = (i : Int) + 1 := wrap_succ; refine srp 3000 [0,2,4,6,7,19] ?_; refine sq ?_; refine cd ?_ ?_
 · intro h9_1
   have hlt : i < xs.length := by simpa using h9_1
   obtain ⟨x, hxe⟩ : ∃ x, xs[i] = x := ⟨_, rfl⟩; have hx : xs[i]? = some x := by simp [hlt, hxe]
   have hfd := firstP_drop (p := zeroN) hx; have hwi := hwi (by omega)
   refine k_skip ?_; refine sq ?_; refine k_block ?_; refine srp 4000 [0,2,4,6,7,19] ?_; refine src 5000 ?_; refine oc id (spec183 x) ?_; refine onp [0,2,4,6,7,19] ?_; refine cd ?_ ?_
   · intro h16_2
     have hr : zeroN x = true := by simpa using h16_2
     refine srp 6000 [0,2,4,6,7,19] ?_; refine k_ret ?_; show retQ _ _ _ _ _ _ _; simp [*]
   · intro h16_2
     have hr : zeroN x = false := by simpa using h16_2
     refine k_skip ?_; refine k_nil ?_; show AK _ _ _ _ _ _; refine rg 7000 ?_; refine k_nil ?_; refine ⟨n - 1, by omega, _, ⟨?_, ?_, ?_⟩, i + 1, by omega, by rw [hfa, hfd, hr, if_neg (by simp)], rfl⟩ <;> simp [*]
 · intro h9_1
   have hge : xs.length ≤ i := by simpa using h9_1
   have hfe : firstP zeroN (xs.drop i) i = -1 := by rw [List.drop_eq_nil_of_le hge]; rfl
   refine k_exit ?_; show AK _ _ _ _ _ _; refine srp 8000 [4,5] ?_; refine k_ret ?_; show retQ _ _ _ _ _ _ _; simp [*]
attribute [local simp] firstP_any in
theorem spec101z (xs : List Val) (hlen : xs.length ≤ Flat.lim) : Flat.Sp Tryz.prog 96 [.p (.ps (xs.map Val.row)), .fn (.func 250) []] [] (vv (.bool (xs.any zeroN))) [] := by
 refine sk Tryz.func96 ?_; intro F G hn hG; refine srp 1000 [0,2,4,9] ?_; refine src 2000 ?_; refine oc id (spec157z xs hlen) ?_; refine oe 2100 ?_; refine onp [4,5] ?_; refine k_ret ?_; show retQ _ _ _ _ _ _ _; simp [*]
attribute [local simp] E.av Val.row Val.av vZ in
theorem spec182 (ex : List E) (he : ex.length ≤ Bnd) (row : List Val) (hrow : row.length ≤ Flat.lim) : Flat.Sp Tryz.prog 230 [.p (.ps (ex.map E.row)), .p (.ps (row.map Val.row))] [] (.tup [.p (.ps ((evR ex row).1.map Val.row)), vv (.int .i64 (evR ex row).2)]) [] := by
 refine sk Tryz.func230 ?_; intro F G hn hG; have he1 : ex.length ≤ 140737488355328 := by simp only [Bnd] at he; omega
 have he2 : ex.length * 32 ≤ 140737488355328 := by simp only [Bnd] at he; omega
 have he3 : ex.length ≤ Flat.lim := he1; obtain ⟨vs, hvs⟩ : ∃ vs, ex.map (evVal row) = vs := ⟨_, rfl⟩; have hvl : vs.length = ex.length := by rw [← hvs, List.length_map]
 refine srp 1000 [0,2,4,36] ?_; refine srp 2000 [0,2,4,11,14,36] ?_; refine sq ?_; refine srp 3000 [1,2,4,11,14,36] ?_; refine k_block ?_; refine k_loop (fun n l => ∃ i, i + n = ex.length ∧ (orI ((ex.map fun e => (evalE row e).2).drop i) = evErr ex row) ∧ l = [(.tmp 1, .av (.p (.ps (row.map Val.row)))), (.tmp 6, .av (.sl 2002 ex.length 0 ex.length)), (.tmp 14, .av (.p (.ps (ex.map E.row)))), (.tmp 15, .av (vv (.int .i64 ex.length))), (.tmp 16, .av (vv (.int .i64 i))), (.arr 2002, .arr 25 3 ((vs.map Val.row).take i ++ List.replicate (ex.length - i) vZ.row) 0)]) (ex.length) hG ⟨_, ⟨by simp, by simp, by simp⟩, 0, by simp, rfl, rfl⟩ ?_
 rintro n _ ⟨i, hin, hfa, rfl⟩; have hcm := hfa; refine srp 4000 [1,2,4,11,14,36] ?_; refine sq ?_; refine cd ?_ ?_
 · intro h17_1
   have hlt : i < ex.length := by simpa using h17_1
   obtain ⟨x, hxe⟩ : ∃ x, ex[i] = x := ⟨_, rfl⟩; have hx : ex[i]? = some x := by simp [hlt, hxe]
   have hw := wrap_succ (show i < Flat.lim by omega)
   rw [orI_drop (show (ex.map fun e => (evalE row e).2)[i]? = some (evalE row x).2 by simp [hx])] at hcm
   have hvx : vs[i]? = some (evVal row x) := by rw [← hvs]; simp [hx]
   have hmi : min i ex.length = i := by omega
   have hil : i + (ex.length - i) = ex.length := by omega
   obtain ⟨eo, ec, ev, ek⟩ := x; obtain ⟨v, hv⟩ : ∃ v, evalE row (E.mk eo ec ev ek) = v := ⟨_, rfl⟩; obtain ⟨v, y⟩ := v; simp only [evVal, hv] at hvx hcm; have htm := tmap_succ (f := Val.row) hvx; have hset := fill_z (z := vZ.row) (x := v.row) hlt; simp only [Val.row, vZ] at htm hset; refine k_skip ?_; refine sq ?_; refine k_block ?_; refine sq ?_; refine rg 5000 ?_ (h := by simp [*, E.row_eq]; exact is_rfl _)
   refine pr [1,2,4,11,14,36] ?_; refine src 6000 ?_; refine oc id (spec23 row hrow (E.mk eo ec ev ek)) ?_; refine oe 6100 ?_; refine onp [1,2,4,11,14,36] ?_; refine sq ?_; refine srp 7000 [1,2,4,11,14,36] ?_; refine cd ?_ ?_
   · intro h28_2
     have h2 : (y != 0) = true := h28_2; rw [h2] at hcm; have hev0 : evErr ex row = y := by simpa using hcm.symm
     have hevR : evR ex row = ([], y) := by rw [evR, hev0, h2]; rfl
     refine srp 8000 [1,2,4,11,14,36] ?_; refine k_ret ?_; show retQ _ _ _ _ _ _ _; simp [*]
   · intro h28_2
     have h2 : (y != 0) = false := h28_2; rw [h2] at hcm; have hnext : orI ((ex.map fun e => (evalE row e).2).drop (i + 1)) = evErr ex row := by simpa using hcm
     refine k_skip ?_; refine rg 9000 ?_; refine k_nil ?_; show AK _ _ _ _ _ _; refine rg 10000 ?_; refine k_nil ?_; refine ⟨n - 1, by omega, _, ⟨?_, ?_, ?_⟩, i + 1, by omega, hnext, rfl⟩ <;> simp [*]
 · intro h17_1
   have hge : ex.length ≤ i := by simpa using h17_1
   obtain rfl : i = ex.length := by omega
   rw [List.drop_eq_nil_of_le (by simp)] at hcm
   have hev0 : evErr ex row = 0 := hcm.symm; have hevR : evR ex row = (vs, 0) := by rw [evR, hev0, hvs]; rfl
   have htk2 : (vs.map Val.row).take ex.length = vs.map Val.row := List.take_of_length_le (by simp [hvl])
   refine k_exit ?_; show AK _ _ _ _ _ _; refine srp 11000 [4,6] ?_; refine fz 2002 ?_; refine k_ret ?_; show retQ _ _ _ _ _ _ _; simp [*]
attribute [local simp] Pl.av Ct.av Ct.row in
theorem spec139 (k n : Int) (kids : List Pl) (ex : List E) (cols wth : List Int) (agg rds : Int) (he : ex.length ≤ Bnd) (hk4 : (k == 6) = false → (k == 3) = false → ex.length = 1) (c : Ct) (hc : c.r.length ≤ Flat.lim) : Flat.Sp Tryz.prog 144 [(Pl.mk k n kids ex cols wth agg rds).av, c.av] [] (.tup [.p (.ps ((oneM k ex c).1.map Ct.row)), vv (.int .i64 (oneM k ex c).2)]) [] := by
 refine sk Tryz.func144 ?_; intro F G hn hG; refine srp 1000 [2,54] ?_; refine sq ?_; refine srp 2000 [2,10,12,54] ?_; refine cd ?_ ?_
 · intro h12_1
   have h6 : (k == 6) = true := by simpa using h12_1
   have hom : oneM k ex c = ([⟨c.r, (timesR c.n (-1)).1⟩], (timesR c.n (-1)).2) := by rw [oneM, h6]; rfl
   refine src 3000 ?_; refine oc id (spec95 c.n (-1)) ?_; refine oe 3100 ?_; refine onp [2,10,19,54] ?_; refine srp 4000 [2,6,8,10,25,54] ?_; refine k_ret ?_; show retQ _ _ _ _ _ _ _; simp [*]
 · intro h12_1
   have h6 : (k == 6) = false := by simpa using h12_1
   refine k_skip ?_; refine src 5000 ?_; refine oc id (spec182 ex he c.r hc) ?_; refine oe 5100 ?_; refine onp [2,6,8,10,33,54] ?_; refine sq ?_; refine k_block ?_; refine srp 6000 [2,6,8,10,33,34,36,54] ?_; refine cd ?_ ?_
   · intro h33_2
     have h2 : ((evR ex c.r).2 != 0) = true := h33_2; have hom : oneM k ex c = ([], (evR ex c.r).2) := by rw [oneM, h6, h2]; rfl
     refine srp 7000 [3,6,52,54] ?_; refine k_ret ?_; show retQ _ _ _ _ _ _ _; simp [*]
   · intro h33_2
     have h2 : ((evR ex c.r).2 != 0) = false := h33_2; refine srp 8000 [3,6,8,9,37,38,41,54] ?_; refine cd ?_ ?_
     · intro h37_3
       have h3 : (k == 3) = true := by simpa using h37_3
       have hom : oneM k ex c = ([⟨(evR ex c.r).1, c.n⟩], 0) := by rw [oneM, h6, h2, h3]; rfl
       refine srp 9000 [3,6,52,54] ?_; refine k_ret ?_; show retQ _ _ _ _ _ _ _; simp [*]
     · intro h37_3
       have h3 : (k == 3) = false := by simpa using h37_3
       have hl1 := hk4 h6 h3; have hev : (evR ex c.r).1.length = 1 := evR_one hl1 h2; obtain ⟨v, hv⟩ : ∃ v, (evR ex c.r).1 = [v] := List.length_eq_one_iff.1 hev; refine sq ?_; refine rg 10000 ?_ (h := by simp [*, Val.row]; exact is_rfl _)
       refine pr [3,6,46,47,52,54] ?_; refine cd ?_ ?_
       · intro h46_4
         have h4 : (v.n == 0) = true := by simpa using h46_4
         have hom : oneM k ex c = ([], 0) := by rw [oneM, h6, h2, h3, hv]; simp only [List.getD_cons_zero]; rw [h4]; rfl
         refine srp 11000 [3,6,52,54] ?_; refine k_ret ?_; show retQ _ _ _ _ _ _ _; simp [*]
       · intro h46_4
         have h4 : (v.n == 0) = false := by simpa using h46_4
         have hom : oneM k ex c = ([c], 0) := by rw [oneM, h6, h2, h3, hv]; simp only [List.getD_cons_zero]; rw [h4]; rfl
         refine k_skip ?_; refine k_nil ?_; show AK _ _ _ _ _ _; refine srp 12000 [4,6] ?_; refine k_ret ?_; show retQ _ _ _ _ _ _ _; simp [*]
attribute [local simp] Pl.av Up.av Up.row in
theorem spec138 (k n : Int) (kids : List Pl) (ex : List E) (cols wth : List Int) (agg rds : Int) (he : ex.length ≤ Bnd) (u : Up) (hu : u.sm) : Flat.Sp Tryz.prog 178 [(Pl.mk k n kids ex cols wth agg rds).av, u.av] [] (.tup [.p (.ps ((sevR ex u).1.map Up.row)), vv (.bool (sevR ex u).2)]) [] := by
 refine sk Tryz.func178 ?_; intro F G hn hG; have hur := (Up.sm_lim hu).2; have hel := Nat.le_trans (evR_len ex u.r) he; have hel : (evR ex u.r).1.length ≤ Flat.lim := Nat.le_trans hel (by decide)
 refine srp 1000 [2,27] ?_; refine src 2000 ?_; refine oc id (spec182 ex he u.r hur) ?_; refine oe 2100 ?_; refine onp [3,8,16,27] ?_; refine sq ?_; refine src 3000 ?_; first | refine gp 3050 ?_ | refine os ?_ | refine gt 3050 ?_
 refine og (fun hg => spec54 (evR ex u.r).1 hel) ?_
 first | refine gp 3250 ?_ | refine os ?_ | refine gt 3250 ?_
 refine oe 3300 ?_; refine onp [3,7,22,27] ?_; refine cd ?_ ?_
 · intro h22_1
   have h2 : ((evR ex u.r).2 != 0 || checkRow (evR ex u.r).1 != 0) = true := h22_1; have hse : sevR ex u = ([], false) := by rw [sevR, h2]; rfl
   refine srp 4000 [3,7,23,27] ?_; refine k_ret ?_; show retQ _ _ _ _ _ _ _; simp [*]
 · intro h22_1
   have h2 : ((evR ex u.r).2 != 0 || checkRow (evR ex u.r).1 != 0) = false := h22_1; refine k_skip ?_; refine sq ?_; refine src 5000 ?_; refine oc id (spec101z (evR ex u.r).1 hel) ?_; refine onp [3,6,24,27] ?_; refine cd ?_ ?_
   · intro h24_2
     have h3 : (evR ex u.r).1.any zeroN = true := h24_2; have hse : sevR ex u = ([], true) := by rw [sevR, h2, h3]; rfl
     refine srp 6000 [3,6,25,27] ?_; refine k_ret ?_; show retQ _ _ _ _ _ _ _; simp [*]
   · intro h24_2
     have h3 : (evR ex u.r).1.any zeroN = false := h24_2; have hse : sevR ex u = ([u], true) := by rw [sevR, h2, h3]; rfl
     refine k_skip ?_; refine srp 7000 [4,6] ?_; refine k_ret ?_; show retQ _ _ _ _ _ _ _; simp [*]
attribute [local simp] Pl.av Up.av Up.row Up.bare Ct.av Ct.row in
theorem spec81 (k n : Int) (kids : List Pl) (ex : List E) (cols wth : List Int) (agg rds : Int) (he : ex.length ≤ Bnd) (hk : k = 3 ∨ k = 4 ∨ k = 5 ∨ k = 6) (u : Up) (hu : u.sm) : Flat.Sp Tryz.prog 85 [(Pl.mk k n kids ex cols wth agg rds).av, u.av] [] (.tup [.p (.ps ((oneR k ex u).1.map Up.row)), vv (.bool (oneR k ex u).2)]) [] := by
 refine sk Tryz.func85 ?_; intro F G hn hG; have hur := (Up.sm_lim hu).2; obtain ⟨xs, hxs⟩ : ∃ xs, (oneM k ex ⟨u.r, u.d⟩).1 = xs := ⟨_, rfl⟩; have hx1 : xs.length ≤ 1 := by rw [← hxs]; exact oneM_len _ _ _
 have hxr : ∀ x ∈ xs, x.r.length ≤ Bnd := by rw [← hxs]; exact oneM_rows _ _ _ he hu.2
 obtain ⟨ys, hys⟩ : ∃ ys, xs.map (Up.ofC u.t) = ys := ⟨_, rfl⟩; have hyl : ys.length = xs.length := by rw [← hys, List.length_map]
 refine srp 1000 [2,9,10,65] ?_; refine srp 2000 [2,9,10,11,12,65] ?_; refine sq ?_; refine srp 3000 [2,9,10,11,14,65] ?_; refine cd ?_ ?_
 · intro h14_1
   have h5 : (k == 5) = true := by simpa using h14_1
   have hon : oneR k ex u = ([u.bare], true) := by rw [oneR, h5]; rfl
   refine sq ?_; refine rg 4000 ?_ (h := by simp [*, Up.bare]; exact is_rfl _)
   refine pr [2,9,10,11,17,65] ?_; refine k_ret ?_; show retQ _ _ _ _ _ _ _; simp [*]
 · intro h14_1
   have h5 : (k == 5) = false := by simpa using h14_1
   refine k_skip ?_; refine sq ?_; refine src 5000 ?_; iterate 4 (first | refine gp 5350 ?_ | refine os ?_ | refine gt 5350 ?_)
   refine oe 5400 ?_; refine onp [2,9,10,11,25,65] ?_; refine cd ?_ ?_
   · intro h25_2
     have h4 : (k == 4 && (((ex.length : Nat) : Int) != 1)) = true := h25_2; have hon : oneR k ex u = sevR ex u.bare := by rw [oneR, h5, h4]; rfl
     refine src 6000 ?_ (h := by simp [*, Up.bare]; exact is_rfl _)
     refine oc id ((show Flat.Sp Tryz.prog 178 [_, u.bare.av] _ _ _ from spec138 k n kids ex cols wth agg rds he u.bare ⟨Nat.zero_le _, hu.2⟩)) ?_ (hg := by simp [*, Up.bare]) (hf := by simp [*, Up.bare]; exact is_rfl _) (hx := by simp [*, Up.bare]; exact is_rfl _) (hargs := by simp [*, Up.bare]) (hB := by simp [*, Up.bare]) (hL := by simp [*, Up.bare]) (hd := by simp [*, Up.bare]; exact is_rfl _)
     refine oe 6100 ?_ (h := by simp [*, Up.bare]; exact is_rfl _)
     refine onp [2,9,10,11,31,65] ?_; refine k_ret ?_; show retQ _ _ _ _ _ _ _; simp [*]
   · intro h25_2
     have h4 : (k == 4 && (((ex.length : Nat) : Int) != 1)) = false := h25_2; have hk4 : (k == 6) = false → (k == 3) = false → ex.length = 1 := one_of hk h5 h4; refine k_skip ?_; refine src 7000 ?_; refine oc id (spec139 k n kids ex cols wth agg rds he hk4 ⟨u.r, u.d⟩ hur) ?_; refine oe 7100 ?_; refine onp [3,9,10,11,41,65] ?_; refine sq ?_; refine srp 8000 [3,7,8,9,10,11,42,65] ?_; refine cd ?_ ?_
     · intro h42_3
       have h2 : ((oneM k ex ⟨u.r, u.d⟩).2 != 0) = true := h42_3; have hon : oneR k ex u = ([], false) := by rw [oneR, h5, h4, h2]; rfl
       refine srp 9000 [3,7,8,9,10,11,43,65] ?_; refine k_ret ?_; show retQ _ _ _ _ _ _ _; simp [*]
     · intro h42_3
       have h2 : ((oneM k ex ⟨u.r, u.d⟩).2 != 0) = false := h42_3; refine k_skip ?_; refine srp 10000 [3,7,8,9,10,11,43,65] ?_; refine ow (.tmp 8) 900 37 6 ?_; refine sq ?_; refine srp 11000 [3,6,8,9,10,11,43,65] ?_; refine k_block ?_; refine k_loop (fun n l => ∃ i, i + n = xs.length ∧ (badC (xs.drop i) = badC xs) ∧ l = [(.tmp 3, .av (.ptr 1001 0)), (.tmp 8, .av (.sl 900 i 0 i)), (.tmp 43, .av (.p (.ps (xs.map Ct.row)))), (.tmp 44, .av (vv (.int .i64 xs.length))), (.tmp 45, .av (vv (.int .i64 i))), (.var 1001, .n 6), (.cell 1001 0, .av (.psf [])), (.cell 1001 1, .av (.p (.ps (u.r.map Val.row)))), (.cell 1001 2, .av (vv (.int .u64 u.t.e))), (.cell 1001 3, .av (vv (.int .u64 u.t.a))), (.cell 1001 4, .av (vv (.int .u64 u.t.b))), (.cell 1001 5, .av (vv (.int .i64 u.d))), (.arr 900, .arr 37 6 ((ys.map Up.row).take i) 0)]) (xs.length) hG ⟨_, ⟨by simp, by simp, by simp⟩, 0, by simp, rfl, rfl⟩ ?_
       rintro n _ ⟨i, hin, hfa, rfl⟩; have hcm := hfa; refine srp 12000 [3,6,8,9,10,11,43,65] ?_; refine sq ?_; refine cd ?_ ?_
       · intro h46_4
         have hlt : i < xs.length := by simpa using h46_4
         obtain ⟨x, hxe⟩ : ∃ x, xs[i] = x := ⟨_, rfl⟩; have hx : xs[i]? = some x := by simp [hlt, hxe]
         have hw := wrap_succ (show i < Flat.lim by simp only [Flat.lim]; omega)
         have hmi : min i xs.length = i := by omega
         have hb1 : (i + 1) * 80 ≤ 140737488355328 := by omega
         have hb2 : i + 1 ≤ 140737488355328 := by omega
         have hxr2 : x.r.length ≤ Flat.lim := Nat.le_trans (hxr x (List.mem_of_getElem? hx)) (by decide)
         have hbd := any_take (p := fun c : Ct => checkRow c.r != 0) hx
         have hcm2 : (checkRow x.r != 0 || badC (xs.drop (i + 1))) = badC xs := by rw [← hcm]; exact hbd.symm
         have hyx : ys[i]? = some (Up.ofC u.t x) := by rw [← hys]; simp [hx]
         have htm := tmap_succ (f := Up.row) hyx; simp only [Up.ofC, Up.row] at htm; refine k_skip ?_; refine sq ?_; refine k_block ?_; refine srp 13000 [3,6,8,9,10,11,43,65] ?_; refine srp 14000 [3,6,8,9,10,11,43,65] ?_; refine src 15000 ?_; refine oc id (spec54 x.r hxr2) ?_; refine oe 15100 ?_; refine onp [3,6,8,9,10,11,43,65] ?_; refine cd ?_ ?_
         · intro h62_5
           have h7 : (checkRow x.r != 0) = true := h62_5; rw [h7] at hcm2; have hbx : badC xs = true := hcm2.symm; have hon : oneR k ex u = ([], false) := by rw [oneR, h5, h4, h2, hxs, hbx]; rfl
           refine srp 16000 [3,6,8,9,10,11,43,65] ?_; refine k_ret ?_; show retQ _ _ _ _ _ _ _; simp [*]
         · intro h62_5
           have h7 : (checkRow x.r != 0) = false := h62_5; rw [h7] at hcm2; have hnext : badC (xs.drop (i + 1)) = badC xs := hcm2; refine k_skip ?_; refine k_nil ?_; show AK _ _ _ _ _ _; refine rg 17000 ?_; refine k_nil ?_; refine ⟨n - 1, by omega, _, ⟨?_, ?_, ?_⟩, i + 1, by omega, hnext, rfl⟩ <;> simp [*]
       · intro h46_4
         have hge : xs.length ≤ i := by simpa using h46_4
         obtain rfl : i = xs.length := by omega
         have hbx : badC xs = false := by rw [← hcm, List.drop_eq_nil_of_le (Nat.le_refl _)]; rfl
         have hon : oneR k ex u = (ys, true) := by rw [oneR, h5, h4, h2, hxs, hbx, ← hys]; rfl
         have hfr : (ys.map Up.row).take xs.length = ys.map Up.row := List.take_of_length_le (by simp [hyl])
         refine k_exit ?_; show AK _ _ _ _ _ _; refine srp 18000 [4,6] ?_; refine fz 900 ?_; refine k_ret ?_; show retQ _ _ _ _ _ _ _; simp [*]
end
section
attribute [local simp] Ct.row in
theorem spec218 (us : List Ct) (hus : us.length ≤ Flat.lim) (pub : Nat) (a b m : Nat) (hpa : pub ≤ a) (hpb : pub ≤ b) (ha : a + m ≤ us.length) (hb : b + m ≤ us.length) (f : Fn) : Flat.Sp Tryz.prog 322 [.sl 0 us.length 0 us.length, vv (.int .i64 a), vv (.int .i64 b), vv (.int .i64 m), .fn f []] [(.arr 0, .arr 71 2 (us.map Ct.row) pub)] (.tup []) [(.arr 0, .arr 71 2 ((swr Ct.zero us a b m).map Ct.row) pub)] := by
 refine sk Tryz.func322 ?_; intro F G hn hG; refine srp 1000 [0,4,10,38] ?_; refine k_block ?_; refine k_loop (fun n l => ∃ i, i + n = (List.range m).length ∧ (True) ∧ l = [(.tmp 0, .av (.sl 0 us.length 0 us.length)), (.tmp 1, .av (vv (.int .i64 a))), (.tmp 2, .av (vv (.int .i64 b))), (.tmp 3, .av (vv (.int .i64 m))), (.tmp 10, .av (vv (.int .i64 i))), (.arr 0, .arr 71 2 ((swr Ct.zero us a b i).map Ct.row) pub)]) ((List.range m).length) hG ⟨_, ⟨by simp [swr], by simp, by simp⟩, 0, by simp, trivial, rfl⟩ ?_
 rintro n _ ⟨i, hin, hfa, rfl⟩; refine sq ?_; refine srp 2000 [0,4,10,38] ?_; refine cd ?_ ?_
 · intro h13_1
   have hlt : i < m := by simpa using h13_1
   have hrl : (List.range m).length = m := List.length_range; obtain ⟨p, hp⟩ : ∃ p, a + i = p := ⟨_, rfl⟩; obtain ⟨q, hq⟩ : ∃ q, b + i = q := ⟨_, rfl⟩; have hw1 : IntKind.i64.wrap ((a : Int) + (i : Int)) = (p : Int) := by have := wrap_nat (n := p) (by omega); rw [← this, ← hp]; simp
   have hw2 : IntKind.i64.wrap ((b : Int) + (i : Int)) = (q : Int) := by have := wrap_nat (n := q) (by omega); rw [← this, ← hq]; simp
   have hw3 := wrap_succ (show i < Flat.lim by omega)
   have hai : p < us.length := by omega
   have hbi : q < us.length := by omega
   have hpp : pub ≤ p := by omega
   have hpq : pub ≤ q := by omega
   obtain ⟨xa, hxa⟩ : ∃ x, (swr Ct.zero us a b i)[p]? = some x := ⟨_, List.getElem?_eq_getElem (by simp; omega)⟩
   obtain ⟨xb, hxb⟩ : ∃ x, (swr Ct.zero us a b i)[q]? = some x := ⟨_, List.getElem?_eq_getElem (by simp; omega)⟩
   refine k_skip ?_; refine sq ?_; refine k_block ?_; refine dr ?_; refine de 4000 ?_; refine dn ?_; refine k_nil ?_; show AK _ _ _ _ _ _; refine rg 3000 ?_; refine k_nil ?_; refine ⟨n - 1, by omega, _, ⟨?_, ?_, ?_⟩, i + 1, by omega, trivial, rfl⟩ <;> simp [*, swr, swp, Ct.row]
 · intro h13_1
   have hge : m ≤ i := by simpa using h13_1
   obtain rfl : i = m := by simp at hin; omega
   refine k_exit ?_; show AK _ _ _ _ _ _; refine k_nil ?_; show retQ _ _ _ _ _ _ _; simp [*]
attribute [local simp] Ct.row in
theorem spec216 (us : List Ct) (hus : us.length ≤ Flat.lim) (pub a m b : Nat) (hpa : pub ≤ a) (ham : a < m) (hmb : m < b) (hb : b ≤ us.length) (f : Fn) : Flat.Sp Tryz.prog 314 [.sl 0 us.length 0 us.length, vv (.int .i64 a), vv (.int .i64 m), vv (.int .i64 b), .fn f []] [(.arr 0, .arr 71 2 (us.map Ct.row) pub)] (.tup []) [(.arr 0, .arr 71 2 ((rot us a m b).map Ct.row) pub)] := by
 refine sk Tryz.func314 ?_; intro F G hn hG; obtain ⟨i0, hi0⟩ : ∃ i0, i0 + a = m := ⟨m - a, by omega⟩
 obtain ⟨j0, hj0⟩ : ∃ j0, j0 + m = b := ⟨b - m, by omega⟩
 have hwi0 := wsub hi0 (by omega)
 have hwj0 := wsub hj0 (by omega)
 refine srp 1000 [0,1,2,5,10,12,15,31,32,46,47,57] ?_; refine srp 2000 [0,1,2,3,4,5,10,12,18,31,32,46,47,57] ?_; refine sq ?_; refine k_block ?_; refine k_loop (fun n l => ∃ i j : Nat, ∃ cur : List Ct, n = i + j ∧ (cur.length = us.length ∧ 0 < i ∧ 0 < j ∧ a + i ≤ m ∧ m + j ≤ b ∧ rot cur (m - i) m (m + j) = rot us a m b) ∧ l = [(.tmp 0, .av (.sl 0 us.length 0 us.length)), (.tmp 2, .av (vv (.int .i64 m))), (.tmp 4, .av (.fn f [])), (.tmp 10, .av (vv (.int .i64 i))), (.tmp 11, .av (vv (.int .i64 j))), (.arr 0, .arr 71 2 (cur.map Ct.row) pub)]) (i0 + j0) hG ⟨_, ⟨by simp [hwi0, hwj0], by simp, by simp⟩, i0, j0, us, rfl, ⟨rfl, by omega, by omega, by omega, by omega, by rw [show m - i0 = a by omega, show m + j0 = b by omega]⟩, rfl⟩ ?_
 rintro n _ ⟨i, j, cur, hin, ⟨hcl, hi1, hj1, hai, hjb, hrot⟩, rfl⟩; obtain ⟨e, he⟩ : ∃ e, e + i = m := ⟨m - i, by omega⟩
 have hwe := wsub he (by omega)
 refine sq ?_; refine srp 3000 [0,1,2,3,4,5,10,12,18,31,32,46,47,57] ?_; refine cd ?_ ?_
 · intro h20_1
   have hij : ¬ i = j := by have := h20_1; simp at this; omega
   clear h20_1; refine k_skip ?_; refine k_block ?_; refine srp 4000 [0,1,2,3,4,5,10,12,18,31,32,46,47,57] ?_; refine cd ?_ ?_
   · intro h23_2
     have hlt : j < i := by have := h23_2; simp at this; omega
     obtain ⟨d, hd⟩ : ∃ d, d + j = i := ⟨i - j, by omega⟩
     have hwd := wsub hd (by omega)
     refine src 5000 ?_; refine oc id (spec218 cur (by omega) pub e m j (by omega) (by omega) (by omega) (by omega) f) ?_
     refine onp [0,1,2,3,4,5,10,12,18,31,32,46,47,57] ?_; refine rg 6000 ?_; refine k_nil ?_; show AK _ _ _ _ _ _; refine k_nil ?_
     first
       | refine ⟨d + j, by omega, _, ⟨?_, ?_, ?_⟩, d, j, swr Ct.zero cur e m j, rfl, ⟨by simp [hcl], by omega, hj1, by omega, hjb, by rw [← hrot, ← rot_step1 Ct.zero cur (i := i) (j := j) (m := m) (by omega) (by omega) (by omega)]; congr 1 <;> first | omega | (congr 1 <;> omega)⟩, rfl⟩ <;> simp [*] <;> done
       | refine ⟨i + d, by omega, _, ⟨?_, ?_, ?_⟩, i, d, swr Ct.zero cur e q i, rfl, ⟨by simp [hcl], hi1, by omega, hai, by omega, by rw [← hrot, ← rot_step2 Ct.zero cur (i := i) (j := j) (m := m) (by omega) (by omega) (by omega)]; congr 1 <;> first | omega | (congr 1 <;> omega)⟩, rfl⟩ <;> simp [*] <;> done
   · intro h23_2
     have hlt : i < j := by have := h23_2; simp at this; omega
     obtain ⟨d, hd⟩ : ∃ d, d + i = j := ⟨j - i, by omega⟩
     have hwd := wsub hd (by omega)
     obtain ⟨g, hg⟩ : ∃ g, m + j = g := ⟨_, rfl⟩; have hwg := wadd hg (by omega)
     obtain ⟨q, hq⟩ : ∃ q, q + i = g := ⟨g - i, by omega⟩
     have hwq := wsub hq (by omega)
     refine src 7000 ?_; refine oc id (spec218 cur (by omega) pub e q i (by omega) (by omega) (by omega) (by omega) f) ?_
     refine onp [0,1,2,3,4,5,10,12,18,31,32,46,47,57] ?_; refine rg 8000 ?_; refine k_nil ?_; show AK _ _ _ _ _ _; refine k_nil ?_
     first
       | refine ⟨d + j, by omega, _, ⟨?_, ?_, ?_⟩, d, j, swr Ct.zero cur e m j, rfl, ⟨by simp [hcl], by omega, hj1, by omega, hjb, by rw [← hrot, ← rot_step1 Ct.zero cur (i := i) (j := j) (m := m) (by omega) (by omega) (by omega)]; congr 1 <;> first | omega | (congr 1 <;> omega)⟩, rfl⟩ <;> simp [*] <;> done
       | refine ⟨i + d, by omega, _, ⟨?_, ?_, ?_⟩, i, d, swr Ct.zero cur e q i, rfl, ⟨by simp [hcl], hi1, by omega, hai, by omega, by rw [← hrot, ← rot_step2 Ct.zero cur (i := i) (j := j) (m := m) (by omega) (by omega) (by omega)]; congr 1 <;> first | omega | (congr 1 <;> omega)⟩, rfl⟩ <;> simp [*] <;> done
 · intro h20_1
   have hij : i = j := by have := h20_1; simp at this; omega
   subst hij; have hfin := rot_end Ct.zero cur (i := i) (m := m) (by omega) (by omega)
   rw [show m - i = e by omega] at hfin hrot
   rw [hrot] at hfin; refine k_exit ?_; show AK _ _ _ _ _ _; refine rc 9000 ?_; refine oc id (spec218 cur (by omega) pub e m i (by omega) (by omega) (by omega) (by omega) f) ?_
   refine on ?_; refine k_nil ?_; show retQ _ _ _ _ _ _ _; simp [*]
attribute [local simp] Ct.row Ct.av in
set_option maxHeartbeats 1000000 in
theorem spec210 (c : Ct → Ct → Int) (ho : Ord (ltU c)) (us : List Ct) (hus : us.length < Flat.lim) (hc : ∀ x ∈ us, ∀ y ∈ us, Flat.Sp Tryz.prog 160 [x.av, y.av] [] (vv (.int .i64 (c x y))) []) (pub a b : Nat) (hpa : pub ≤ a) (hab : a ≤ b) (hb : b ≤ us.length) : Flat.Sp Tryz.prog 299 [.sl 0 us.length 0 us.length, vv (.int .i64 a), vv (.int .i64 b), .fn (.func 160) []] [(.arr 0, .arr 71 2 (us.map Ct.row) pub)] (.tup []) [(.arr 0, .arr 71 2 ((if a < b then insI c us a b else us).map Ct.row) pub)] := by
 refine sk Tryz.func299 ?_; intro F G hn hG; have hwa := wadd (x := a) (y := 1) rfl (by omega)
 simp only [Int.natCast_one] at hwa; have hst := insI_start c us a; have hta : (us.take a).length = a := by simp; omega
 refine srp 1000 [0,4,8,10,12,53] ?_; refine k_block ?_; refine k_loop (fun n l => ∃ i : Nat, i + n = us.length + 1 ∧ (a < i ∧ (i ≤ b ∨ i = a + 1)) ∧ l = [(.tmp 0, .av (.sl 0 us.length 0 us.length)), (.tmp 1, .av (vv (.int .i64 a))), (.tmp 2, .av (vv (.int .i64 b))), (.tmp 3, .av (.fn (.func 160) [])), (.tmp 8, .av (vv (.int .i64 i))), (.arr 0, .arr 71 2 ((insI c us a i).map Ct.row) pub)]) (us.length - a) hG ⟨_, ⟨by simp [hwa, hst], by simp, by simp⟩, a + 1, by omega, ⟨by omega, .inr rfl⟩, rfl⟩ ?_
 rintro n _ ⟨i, hin, ⟨hai, hib0⟩, rfl⟩; refine sq ?_; refine srp 2000 [0,4,8,10,12,53] ?_; refine cd ?_ ?_
 · intro h14_1
   have hib : i < b := by simpa using h14_1
   obtain ⟨y, hy⟩ : ∃ y, us[i]? = some y := ⟨_, List.getElem?_eq_getElem (by omega)⟩
   have hym := List.mem_of_getElem? hy; have hsl : (isrt (ltU c) (seg us a i)).length = i - a := by rw [isrt_length, seg_len (by omega)]
   have hcu := insI_next ho (a := a) (i := i) (by omega) (by omega) hy
   have hws := wrap_succ (show i < Flat.lim by omega)
   refine k_skip ?_; refine sq ?_; refine k_block ?_; refine srp 4000 [0,4,8,10,12,53] ?_; refine k_block ?_; refine k_loop (fun n l => ∃ j k : Nat, n = k ∧ (a + k = j ∧ k ≤ i - a ∧ ∀ z ∈ (isrt (ltU c) (seg us a i)).drop k, ltU c y z = true) ∧ l = [(.tmp 0, .av (.sl 0 us.length 0 us.length)), (.tmp 1, .av (vv (.int .i64 a))), (.tmp 2, .av (vv (.int .i64 b))), (.tmp 3, .av (.fn (.func 160) [])), (.tmp 8, .av (vv (.int .i64 i))), (.tmp 9, .av (vv (.int .i64 j))), (.arr 0, .arr 71 2 ((insA (us.take a) (isrt (ltU c) (seg us a i)) y (us.drop (i + 1)) k).map Ct.row) pub)]) (i - a) hG ⟨_, ⟨by simp [hcu], by simp, by simp⟩, i, i - a, rfl, ⟨by omega, Nat.le_refl _, by rw [List.drop_eq_nil_of_le (by omega)]; simp⟩, rfl⟩ ?_
   rintro n2 _ ⟨j, k, hnk, ⟨hak, hk, hz⟩, rfl⟩; refine sq ?_; refine sq ?_; refine cv [(.tmp 34, vv (.bool (decide (a < j) && ltU c y ((isrt (ltU c) (seg us a i)).getD (k - 1) Ct.zero))))] ?_ ?_
   · skip
     rcases h0 : (decide (a < j) : Bool) with _ | _
     · skip
       refine dr ?_; refine de 5000 ?_ (h := by simp [*, ltU]; exact is_rfl _)
       iterate 10 (first | refine dp 5950 ?_ (he := by intro hgg; (try simp only [Bool.and_eq_true] at hgg); simp [*, ltU]; exact is_rfl _) | refine ds ?_ | refine dt 5950 ?_ (he := by simp [*, ltU]; exact is_rfl _))
       refine ds ?_; first | refine dp 6150 ?_ (he := by intro hgg; (try simp only [Bool.and_eq_true] at hgg); simp [*, ltU]; exact is_rfl _) | refine ds ?_ | refine dt 6150 ?_ (he := by simp [*, ltU]; exact is_rfl _)
       refine de 6200 ?_ (h := by simp [*, ltU]; exact is_rfl _)
       refine dn ?_; refine k_nil ?_; refine ⟨rfl, ?_, ?_, ?_⟩ <;> simp [*, ltU]
     · skip
       have hkp : a < j := by simpa using h0
       have hkl : k - 1 < (isrt (ltU c) (seg us a i)).length := by omega
       obtain ⟨w, hw⟩ : ∃ w, (isrt (ltU c) (seg us a i))[k - 1]? = some w := ⟨_, List.getElem?_eq_getElem hkl⟩; have hwm : w ∈ us := mem_seg ((isrt_perm _).mem_iff.1 (List.mem_of_getElem? hw)); have hgw : (isrt (ltU c) (seg us a i)).getD (k - 1) Ct.zero = w := by rw [List.getD_eq_getElem?_getD, hw]; rfl
       obtain ⟨jm, hjm⟩ : ∃ jm, jm + 1 = j := ⟨j - 1, by omega⟩
       have hwj := wsub hjm (by omega)
       simp only [Int.natCast_one] at hwj; have hself : (insA (us.take a) (isrt (ltU c) (seg us a i)) y (us.drop (i + 1)) k)[j]? = some y := by have := insA_at (us.take a) (isrt (ltU c) (seg us a i)) y (us.drop (i + 1)) (k := k) (by omega); rw [hta, hak] at this; exact this
       have hpred : (insA (us.take a) (isrt (ltU c) (seg us a i)) y (us.drop (i + 1)) k)[jm]? = some w := by have := insA_pred (us.take a) (isrt (ltU c) (seg us a i)) y (us.drop (i + 1)) (k := k - 1) (by omega); rw [hta, show k - 1 + 1 = k by omega, show a + (k - 1) = jm by omega, hw] at this; exact this
       have hcl : (insA (us.take a) (isrt (ltU c) (seg us a i)) y (us.drop (i + 1)) k).length = us.length := by rw [insA_len, hta, hsl, List.length_drop]; omega
       have hself2 : ∀ h : j < (insA (us.take a) (isrt (ltU c) (seg us a i)) y (us.drop (i + 1)) k).length, (insA (us.take a) (isrt (ltU c) (seg us a i)) y (us.drop (i + 1)) k)[j]'h = y := fun h => (List.getElem?_eq_some_iff.1 hself).2
       have hpred2 : ∀ h : jm < (insA (us.take a) (isrt (ltU c) (seg us a i)) y (us.drop (i + 1)) k).length, (insA (us.take a) (isrt (ltU c) (seg us a i)) y (us.drop (i + 1)) k)[jm]'h = w := fun h => (List.getElem?_eq_some_iff.1 hpred).2
       have hjl : j < us.length := by omega
       have hjl2 : jm < us.length := by omega
       have hpj : pub ≤ j := by omega
       have hpj2 : pub ≤ jm := by omega
       refine dr ?_; refine de 1005000 ?_ (h := by simp [*, ltU]; exact is_rfl _)
       iterate 10 (first | refine dp 1005950 ?_ (he := by intro hgg; (try simp only [Bool.and_eq_true] at hgg); simp [*, ltU]; exact is_rfl _) | refine ds ?_ | refine dt 1005950 ?_ (he := by simp [*, ltU]; exact is_rfl _))
       refine dc id (hc y hym w hwm) ?_ (hg := by simp [*, ltU]) (hf := by simp [*, ltU]; exact is_rfl _) (hx := by simp [*, ltU]; exact is_rfl _) (hargs := by simp [*, ltU]) (hB := by simp [*, ltU]) (hL := by simp [*, ltU]) (hd := by simp [*, ltU]; exact is_rfl _)
       first | refine dp 1006150 ?_ (he := by intro hgg; (try simp only [Bool.and_eq_true] at hgg); simp [*, ltU]; exact is_rfl _) | refine ds ?_ | refine dt 1006150 ?_ (he := by simp [*, ltU]; exact is_rfl _)
       refine de 1006200 ?_ (h := by simp [*, ltU]; exact is_rfl _)
       refine dn ?_; refine k_nil ?_; refine ⟨rfl, ?_, ?_, ?_⟩ <;> simp [*, ltU]
   refine pr [0,4,8,10,12,53] ?_; refine cd ?_ ?_
   · intro h34_2
     have h34_2 : (decide (a < j) && ltU c y ((isrt (ltU c) (seg us a i)).getD (k - 1) Ct.zero)) = true := h34_2; simp only [Bool.and_eq_true, decide_eq_true_eq] at h34_2; have hkp := h34_2.1; have hkl : k - 1 < (isrt (ltU c) (seg us a i)).length := by omega
     obtain ⟨w, hw⟩ : ∃ w, (isrt (ltU c) (seg us a i))[k - 1]? = some w := ⟨_, List.getElem?_eq_getElem hkl⟩; have hwm : w ∈ us := mem_seg ((isrt_perm _).mem_iff.1 (List.mem_of_getElem? hw)); have hgw : (isrt (ltU c) (seg us a i)).getD (k - 1) Ct.zero = w := by rw [List.getD_eq_getElem?_getD, hw]; rfl
     obtain ⟨jm, hjm⟩ : ∃ jm, jm + 1 = j := ⟨j - 1, by omega⟩
     have hwj := wsub hjm (by omega)
     simp only [Int.natCast_one] at hwj; have hself : (insA (us.take a) (isrt (ltU c) (seg us a i)) y (us.drop (i + 1)) k)[j]? = some y := by have := insA_at (us.take a) (isrt (ltU c) (seg us a i)) y (us.drop (i + 1)) (k := k) (by omega); rw [hta, hak] at this; exact this
     have hpred : (insA (us.take a) (isrt (ltU c) (seg us a i)) y (us.drop (i + 1)) k)[jm]? = some w := by have := insA_pred (us.take a) (isrt (ltU c) (seg us a i)) y (us.drop (i + 1)) (k := k - 1) (by omega); rw [hta, show k - 1 + 1 = k by omega, show a + (k - 1) = jm by omega, hw] at this; exact this
     have hcl : (insA (us.take a) (isrt (ltU c) (seg us a i)) y (us.drop (i + 1)) k).length = us.length := by rw [insA_len, hta, hsl, List.length_drop]; omega
     have hself2 : ∀ h : j < (insA (us.take a) (isrt (ltU c) (seg us a i)) y (us.drop (i + 1)) k).length, (insA (us.take a) (isrt (ltU c) (seg us a i)) y (us.drop (i + 1)) k)[j]'h = y := fun h => (List.getElem?_eq_some_iff.1 hself).2
     have hpred2 : ∀ h : jm < (insA (us.take a) (isrt (ltU c) (seg us a i)) y (us.drop (i + 1)) k).length, (insA (us.take a) (isrt (ltU c) (seg us a i)) y (us.drop (i + 1)) k)[jm]'h = w := fun h => (List.getElem?_eq_some_iff.1 hpred).2
     have hjl : j < us.length := by omega
     have hjl2 : jm < us.length := by omega
     have hpj : pub ≤ j := by omega
     have hpj2 : pub ≤ jm := by omega
     rw [hgw] at h34_2; have hnx : insA (us.take a) (isrt (ltU c) (seg us a i)) y (us.drop (i + 1)) (k - 1) = ((insA (us.take a) (isrt (ltU c) (seg us a i)) y (us.drop (i + 1)) k).set j w).set jm y := by have h := insA_swp Ct.zero (us.take a) (isrt (ltU c) (seg us a i)) y (us.drop (i + 1)) (k := k - 1) (by omega); rw [hta, show k - 1 + 1 = k by omega, show a + (k - 1) + 1 = j by omega, show a + (k - 1) = jm by omega] at h; rw [← h]; simp [swp, List.getD, hself, hpred]
     have hz2 := drop_all hkl hw h34_2.2 (by omega) hz
     refine k_skip ?_; refine sq ?_; refine k_block ?_; refine dr ?_; refine de 7000 ?_; refine dn ?_; refine k_nil ?_; show AK _ _ _ _ _ _; refine rg 6000 ?_; refine k_nil ?_; refine ⟨k - 1, by omega, _, ⟨?_, ?_, ?_⟩, jm, k - 1, rfl, ⟨by omega, by omega, hz2⟩, rfl⟩ <;> simp [*]
   · intro h34_2
     have h34_2 : (decide (a < j) && ltU c y ((isrt (ltU c) (seg us a i)).getD (k - 1) Ct.zero)) = false := h34_2; have hdn := insI_done ho (a := a) (i := i) (by omega) (by omega) hy hk hz (stop_of h34_2 hak)
     refine k_exit ?_; show AK _ _ _ _ _ _; refine k_nil ?_; show AK _ _ _ _ _ _; refine rg 3000 ?_; refine k_nil ?_; refine ⟨n - 1, by omega, _, ⟨?_, ?_, ?_⟩, i + 1, by omega, ⟨by omega, .inl (by omega)⟩, rfl⟩ <;> simp [*]
 · intro h14_1
   have hib : b ≤ i := by simpa using h14_1
   have hend : insI c us a i = if a < b then insI c us a b else us := ins_end hst hai hib hib0
   refine k_exit ?_; show AK _ _ _ _ _ _; refine k_nil ?_; show retQ _ _ _ _ _ _ _; simp [*]
end
section
attribute [local simp] Ct.row Ct.av in
set_option maxHeartbeats 1000000 in
theorem spec211_one (c : Ct → Ct → Int) (ho : Ord (ltU c)) (us : List Ct) (hus : us.length < Flat.lim) (hc : ∀ x ∈ us, ∀ y ∈ us, Flat.Sp Tryz.prog 160 [x.av, y.av] [] (vv (.int .i64 (c x y))) []) (pub a m b : Nat) (hpa : pub ≤ a) (ham : a + 1 = m) (hmb : m < b) (hb : b ≤ us.length) (hl2 : Line (ltU c) (seg us m b)) : Flat.Sp Tryz.prog 300 [.sl 0 us.length 0 us.length, vv (.int .i64 a), vv (.int .i64 m), vv (.int .i64 b), .fn (.func 160) []] [(.arr 0, .arr 71 2 ((us).map Ct.row) pub)] (.tup []) [(.arr 0, .arr 71 2 ((mergeI (ltU c) us a m b).map Ct.row) pub)] := by
 refine sk Tryz.func300 ?_; intro F G hn hG; have hw0 := wsub (x := m) (y := a) (d := 1) (by omega) (by omega)
 simp only [Int.natCast_one] at hw0; obtain ⟨x, hx⟩ : ∃ x, us[a]? = some x := ⟨_, List.getElem?_eq_getElem (by omega)⟩
 have hx2 : ∀ hh : a < us.length, us[a]'hh = x := fun hh => (List.getElem?_eq_some_iff.1 hx).2
 have hxm := List.mem_of_getElem? hx; have hal : a < us.length := by omega
 have hst := sym_one_start (us := us) (a := a) (b := b) hx (by omega)
 rw [ham] at hst; have hmono := q1_mono ho hl2 hb x Ct.zero; have hsl := seg_len (l := us) (a := m) hb; have hta : (us.take a).length = a := by simp; omega
 refine sq ?_; refine srp 1000 [0,5,10,25,28,191,192,205,206,219] ?_; refine ct ?_; refine srp 2000 [0,5,10,25,30,191,192,205,206,219] ?_; refine srp 3000 [0,5,10,25,31,191,192,205,206,219] ?_; refine sq ?_; refine k_block ?_; refine k_loop (fun n l => ∃ i j : Nat, n = j - i ∧ BS (q1 (ltU c) us x Ct.zero) m b i j ∧ l = [(.tmp 0, .av (.sl 0 us.length 0 us.length)), (.tmp 1, .av (vv (.int .i64 a))), (.tmp 2, .av (vv (.int .i64 m))), (.tmp 3, .av (vv (.int .i64 b))), (.tmp 4, .av (.fn (.func 160) [])), (.tmp 10, .av (vv (.int .i64 i))), (.tmp 11, .av (vv (.int .i64 j))), (.arr 0, .arr 71 2 ((us).map Ct.row) pub)]) (b - m) hG ⟨_, ⟨by simp, by simp, by simp⟩, m, b, rfl, .start (by omega), rfl⟩ ?_
 rintro n _ ⟨i, j, hin, hB, rfl⟩; have hB1 := hB.a; have hB2 := hB.b; have hB3 := hB.c; refine sq ?_; refine srp 4000 [0,5,10,25,31,191,192,205,206,219] ?_; refine cd ?_ ?_
 · intro h33_1
   have hij : i < j := by simpa using h33_1
   obtain ⟨s, hs⟩ : ∃ s, i + j = s := ⟨_, rfl⟩; obtain ⟨h, hh⟩ : ∃ h, s / 2 = h := ⟨_, rfl⟩; have hws := wadd2 hs (by simp only [Flat.lim] at hus; omega)
   obtain ⟨hwu, hfd, hwh⟩ := half_of hs hh (by simp only [Flat.lim] at hus; omega)
   have hws1 := wrap_succ (show h < Flat.lim by omega)
   have hhl : h < us.length := by omega
   obtain ⟨w, hw⟩ : ∃ w, us[h]? = some w := ⟨_, List.getElem?_eq_getElem (by omega)⟩
   have hw2 : ∀ hh : h < us.length, us[h]'hh = w := fun hh => (List.getElem?_eq_some_iff.1 hw).2
   have hwm := List.mem_of_getElem? hw; have hgw : us.getD h Ct.zero = w := by rw [List.getD_eq_getElem?_getD, hw]; rfl
   refine k_skip ?_; refine k_block ?_; refine srp 5000 [0,5,10,25,31,191,192,205,206,219] ?_; refine sq ?_; refine dr ?_; refine de 6000 ?_ (h := by simp [*, ltU]; exact is_rfl _)
   refine dc id (hc w hwm x hxm) ?_ (hg := by simp [*, ltU]) (hf := by simp [*, ltU]; exact is_rfl _) (hx := by simp [*, ltU]; exact is_rfl _) (hargs := by simp [*, ltU]) (hB := by simp [*, ltU]) (hL := by simp [*, ltU]) (hd := by simp [*, ltU]; exact is_rfl _)
   refine de 6100 ?_ (h := by simp [*, ltU]; exact is_rfl _)
   refine dn ?_; refine pr [0,5,10,25,31,191,192,205,206,219] ?_; refine cd ?_ ?_
   · intro h50_2
     have hBu := hB.up hmono (h := h) (by omega) (by omega) (by simp only [q1, hgw, Bool.not_eq_false']; exact h50_2)
     refine rg 7000 ?_; refine k_nil ?_; show AK _ _ _ _ _ _; refine k_nil ?_
     first
       | refine ⟨j - (h + 1), by omega, _, ⟨?_, ?_, ?_⟩, h + 1, j, rfl, hBu, rfl⟩ <;> simp [*] <;> done
       | refine ⟨h - i, by omega, _, ⟨?_, ?_, ?_⟩, i, h, rfl, hBd, rfl⟩ <;> simp [*] <;> done
   · intro h50_2
     have hBd := hB.dn hmono (h := h) (by omega) (by omega) (by simp only [q1, hgw, Bool.not_eq_true']; exact h50_2)
     refine rg 8000 ?_; refine k_nil ?_; show AK _ _ _ _ _ _; refine k_nil ?_
     first
       | refine ⟨j - (h + 1), by omega, _, ⟨?_, ?_, ?_⟩, h + 1, j, rfl, hBu, rfl⟩ <;> simp [*] <;> done
       | refine ⟨h - i, by omega, _, ⟨?_, ?_, ?_⟩, i, h, rfl, hBd, rfl⟩ <;> simp [*] <;> done
 · intro h33_1
   obtain rfl : i = j := by have : ¬ i < j := (by simpa using h33_1); have := hB.b; omega
   have hfin := sym_one ho hx (by rw [ham]; exact hl2) hb (by rw [ham]; exact hB)
   rw [ham] at hfin; have hB1 := hB.a; have hB3 := hB.c; obtain ⟨im, him⟩ : ∃ im, im + 1 = i := ⟨i - 1, by omega⟩
   have hwi := wsub him (by omega)
   simp only [Int.natCast_one] at hwi; refine k_exit ?_; show AK _ _ _ _ _ _; refine sq ?_; refine srp 9000 [0,5,10,11,13,25,55,191,192,205,206,219] ?_; refine k_block ?_; refine k_loop (fun n l => ∃ t k : Nat, t + n = i - m ∧ a + t = k ∧ l = [(.tmp 0, .av (.sl 0 us.length 0 us.length)), (.tmp 1, .av (vv (.int .i64 a))), (.tmp 2, .av (vv (.int .i64 m))), (.tmp 3, .av (vv (.int .i64 b))), (.tmp 4, .av (.fn (.func 160) [])), (.tmp 10, .av (vv (.int .i64 i))), (.tmp 13, .av (vv (.int .i64 k))), (.arr 0, .arr 71 2 ((insA (us.take a) (seg us m b) x (us.drop b) t).map Ct.row) pub)]) (i - m) hG ⟨_, ⟨by simp [hst], by simp, by simp⟩, 0, a, by omega, rfl, rfl⟩ ?_
   rintro n2 _ ⟨t, k, htn, hat, rfl⟩; refine sq ?_; refine srp 10000 [0,5,10,11,13,25,55,191,192,205,206,219] ?_; refine cd ?_ ?_
   · intro h58_3
     have hkm : k < im := by have := h58_3; simp at this; omega
     obtain ⟨kp, hkp⟩ : ∃ kp, k + 1 = kp := ⟨_, rfl⟩; have hwk := wadd hkp (by omega)
     simp only [Int.natCast_one] at hwk; obtain ⟨w, hw⟩ : ∃ w, (seg us m b)[t]? = some w := ⟨_, List.getElem?_eq_getElem (by omega)⟩
     have hself : (insA (us.take a) (seg us m b) x (us.drop b) t)[k]? = some x := by have := insA_at (us.take a) (seg us m b) x (us.drop b) (k := t) (by omega); rw [hta, hat] at this; exact this
     have hsucc : (insA (us.take a) (seg us m b) x (us.drop b) t)[kp]? = some w := by have := insA_succ (us.take a) (seg us m b) x (us.drop b) (k := t) (by omega); rw [hta, hat, hkp, hw] at this; exact this
     have hcl : (insA (us.take a) (seg us m b) x (us.drop b) t).length = us.length := by rw [insA_len, hta, hsl, List.length_drop]; omega
     have hself2 : ∀ h : k < (insA (us.take a) (seg us m b) x (us.drop b) t).length, (insA (us.take a) (seg us m b) x (us.drop b) t)[k]'h = x := fun h => (List.getElem?_eq_some_iff.1 hself).2
     have hsucc2 : ∀ h : kp < (insA (us.take a) (seg us m b) x (us.drop b) t).length, (insA (us.take a) (seg us m b) x (us.drop b) t)[kp]'h = w := fun h => (List.getElem?_eq_some_iff.1 hsucc).2
     have hkl : k < us.length := by omega
     have hkl2 : kp < us.length := by omega
     have hpk : pub ≤ k := by omega
     have hpk2 : pub ≤ kp := by omega
     have hnx : insA (us.take a) (seg us m b) x (us.drop b) (t + 1) = ((insA (us.take a) (seg us m b) x (us.drop b) t).set k w).set kp x := by have h := insA_swp2 Ct.zero (us.take a) (seg us m b) x (us.drop b) (k := t) (by omega); rw [hta, hat, hkp] at h; rw [← h]; simp [swp, List.getD, hself, hsucc]
     refine k_skip ?_; refine sq ?_; refine k_block ?_; refine dr ?_; refine de 12000 ?_; refine dn ?_; refine k_nil ?_; show AK _ _ _ _ _ _; refine rg 11000 ?_; refine k_nil ?_; refine ⟨n2 - 1, by omega, _, ⟨?_, ?_, ?_⟩, t + 1, kp, by omega, by omega, rfl⟩ <;> simp [*]
   · intro h58_3
     have hkm : ¬ k < im := by have := h58_3; simp at this; omega
     obtain rfl : t = i - m := by omega
     refine k_exit ?_; show AK _ _ _ _ _ _; refine k_ret ?_; show retQ _ _ _ _ _ _ _; simp [*]
attribute [local simp] Ct.row Ct.av in
set_option maxHeartbeats 1000000 in
theorem spec211_last (c : Ct → Ct → Int) (ho : Ord (ltU c)) (us : List Ct) (hus : us.length < Flat.lim) (hc : ∀ x ∈ us, ∀ y ∈ us, Flat.Sp Tryz.prog 160 [x.av, y.av] [] (vv (.int .i64 (c x y))) []) (pub a m b : Nat) (hpa : pub ≤ a) (ham : a + 1 < m) (hmb : m + 1 = b) (hb : b ≤ us.length) (hl1 : Line (ltU c) (seg us a m)) : Flat.Sp Tryz.prog 300 [.sl 0 us.length 0 us.length, vv (.int .i64 a), vv (.int .i64 m), vv (.int .i64 b), .fn (.func 160) []] [(.arr 0, .arr 71 2 ((us).map Ct.row) pub)] (.tup []) [(.arr 0, .arr 71 2 ((mergeI (ltU c) us a m b).map Ct.row) pub)] := by
 refine sk Tryz.func300 ?_; intro F G hn hG; obtain ⟨d0, hd0⟩ : ∃ d, d + a = m := ⟨m - a, by omega⟩
 have hw0 := wsub hd0 (by omega)
 have hd1 : ((d0 : Int) == 1) = false := by simp; omega
 have hw1 := wsub (x := b) (y := m) (d := 1) (by omega) (by omega)
 simp only [Int.natCast_one] at hw1; obtain ⟨y, hy⟩ : ∃ y, us[m]? = some y := ⟨_, List.getElem?_eq_getElem (by omega)⟩
 have hy2 : ∀ hh : m < us.length, us[m]'hh = y := fun hh => (List.getElem?_eq_some_iff.1 hy).2
 have hym := List.mem_of_getElem? hy; have hml : m < us.length := by omega
 have hst := sym_last_start (us := us) (a := a) (m := m) hy (by omega)
 rw [hmb] at hst; have hmono := q2_mono ho hl1 (by omega) y Ct.zero
 have hsl := seg_len (l := us) (a := a) (b := m) (by omega)
 have hta : (us.take a).length = a := by simp; omega
 refine sq ?_; refine srp 1000 [0,5,10,25,28,191,192,205,206,219] ?_; refine ce ?_; refine k_skip ?_; refine sq ?_; refine srp 13000 [0,5,14,25,80,191,192,205,206,219] ?_; refine ct ?_; refine srp 14000 [0,5,14,25,82,191,192,205,206,219] ?_; refine srp 15000 [0,5,14,25,83,191,192,205,206,219] ?_; refine sq ?_; refine k_block ?_; refine k_loop (fun n l => ∃ i j : Nat, n = j - i ∧ BS (q2 (ltU c) us y Ct.zero) a m i j ∧ l = [(.tmp 0, .av (.sl 0 us.length 0 us.length)), (.tmp 1, .av (vv (.int .i64 a))), (.tmp 2, .av (vv (.int .i64 m))), (.tmp 3, .av (vv (.int .i64 b))), (.tmp 4, .av (.fn (.func 160) [])), (.tmp 14, .av (vv (.int .i64 i))), (.tmp 15, .av (vv (.int .i64 j))), (.arr 0, .arr 71 2 ((us).map Ct.row) pub)]) (m - a) hG ⟨_, ⟨by simp, by simp, by simp⟩, a, m, rfl, .start (by omega), rfl⟩ ?_
 rintro n _ ⟨i, j, hin, hB, rfl⟩; have hB1 := hB.a; have hB2 := hB.b; have hB3 := hB.c; refine sq ?_; refine srp 16000 [0,5,14,25,83,191,192,205,206,219] ?_; refine cd ?_ ?_
 · intro h85_1
   have hij : i < j := by simpa using h85_1
   obtain ⟨s, hs⟩ : ∃ s, i + j = s := ⟨_, rfl⟩; obtain ⟨h, hh⟩ : ∃ h, s / 2 = h := ⟨_, rfl⟩; have hws := wadd2 hs (by simp only [Flat.lim] at hus; omega)
   obtain ⟨hwu, hfd, hwh⟩ := half_of hs hh (by simp only [Flat.lim] at hus; omega)
   have hws1 := wrap_succ (show h < Flat.lim by omega)
   have hhl : h < us.length := by omega
   obtain ⟨w, hw⟩ : ∃ w, us[h]? = some w := ⟨_, List.getElem?_eq_getElem (by omega)⟩
   have hw2 : ∀ hh : h < us.length, us[h]'hh = w := fun hh => (List.getElem?_eq_some_iff.1 hw).2
   have hwm := List.mem_of_getElem? hw; have hgw : us.getD h Ct.zero = w := by rw [List.getD_eq_getElem?_getD, hw]; rfl
   refine k_skip ?_; refine k_block ?_; refine srp 17000 [0,5,14,25,83,191,192,205,206,219] ?_; refine sq ?_; refine dr ?_; refine de 18000 ?_ (h := by simp [*, ltU]; exact is_rfl _)
   refine dc id (hc y hym w hwm) ?_ (hg := by simp [*, ltU]) (hf := by simp [*, ltU]; exact is_rfl _) (hx := by simp [*, ltU]; exact is_rfl _) (hargs := by simp [*, ltU]) (hB := by simp [*, ltU]) (hL := by simp [*, ltU]) (hd := by simp [*, ltU]; exact is_rfl _)
   refine de 18100 ?_ (h := by simp [*, ltU]; exact is_rfl _)
   refine dn ?_; refine pr [0,5,14,25,83,191,192,205,206,219] ?_; refine cd ?_ ?_
   · intro h103_2
     have hBu := hB.up hmono (h := h) (by omega) (by omega) (by simp only [q2, hgw]; simpa [ltU] using h103_2)
     refine rg 19000 ?_; refine k_nil ?_; show AK _ _ _ _ _ _; refine k_nil ?_
     first
       | refine ⟨j - (h + 1), by omega, _, ⟨?_, ?_, ?_⟩, h + 1, j, rfl, hBu, rfl⟩ <;> simp [*] <;> done
       | refine ⟨h - i, by omega, _, ⟨?_, ?_, ?_⟩, i, h, rfl, hBd, rfl⟩ <;> simp [*] <;> done
   · intro h103_2
     have hBd := hB.dn hmono (h := h) (by omega) (by omega) (by simp only [q2, hgw]; simpa [ltU] using h103_2)
     refine rg 20000 ?_; refine k_nil ?_; show AK _ _ _ _ _ _; refine k_nil ?_
     first
       | refine ⟨j - (h + 1), by omega, _, ⟨?_, ?_, ?_⟩, h + 1, j, rfl, hBu, rfl⟩ <;> simp [*] <;> done
       | refine ⟨h - i, by omega, _, ⟨?_, ?_, ?_⟩, i, h, rfl, hBd, rfl⟩ <;> simp [*] <;> done
 · intro h85_1
   obtain rfl : i = j := by have : ¬ i < j := (by simpa using h85_1); have := hB.b; omega
   have hfin := sym_last ho hy hl1 (by omega) hB
   rw [hmb] at hfin; have hB1 := hB.a; have hB3 := hB.c; refine k_exit ?_; show AK _ _ _ _ _ _; refine sq ?_; refine srp 21000 [0,5,14,15,17,25,108,191,192,205,206,219] ?_; refine k_block ?_; refine k_loop (fun n l => ∃ t k : Nat, n + (i - a) = t ∧ a + t = k ∧ k ≤ m ∧ l = [(.tmp 0, .av (.sl 0 us.length 0 us.length)), (.tmp 1, .av (vv (.int .i64 a))), (.tmp 2, .av (vv (.int .i64 m))), (.tmp 3, .av (vv (.int .i64 b))), (.tmp 4, .av (.fn (.func 160) [])), (.tmp 14, .av (vv (.int .i64 i))), (.tmp 17, .av (vv (.int .i64 k))), (.arr 0, .arr 71 2 ((insA (us.take a) (seg us a m) y (us.drop b) t).map Ct.row) pub)]) (m - i) hG ⟨_, ⟨by simp [hst], by simp, by simp⟩, m - a, m, by omega, by omega, by omega, rfl⟩ ?_
   rintro n2 _ ⟨t, k, htn, hat, hkm0, rfl⟩; refine sq ?_; refine srp 22000 [0,5,14,15,17,25,108,191,192,205,206,219] ?_; refine cd ?_ ?_
   · intro h110_3
     have hkm : i < k := by have := h110_3; simp at this; omega
     obtain ⟨km, hkp⟩ : ∃ km, km + 1 = k := ⟨k - 1, by omega⟩
     have hwk := wsub hkp (by omega)
     simp only [Int.natCast_one] at hwk; obtain ⟨t, rfl⟩ : ∃ t0, t = t0 + 1 := ⟨t - 1, by omega⟩
     obtain ⟨w, hw⟩ : ∃ w, (seg us a m)[t]? = some w := ⟨_, List.getElem?_eq_getElem (by omega)⟩
     have hself : (insA (us.take a) (seg us a m) y (us.drop b) (t + 1))[k]? = some y := by have := insA_at (us.take a) (seg us a m) y (us.drop b) (k := t + 1) (by omega); rw [hta, hat] at this; exact this
     have hsucc : (insA (us.take a) (seg us a m) y (us.drop b) (t + 1))[km]? = some w := by have := insA_pred (us.take a) (seg us a m) y (us.drop b) (k := t) (by omega); rw [hta, show a + t = km by omega, hw] at this; exact this
     have hcl : (insA (us.take a) (seg us a m) y (us.drop b) (t + 1)).length = us.length := by rw [insA_len, hta, hsl, List.length_drop]; omega
     have hself2 : ∀ h : k < (insA (us.take a) (seg us a m) y (us.drop b) (t + 1)).length, (insA (us.take a) (seg us a m) y (us.drop b) (t + 1))[k]'h = y := fun h => (List.getElem?_eq_some_iff.1 hself).2
     have hsucc2 : ∀ h : km < (insA (us.take a) (seg us a m) y (us.drop b) (t + 1)).length, (insA (us.take a) (seg us a m) y (us.drop b) (t + 1))[km]'h = w := fun h => (List.getElem?_eq_some_iff.1 hsucc).2
     have hkl : k < us.length := by omega
     have hkl2 : km < us.length := by omega
     have hpk : pub ≤ k := by omega
     have hpk2 : pub ≤ km := by omega
     have hnx : insA (us.take a) (seg us a m) y (us.drop b) t = ((insA (us.take a) (seg us a m) y (us.drop b) (t + 1)).set k w).set km y := by have h := insA_swp Ct.zero (us.take a) (seg us a m) y (us.drop b) (k := t) (by omega); rw [hta, show a + t + 1 = k by omega, show a + t = km by omega] at h; rw [← h]; simp [swp, List.getD, hself, hsucc]
     refine k_skip ?_; refine sq ?_; refine k_block ?_; refine dr ?_; refine de 24000 ?_; refine dn ?_; refine k_nil ?_; show AK _ _ _ _ _ _; refine rg 23000 ?_; refine k_nil ?_; refine ⟨n2 - 1, by omega, _, ⟨?_, ?_, ?_⟩, t, km, by omega, by omega, by omega, rfl⟩ <;> simp [*]
   · intro h110_3
     have hkm : ¬ i < k := by have := h110_3; simp at this; omega
     obtain rfl : t = i - a := by omega
     refine k_exit ?_; show AK _ _ _ _ _ _; refine k_ret ?_; show retQ _ _ _ _ _ _ _; simp [*]
attribute [local simp] Ct.row Ct.av in
set_option maxHeartbeats 2000000 in
theorem spec211_g0 (c : Ct → Ct → Int) (ho : Ord (ltU c)) (us : List Ct) (hus : us.length < Flat.lim) (hc : ∀ x ∈ us, ∀ y ∈ us, Flat.Sp Tryz.prog 160 [x.av, y.av] [] (vv (.int .i64 (c x y))) []) (pub a m b mid : Nat) (hpa : pub ≤ a) (ham : a + 1 < m) (hmb : m + 1 < b) (hb : b ≤ us.length) (hmd : (a + b) / 2 = mid) (hv : mid < m) (hl1 : Line (ltU c) (seg us a m)) (hl2 : Line (ltU c) (seg us m b)) (ih : ∀ (vs : List Ct) (a' m' b' : Nat), vs.length = us.length → vs.Perm us → pub ≤ a' → a' < m' → m' < b' → b' ≤ vs.length → b' - a' < b - a → Line (ltU c) (seg vs a' m') → Line (ltU c) (seg vs m' b') → Flat.Sp Tryz.prog 300 [.sl 0 vs.length 0 vs.length, vv (.int .i64 a'), vv (.int .i64 m'), vv (.int .i64 b'), .fn (.func 160) []] [(.arr 0, .arr 71 2 ((vs).map Ct.row) pub)] (.tup []) [(.arr 0, .arr 71 2 ((mergeI (ltU c) vs a' m' b').map Ct.row) pub)])  : Flat.Sp Tryz.prog 300 [.sl 0 us.length 0 us.length, vv (.int .i64 a), vv (.int .i64 m), vv (.int .i64 b), .fn (.func 160) []] [(.arr 0, .arr 71 2 ((us).map Ct.row) pub)] (.tup []) [(.arr 0, .arr 71 2 ((mergeI (ltU c) us a m b).map Ct.row) pub)] := by
 refine sk Tryz.func300 ?_; intro F G hn hG; obtain ⟨d0, hd0⟩ : ∃ d, d + a = m := ⟨m - a, by omega⟩
 have hw0 := wsub hd0 (by omega)
 have hd1 : ((d0 : Int) == 1) = false := by simp; omega
 obtain ⟨d2, hd2⟩ : ∃ d, d + m = b := ⟨b - m, by omega⟩
 have hw2 := wsub hd2 (by omega)
 have hd3 : ((d2 : Int) == 1) = false := by simp; omega
 obtain ⟨ab, hab⟩ : ∃ s, a + b = s := ⟨_, rfl⟩; have hwab := wadd2 hab (by simp only [Flat.lim] at hus; omega)
 obtain ⟨hmu, hmf, hmw⟩ := half_of hab (show ab / 2 = mid by rw [← hab]; exact hmd) (by simp only [Flat.lim] at hus; omega)
 obtain ⟨nn, hnn⟩ : ∃ s, mid + m = s := ⟨_, rfl⟩; have hwnn := wadd2 hnn (by simp only [Flat.lim] at hus; omega)
 obtain ⟨p, hp⟩ : ∃ p, p + 1 = nn := ⟨nn - 1, by omega⟩
 have hwp := wsub2 hp (by simp only [Flat.lim] at hus; omega)
 simp only [Int.natCast_one] at hwp; have hbr : (m : Int) > (mid : Int) := by omega
 obtain ⟨lo, hlo⟩ : ∃ lo, lo + b = nn := ⟨nn - b, by omega⟩
 have hwlo := wsub2 hlo (by simp only [Flat.lim] at hus; omega)
 have hmono := q3_mono ho hl1 hl2 (lo := lo) (hi := mid) (p := p) (by omega) (by omega) Ct.zero (by omega) (by omega) (by omega) (by omega)
 refine sq ?_; refine srp 1000 [0,5,10,25,28,191,192,205,206,219] ?_; refine ce ?_; refine k_skip ?_; refine sq ?_; refine srp 13000 [0,5,14,25,80,191,192,205,206,219] ?_; refine ce ?_; refine k_skip ?_; refine srp 25000 [0,5,18,25,135,191,192,205,206,219] ?_; refine srp 26000 [0,5,18,25,138,191,192,205,206,219] ?_; refine srp 27000 [0,5,18,25,138,191,192,205,206,219] ?_; refine sq ?_; refine srp 28000 [0,5,18,25,140,191,192,205,206,219] ?_; refine ct ?_; refine srp 29000 [0,5,18,25,144,145,147,191,192,205,206,219] ?_; refine rgp 30000 [0,5,18,25,147,191,192,205,206,219] ?_; refine srp 33000 [0,5,18,25,149,191,192,205,206,219] ?_; refine sq ?_; refine k_block ?_; refine k_loop (fun n l => ∃ i j : Nat, n = j - i ∧ BS (q3 (ltU c) us p Ct.zero) lo mid i j ∧ l = [(.tmp 0, .av (.sl 0 us.length 0 us.length)), (.tmp 1, .av (vv (.int .i64 a))), (.tmp 2, .av (vv (.int .i64 m))), (.tmp 3, .av (vv (.int .i64 b))), (.tmp 4, .av (.fn (.func 160) [])), (.tmp 18, .av (vv (.int .i64 mid))), (.tmp 19, .av (vv (.int .i64 nn))), (.tmp 20, .av (vv (.int .i64 i))), (.tmp 21, .av (vv (.int .i64 j))), (.tmp 22, .av (vv (.int .i64 p))), (.arr 0, .arr 71 2 ((us).map Ct.row) pub)]) (mid - lo) hG ⟨_, ⟨by simp, by simp, by simp⟩, lo, mid, rfl, .start (by omega), rfl⟩ ?_
 rintro n _ ⟨i, j, hin, hB, rfl⟩; have hB1 := hB.a; have hB2 := hB.b; have hB3 := hB.c; refine sq ?_; refine srp 34000 [0,5,18,25,149,191,192,205,206,219] ?_; refine cd ?_ ?_
 · intro h151_1
   have hij : i < j := by simpa using h151_1
   obtain ⟨s, hs⟩ : ∃ s, i + j = s := ⟨_, rfl⟩; obtain ⟨h, hh⟩ : ∃ h, s / 2 = h := ⟨_, rfl⟩; have hws := wadd2 hs (by simp only [Flat.lim] at hus; omega)
   obtain ⟨hwu, hfd, hwh⟩ := half_of hs hh (by simp only [Flat.lim] at hus; omega)
   have hws1 := wrap_succ (show h < Flat.lim by omega)
   have hhl : h < us.length := by omega
   obtain ⟨w, hw⟩ : ∃ w, us[h]? = some w := ⟨_, List.getElem?_eq_getElem (by omega)⟩
   have hw3 : ∀ hh : h < us.length, us[h]'hh = w := fun hh => (List.getElem?_eq_some_iff.1 hw).2
   have hwm := List.mem_of_getElem? hw; obtain ⟨r, hr⟩ : ∃ r, r + h = p := ⟨p - h, by omega⟩
   have hwr := wsub2 hr (by simp only [Flat.lim] at hus; omega)
   have hrl2 : r < us.length := by omega
   obtain ⟨y, hy⟩ : ∃ y, us[r]? = some y := ⟨_, List.getElem?_eq_getElem (by omega)⟩
   have hy2 : ∀ hh : r < us.length, us[r]'hh = y := fun hh => (List.getElem?_eq_some_iff.1 hy).2
   have hym := List.mem_of_getElem? hy; have hgq : q3 (ltU c) us p Ct.zero h = (ltU c) y w := by rw [q3, show p - h = r by omega, List.getD_eq_getElem?_getD, List.getD_eq_getElem?_getD, hw, hy]; rfl
   refine k_skip ?_; refine k_block ?_; refine srp 35000 [0,5,18,25,149,191,192,205,206,219] ?_; refine sq ?_; refine dr ?_; refine de 36000 ?_ (h := by simp [*, ltU]; exact is_rfl _)
   refine dc id (hc y hym w hwm) ?_ (hg := by simp [*, ltU]) (hf := by simp [*, ltU]; exact is_rfl _) (hx := by simp [*, ltU]; exact is_rfl _) (hargs := by simp [*, ltU]) (hB := by simp [*, ltU]) (hL := by simp [*, ltU]) (hd := by simp [*, ltU]; exact is_rfl _)
   refine de 36100 ?_ (h := by simp [*, ltU]; exact is_rfl _)
   refine dn ?_; refine pr [0,5,18,25,149,191,192,205,206,219] ?_; refine cd ?_ ?_
   · intro h171_2
     have hBu := hB.up hmono (h := h) (by omega) (by omega) (by rw [hgq]; simpa [ltU] using h171_2)
     refine rg 37000 ?_; refine k_nil ?_; show AK _ _ _ _ _ _; refine k_nil ?_
     first
       | refine ⟨j - (h + 1), by omega, _, ⟨?_, ?_, ?_⟩, h + 1, j, rfl, hBu, rfl⟩ <;> simp [*] <;> done
       | refine ⟨h - i, by omega, _, ⟨?_, ?_, ?_⟩, i, h, rfl, hBd, rfl⟩ <;> simp [*] <;> done
   · intro h171_2
     have hBd := hB.dn hmono (h := h) (by omega) (by omega) (by rw [hgq]; simpa [ltU] using h171_2)
     refine rg 38000 ?_; refine k_nil ?_; show AK _ _ _ _ _ _; refine k_nil ?_
     first
       | refine ⟨j - (h + 1), by omega, _, ⟨?_, ?_, ?_⟩, h + 1, j, rfl, hBu, rfl⟩ <;> simp [*] <;> done
       | refine ⟨h - i, by omega, _, ⟨?_, ?_, ?_⟩, i, h, rfl, hBd, rfl⟩ <;> simp [*] <;> done
 · intro h151_1
   obtain rfl : i = j := by have : ¬ i < j := (by simpa using h151_1); have := hB.b; omega
   have hB1 := hB.a; have hB3 := hB.c; obtain ⟨e, he⟩ : ∃ e, e + i = nn := ⟨nn - i, by omega⟩
   have hwe := wsub2 he (by simp only [Flat.lim] at hus; omega)
   have hap := sym_apart ho hl1 hl2 (e := e) (by omega) (by omega) Ct.zero (by omega) (by omega) (by omega) (by omega) (by omega) (by omega) (by omega) hB
   have hsp := sym_split (lt := (ltU c)) (us := us) (a := a) (s := i) (m := m) (e := e) (b := b) (mid := mid) (by omega) (by omega) (by omega) (by omega) (by omega) (by omega) hap.1 hap.2
   have hla := line_sub hl1 (s := i) (by omega) (by omega)
   have hlb := line_sub hl2 (s := e) (by omega) (by omega)
   have hrl0 : (rot us i m e).length = us.length := rot_len us (by omega) (by omega) (by omega)
   have hrl := hrl0; have hrp : (rot us i m e).Perm us := rot_perm (by omega) (by omega)
   have hml : ∀ vs : List Ct, (mergeI (ltU c) vs a i mid).length = vs.length := fun vs => mergeI_len (by omega) (by omega)
   have hml2 : ∀ vs : List Ct, (mergeI (ltU c) vs mid e b).length = vs.length := fun vs => mergeI_len (by omega) (by omega)
   refine k_exit ?_; show AK _ _ _ _ _ _; refine srp 39000 [0,5,18,19,20,21,24,25,178,191,192,205,206,219] ?_; refine sq ?_; refine src 40000 ?_; iterate 3 (first | refine gp 40250 ?_ | refine os ?_ | refine gt 40250 ?_)
   refine oe 40300 ?_; refine onp [0,5,18,19,20,21,24,25,185,191,192,205,206,219] ?_; refine cd ?_ ?_
   · intro h185_3
     have hcc : i < m ∧ m < e := by simpa using h185_3
     have hg205 := fun (q1 : a < i) (q2 : i < mid) => ih (rot us i m e) a i mid (by simp [hrl]) hrp (by omega) q1 q2 (by first | (simp only [hrl]; omega) | omega) (by omega) (by rw [hsp.2.1]; exact hla.1) (by rw [hsp.2.2.1]; exact hlb.1)
     have hg219F := fun l1 l2 (q1 : mid < e) (q2 : e < b) => ih (rot us i m e) mid e b (by simp [hrl]) hrp (by omega) q1 q2 (by first | (simp only [hrl]; omega) | omega) (by omega) l1 l2
     have hg219T := fun l1 l2 (q1 : mid < e) (q2 : e < b) => ih (mergeI (ltU c) (rot us i m e) a i mid) mid e b (by simp [hml, hrl]) ((mergeI_perm (by omega) (by omega)).trans hrp) (by omega) q1 q2 (by simp only [hml, hrl]; omega) (by omega) l1 l2
     refine rc 41000 ?_; refine oc id (spec216 us (by omega) pub i m e (by omega) (by omega) (by omega) (by omega) (.func 160)) ?_
     refine onp [0,2,3,5,18,19,20,21,24,25,192,205,206,219] ?_; refine sq ?_; refine src 42000 ?_; iterate 3 (first | refine gp 42250 ?_ | refine os ?_ | refine gt 42250 ?_)
     refine oe 42300 ?_; refine onp [0,2,3,5,18,19,20,21,24,25,199,205,206,219] ?_; refine cd ?_ ?_
     · intro h199_4
       have hcc2 : a < i ∧ i < mid := by simpa using h199_4
       have hg219 := hg219T (by rw [hsp.2.2.2.1]; exact hla.2) (by rw [hsp.2.2.2.2]; exact hlb.2)
       refine rc 43000 ?_; refine oc id (hg205 hcc2.1 hcc2.2) ?_; refine onp [0,1,3,5,18,19,24,25,206,219] ?_; refine src 44000 ?_; iterate 3 (first | refine gp 44250 ?_ | refine os ?_ | refine gt 44250 ?_)
       refine oe 44300 ?_; refine onp [0,1,3,5,18,19,24,25,213,219] ?_; refine cd ?_ ?_
       · intro h213_5
         have hcc3 : mid < e ∧ e < b := by simpa using h213_5
         refine rc 45000 ?_; refine oc id (hg219 hcc3.1 hcc3.2) ?_; refine on ?_; refine k_nil ?_; show retQ _ _ _ _ _ _ _; simp [*]
       · intro h213_5
         have hcc3 : ¬ (mid < e ∧ e < b) := by simpa using h213_5
         have hm2 : ∀ vs : List Ct, mergeI (ltU c) vs mid e b = vs := by
           intro vs; rcases Nat.lt_or_ge mid e with q | q
           · obtain rfl : e = b := by omega
             exact mergeI_nil2 (by omega)
           · obtain rfl : mid = e := by omega
             exact mergeI_nil1 (by omega)
         rw [hm2] at hsp; have hfin := hsp.1.symm; clear hsp; refine k_skip ?_; refine k_nil ?_; show retQ _ _ _ _ _ _ _; simp [*]
     · intro h199_4
       have hcc2 : ¬ (a < i ∧ i < mid) := by simpa using h199_4
       have hm1 : ∀ vs : List Ct, mergeI (ltU c) vs a i mid = vs := by
         intro vs; rcases Nat.lt_or_ge a i with q | q
         · obtain rfl : i = mid := by omega
           exact mergeI_nil2 (by omega)
         · obtain rfl : a = i := by omega
           exact mergeI_nil1 (by omega)
       rw [hm1] at hsp; have hg219 := hg219F (by rw [hsp.2.2.2.1]; exact hla.2) (by rw [hsp.2.2.2.2]; exact hlb.2)
       refine k_skip ?_; refine src 44000 ?_; iterate 3 (first | refine gp 44250 ?_ | refine os ?_ | refine gt 44250 ?_)
       refine oe 44300 ?_; refine onp [0,1,3,5,18,19,24,25,213,219] ?_; refine cd ?_ ?_
       · intro h213_6
         have hcc3 : mid < e ∧ e < b := by simpa using h213_6
         refine rc 45000 ?_; refine oc id (hg219 hcc3.1 hcc3.2) ?_; refine on ?_; refine k_nil ?_; show retQ _ _ _ _ _ _ _; simp [*]
       · intro h213_6
         have hcc3 : ¬ (mid < e ∧ e < b) := by simpa using h213_6
         have hm2 : ∀ vs : List Ct, mergeI (ltU c) vs mid e b = vs := by
           intro vs; rcases Nat.lt_or_ge mid e with q | q
           · obtain rfl : e = b := by omega
             exact mergeI_nil2 (by omega)
           · obtain rfl : mid = e := by omega
             exact mergeI_nil1 (by omega)
         rw [hm2] at hsp; have hfin := hsp.1.symm; clear hsp; refine k_skip ?_; refine k_nil ?_; show retQ _ _ _ _ _ _ _; simp [*]
   · intro h185_3
     have hcc : ¬ (i < m ∧ m < e) := by simpa using h185_3
     have hrot : rot us i m e = us := by
       rcases Nat.lt_or_ge i m with q | q
       · obtain rfl : m = e := by omega
         exact rot_self2 (by omega)
       · obtain rfl : i = m := by omega
         exact rot_self1 (by omega)
     rw [hrot] at hsp; have hg205 := fun (q1 : a < i) (q2 : i < mid) => ih (us) a i mid (by simp [hrl]) (List.Perm.refl _) (by omega) q1 q2 (by first | (simp only [hrl]; omega) | omega) (by omega) (by rw [hsp.2.1]; exact hla.1) (by rw [hsp.2.2.1]; exact hlb.1)
     have hg219F := fun l1 l2 (q1 : mid < e) (q2 : e < b) => ih (us) mid e b (by simp [hrl]) (List.Perm.refl _) (by omega) q1 q2 (by first | (simp only [hrl]; omega) | omega) (by omega) l1 l2
     have hg219T := fun l1 l2 (q1 : mid < e) (q2 : e < b) => ih (mergeI (ltU c) (us) a i mid) mid e b (by simp [hml, hrl]) ((mergeI_perm (by omega) (by omega)).trans (List.Perm.refl _)) (by omega) q1 q2 (by simp only [hml, hrl]; omega) (by omega) l1 l2
     refine k_skip ?_; refine sq ?_; refine src 42000 ?_; iterate 3 (first | refine gp 42250 ?_ | refine os ?_ | refine gt 42250 ?_)
     refine oe 42300 ?_; refine onp [0,2,3,5,18,19,20,21,24,25,199,205,206,219] ?_; refine cd ?_ ?_
     · intro h199_7
       have hcc2 : a < i ∧ i < mid := by simpa using h199_7
       have hg219 := hg219T (by rw [hsp.2.2.2.1]; exact hla.2) (by rw [hsp.2.2.2.2]; exact hlb.2)
       refine rc 43000 ?_; refine oc id (hg205 hcc2.1 hcc2.2) ?_; refine onp [0,1,3,5,18,19,24,25,206,219] ?_; refine src 44000 ?_; iterate 3 (first | refine gp 44250 ?_ | refine os ?_ | refine gt 44250 ?_)
       refine oe 44300 ?_; refine onp [0,1,3,5,18,19,24,25,213,219] ?_; refine cd ?_ ?_
       · intro h213_8
         have hcc3 : mid < e ∧ e < b := by simpa using h213_8
         refine rc 45000 ?_; refine oc id (hg219 hcc3.1 hcc3.2) ?_; refine on ?_; refine k_nil ?_; show retQ _ _ _ _ _ _ _; simp [*]
       · intro h213_8
         have hcc3 : ¬ (mid < e ∧ e < b) := by simpa using h213_8
         have hm2 : ∀ vs : List Ct, mergeI (ltU c) vs mid e b = vs := by
           intro vs; rcases Nat.lt_or_ge mid e with q | q
           · obtain rfl : e = b := by omega
             exact mergeI_nil2 (by omega)
           · obtain rfl : mid = e := by omega
             exact mergeI_nil1 (by omega)
         rw [hm2] at hsp; have hfin := hsp.1.symm; clear hsp; refine k_skip ?_; refine k_nil ?_; show retQ _ _ _ _ _ _ _; simp [*]
     · intro h199_7
       have hcc2 : ¬ (a < i ∧ i < mid) := by simpa using h199_7
       have hm1 : ∀ vs : List Ct, mergeI (ltU c) vs a i mid = vs := by
         intro vs; rcases Nat.lt_or_ge a i with q | q
         · obtain rfl : i = mid := by omega
           exact mergeI_nil2 (by omega)
         · obtain rfl : a = i := by omega
           exact mergeI_nil1 (by omega)
       rw [hm1] at hsp; have hg219 := hg219F (by rw [hsp.2.2.2.1]; exact hla.2) (by rw [hsp.2.2.2.2]; exact hlb.2)
       refine k_skip ?_; refine src 44000 ?_; iterate 3 (first | refine gp 44250 ?_ | refine os ?_ | refine gt 44250 ?_)
       refine oe 44300 ?_; refine onp [0,1,3,5,18,19,24,25,213,219] ?_; refine cd ?_ ?_
       · intro h213_9
         have hcc3 : mid < e ∧ e < b := by simpa using h213_9
         refine rc 45000 ?_; refine oc id (hg219 hcc3.1 hcc3.2) ?_; refine on ?_; refine k_nil ?_; show retQ _ _ _ _ _ _ _; simp [*]
       · intro h213_9
         have hcc3 : ¬ (mid < e ∧ e < b) := by simpa using h213_9
         have hm2 : ∀ vs : List Ct, mergeI (ltU c) vs mid e b = vs := by
           intro vs; rcases Nat.lt_or_ge mid e with q | q
           · obtain rfl : e = b := by omega
             exact mergeI_nil2 (by omega)
           · obtain rfl : mid = e := by omega
             exact mergeI_nil1 (by omega)
         rw [hm2] at hsp; have hfin := hsp.1.symm; clear hsp; refine k_skip ?_; refine k_nil ?_; show retQ _ _ _ _ _ _ _; simp [*]
attribute [local simp] Ct.row Ct.av in
set_option maxHeartbeats 2000000 in
theorem spec211_g1 (c : Ct → Ct → Int) (ho : Ord (ltU c)) (us : List Ct) (hus : us.length < Flat.lim) (hc : ∀ x ∈ us, ∀ y ∈ us, Flat.Sp Tryz.prog 160 [x.av, y.av] [] (vv (.int .i64 (c x y))) []) (pub a m b mid : Nat) (hpa : pub ≤ a) (ham : a + 1 < m) (hmb : m + 1 < b) (hb : b ≤ us.length) (hmd : (a + b) / 2 = mid) (hv : m ≤ mid) (hl1 : Line (ltU c) (seg us a m)) (hl2 : Line (ltU c) (seg us m b)) (ih : ∀ (vs : List Ct) (a' m' b' : Nat), vs.length = us.length → vs.Perm us → pub ≤ a' → a' < m' → m' < b' → b' ≤ vs.length → b' - a' < b - a → Line (ltU c) (seg vs a' m') → Line (ltU c) (seg vs m' b') → Flat.Sp Tryz.prog 300 [.sl 0 vs.length 0 vs.length, vv (.int .i64 a'), vv (.int .i64 m'), vv (.int .i64 b'), .fn (.func 160) []] [(.arr 0, .arr 71 2 ((vs).map Ct.row) pub)] (.tup []) [(.arr 0, .arr 71 2 ((mergeI (ltU c) vs a' m' b').map Ct.row) pub)])  : Flat.Sp Tryz.prog 300 [.sl 0 us.length 0 us.length, vv (.int .i64 a), vv (.int .i64 m), vv (.int .i64 b), .fn (.func 160) []] [(.arr 0, .arr 71 2 ((us).map Ct.row) pub)] (.tup []) [(.arr 0, .arr 71 2 ((mergeI (ltU c) us a m b).map Ct.row) pub)] := by
 refine sk Tryz.func300 ?_; intro F G hn hG; obtain ⟨d0, hd0⟩ : ∃ d, d + a = m := ⟨m - a, by omega⟩
 have hw0 := wsub hd0 (by omega)
 have hd1 : ((d0 : Int) == 1) = false := by simp; omega
 obtain ⟨d2, hd2⟩ : ∃ d, d + m = b := ⟨b - m, by omega⟩
 have hw2 := wsub hd2 (by omega)
 have hd3 : ((d2 : Int) == 1) = false := by simp; omega
 obtain ⟨ab, hab⟩ : ∃ s, a + b = s := ⟨_, rfl⟩; have hwab := wadd2 hab (by simp only [Flat.lim] at hus; omega)
 obtain ⟨hmu, hmf, hmw⟩ := half_of hab (show ab / 2 = mid by rw [← hab]; exact hmd) (by simp only [Flat.lim] at hus; omega)
 obtain ⟨nn, hnn⟩ : ∃ s, mid + m = s := ⟨_, rfl⟩; have hwnn := wadd2 hnn (by simp only [Flat.lim] at hus; omega)
 obtain ⟨p, hp⟩ : ∃ p, p + 1 = nn := ⟨nn - 1, by omega⟩
 have hwp := wsub2 hp (by simp only [Flat.lim] at hus; omega)
 simp only [Int.natCast_one] at hwp; have hbr : ¬ (m : Int) > (mid : Int) := by omega
 have hmono := q3_mono ho hl1 hl2 (lo := a) (hi := m) (p := p) (by omega) (by omega) Ct.zero (by omega) (by omega) (by omega) (by omega)
 refine sq ?_; refine srp 1000 [0,5,10,25,28,191,192,205,206,219] ?_; refine ce ?_; refine k_skip ?_; refine sq ?_; refine srp 13000 [0,5,14,25,80,191,192,205,206,219] ?_; refine ce ?_; refine k_skip ?_; refine srp 25000 [0,5,18,25,135,191,192,205,206,219] ?_; refine srp 26000 [0,5,18,25,138,191,192,205,206,219] ?_; refine srp 27000 [0,5,18,25,138,191,192,205,206,219] ?_; refine sq ?_; refine srp 28000 [0,5,18,25,140,191,192,205,206,219] ?_; refine ce ?_; refine srp 31000 [0,5,18,25,146,191,192,205,206,219] ?_; refine rgp 32000 [0,5,18,25,147,191,192,205,206,219] ?_; refine srp 33000 [0,5,18,25,149,191,192,205,206,219] ?_; refine sq ?_; refine k_block ?_; refine k_loop (fun n l => ∃ i j : Nat, n = j - i ∧ BS (q3 (ltU c) us p Ct.zero) a m i j ∧ l = [(.tmp 0, .av (.sl 0 us.length 0 us.length)), (.tmp 1, .av (vv (.int .i64 a))), (.tmp 2, .av (vv (.int .i64 m))), (.tmp 3, .av (vv (.int .i64 b))), (.tmp 4, .av (.fn (.func 160) [])), (.tmp 18, .av (vv (.int .i64 mid))), (.tmp 19, .av (vv (.int .i64 nn))), (.tmp 20, .av (vv (.int .i64 i))), (.tmp 21, .av (vv (.int .i64 j))), (.tmp 22, .av (vv (.int .i64 p))), (.arr 0, .arr 71 2 ((us).map Ct.row) pub)]) (m - a) hG ⟨_, ⟨by simp, by simp, by simp⟩, a, m, rfl, .start (by omega), rfl⟩ ?_
 rintro n _ ⟨i, j, hin, hB, rfl⟩; have hB1 := hB.a; have hB2 := hB.b; have hB3 := hB.c; refine sq ?_; refine srp 34000 [0,5,18,25,149,191,192,205,206,219] ?_; refine cd ?_ ?_
 · intro h151_1
   have hij : i < j := by simpa using h151_1
   obtain ⟨s, hs⟩ : ∃ s, i + j = s := ⟨_, rfl⟩; obtain ⟨h, hh⟩ : ∃ h, s / 2 = h := ⟨_, rfl⟩; have hws := wadd2 hs (by simp only [Flat.lim] at hus; omega)
   obtain ⟨hwu, hfd, hwh⟩ := half_of hs hh (by simp only [Flat.lim] at hus; omega)
   have hws1 := wrap_succ (show h < Flat.lim by omega)
   have hhl : h < us.length := by omega
   obtain ⟨w, hw⟩ : ∃ w, us[h]? = some w := ⟨_, List.getElem?_eq_getElem (by omega)⟩
   have hw3 : ∀ hh : h < us.length, us[h]'hh = w := fun hh => (List.getElem?_eq_some_iff.1 hw).2
   have hwm := List.mem_of_getElem? hw; obtain ⟨r, hr⟩ : ∃ r, r + h = p := ⟨p - h, by omega⟩
   have hwr := wsub2 hr (by simp only [Flat.lim] at hus; omega)
   have hrl2 : r < us.length := by omega
   obtain ⟨y, hy⟩ : ∃ y, us[r]? = some y := ⟨_, List.getElem?_eq_getElem (by omega)⟩
   have hy2 : ∀ hh : r < us.length, us[r]'hh = y := fun hh => (List.getElem?_eq_some_iff.1 hy).2
   have hym := List.mem_of_getElem? hy; have hgq : q3 (ltU c) us p Ct.zero h = (ltU c) y w := by rw [q3, show p - h = r by omega, List.getD_eq_getElem?_getD, List.getD_eq_getElem?_getD, hw, hy]; rfl
   refine k_skip ?_; refine k_block ?_; refine srp 35000 [0,5,18,25,149,191,192,205,206,219] ?_; refine sq ?_; refine dr ?_; refine de 36000 ?_ (h := by simp [*, ltU]; exact is_rfl _)
   refine dc id (hc y hym w hwm) ?_ (hg := by simp [*, ltU]) (hf := by simp [*, ltU]; exact is_rfl _) (hx := by simp [*, ltU]; exact is_rfl _) (hargs := by simp [*, ltU]) (hB := by simp [*, ltU]) (hL := by simp [*, ltU]) (hd := by simp [*, ltU]; exact is_rfl _)
   refine de 36100 ?_ (h := by simp [*, ltU]; exact is_rfl _)
   refine dn ?_; refine pr [0,5,18,25,149,191,192,205,206,219] ?_; refine cd ?_ ?_
   · intro h171_2
     have hBu := hB.up hmono (h := h) (by omega) (by omega) (by rw [hgq]; simpa [ltU] using h171_2)
     refine rg 37000 ?_; refine k_nil ?_; show AK _ _ _ _ _ _; refine k_nil ?_
     first
       | refine ⟨j - (h + 1), by omega, _, ⟨?_, ?_, ?_⟩, h + 1, j, rfl, hBu, rfl⟩ <;> simp [*] <;> done
       | refine ⟨h - i, by omega, _, ⟨?_, ?_, ?_⟩, i, h, rfl, hBd, rfl⟩ <;> simp [*] <;> done
   · intro h171_2
     have hBd := hB.dn hmono (h := h) (by omega) (by omega) (by rw [hgq]; simpa [ltU] using h171_2)
     refine rg 38000 ?_; refine k_nil ?_; show AK _ _ _ _ _ _; refine k_nil ?_
     first
       | refine ⟨j - (h + 1), by omega, _, ⟨?_, ?_, ?_⟩, h + 1, j, rfl, hBu, rfl⟩ <;> simp [*] <;> done
       | refine ⟨h - i, by omega, _, ⟨?_, ?_, ?_⟩, i, h, rfl, hBd, rfl⟩ <;> simp [*] <;> done
 · intro h151_1
   obtain rfl : i = j := by have : ¬ i < j := (by simpa using h151_1); have := hB.b; omega
   have hB1 := hB.a; have hB3 := hB.c; obtain ⟨e, he⟩ : ∃ e, e + i = nn := ⟨nn - i, by omega⟩
   have hwe := wsub2 he (by simp only [Flat.lim] at hus; omega)
   have hap := sym_apart ho hl1 hl2 (e := e) (by omega) (by omega) Ct.zero (by omega) (by omega) (by omega) (by omega) (by omega) (by omega) (by omega) hB
   have hsp := sym_split (lt := (ltU c)) (us := us) (a := a) (s := i) (m := m) (e := e) (b := b) (mid := mid) (by omega) (by omega) (by omega) (by omega) (by omega) (by omega) hap.1 hap.2
   have hla := line_sub hl1 (s := i) (by omega) (by omega)
   have hlb := line_sub hl2 (s := e) (by omega) (by omega)
   have hrl0 : (rot us i m e).length = us.length := rot_len us (by omega) (by omega) (by omega)
   have hrl := hrl0; have hrp : (rot us i m e).Perm us := rot_perm (by omega) (by omega)
   have hml : ∀ vs : List Ct, (mergeI (ltU c) vs a i mid).length = vs.length := fun vs => mergeI_len (by omega) (by omega)
   have hml2 : ∀ vs : List Ct, (mergeI (ltU c) vs mid e b).length = vs.length := fun vs => mergeI_len (by omega) (by omega)
   refine k_exit ?_; show AK _ _ _ _ _ _; refine srp 39000 [0,5,18,19,20,21,24,25,178,191,192,205,206,219] ?_; refine sq ?_; refine src 40000 ?_; iterate 3 (first | refine gp 40250 ?_ | refine os ?_ | refine gt 40250 ?_)
   refine oe 40300 ?_; refine onp [0,5,18,19,20,21,24,25,185,191,192,205,206,219] ?_; refine cd ?_ ?_
   · intro h185_3
     have hcc : i < m ∧ m < e := by simpa using h185_3
     have hg205 := fun (q1 : a < i) (q2 : i < mid) => ih (rot us i m e) a i mid (by simp [hrl]) hrp (by omega) q1 q2 (by first | (simp only [hrl]; omega) | omega) (by omega) (by rw [hsp.2.1]; exact hla.1) (by rw [hsp.2.2.1]; exact hlb.1)
     have hg219F := fun l1 l2 (q1 : mid < e) (q2 : e < b) => ih (rot us i m e) mid e b (by simp [hrl]) hrp (by omega) q1 q2 (by first | (simp only [hrl]; omega) | omega) (by omega) l1 l2
     have hg219T := fun l1 l2 (q1 : mid < e) (q2 : e < b) => ih (mergeI (ltU c) (rot us i m e) a i mid) mid e b (by simp [hml, hrl]) ((mergeI_perm (by omega) (by omega)).trans hrp) (by omega) q1 q2 (by simp only [hml, hrl]; omega) (by omega) l1 l2
     refine rc 41000 ?_; refine oc id (spec216 us (by omega) pub i m e (by omega) (by omega) (by omega) (by omega) (.func 160)) ?_
     refine onp [0,2,3,5,18,19,20,21,24,25,192,205,206,219] ?_; refine sq ?_; refine src 42000 ?_; iterate 3 (first | refine gp 42250 ?_ | refine os ?_ | refine gt 42250 ?_)
     refine oe 42300 ?_; refine onp [0,2,3,5,18,19,20,21,24,25,199,205,206,219] ?_; refine cd ?_ ?_
     · intro h199_4
       have hcc2 : a < i ∧ i < mid := by simpa using h199_4
       have hg219 := hg219T (by rw [hsp.2.2.2.1]; exact hla.2) (by rw [hsp.2.2.2.2]; exact hlb.2)
       refine rc 43000 ?_; refine oc id (hg205 hcc2.1 hcc2.2) ?_; refine onp [0,1,3,5,18,19,24,25,206,219] ?_; refine src 44000 ?_; iterate 3 (first | refine gp 44250 ?_ | refine os ?_ | refine gt 44250 ?_)
       refine oe 44300 ?_; refine onp [0,1,3,5,18,19,24,25,213,219] ?_; refine cd ?_ ?_
       · intro h213_5
         have hcc3 : mid < e ∧ e < b := by simpa using h213_5
         refine rc 45000 ?_; refine oc id (hg219 hcc3.1 hcc3.2) ?_; refine on ?_; refine k_nil ?_; show retQ _ _ _ _ _ _ _; simp [*]
       · intro h213_5
         have hcc3 : ¬ (mid < e ∧ e < b) := by simpa using h213_5
         have hm2 : ∀ vs : List Ct, mergeI (ltU c) vs mid e b = vs := by
           intro vs; rcases Nat.lt_or_ge mid e with q | q
           · obtain rfl : e = b := by omega
             exact mergeI_nil2 (by omega)
           · obtain rfl : mid = e := by omega
             exact mergeI_nil1 (by omega)
         rw [hm2] at hsp; have hfin := hsp.1.symm; clear hsp; refine k_skip ?_; refine k_nil ?_; show retQ _ _ _ _ _ _ _; simp [*]
     · intro h199_4
       have hcc2 : ¬ (a < i ∧ i < mid) := by simpa using h199_4
       have hm1 : ∀ vs : List Ct, mergeI (ltU c) vs a i mid = vs := by
         intro vs; rcases Nat.lt_or_ge a i with q | q
         · obtain rfl : i = mid := by omega
           exact mergeI_nil2 (by omega)
         · obtain rfl : a = i := by omega
           exact mergeI_nil1 (by omega)
       rw [hm1] at hsp; have hg219 := hg219F (by rw [hsp.2.2.2.1]; exact hla.2) (by rw [hsp.2.2.2.2]; exact hlb.2)
       refine k_skip ?_; refine src 44000 ?_; iterate 3 (first | refine gp 44250 ?_ | refine os ?_ | refine gt 44250 ?_)
       refine oe 44300 ?_; refine onp [0,1,3,5,18,19,24,25,213,219] ?_; refine cd ?_ ?_
       · intro h213_6
         have hcc3 : mid < e ∧ e < b := by simpa using h213_6
         refine rc 45000 ?_; refine oc id (hg219 hcc3.1 hcc3.2) ?_; refine on ?_; refine k_nil ?_; show retQ _ _ _ _ _ _ _; simp [*]
       · intro h213_6
         have hcc3 : ¬ (mid < e ∧ e < b) := by simpa using h213_6
         have hm2 : ∀ vs : List Ct, mergeI (ltU c) vs mid e b = vs := by
           intro vs; rcases Nat.lt_or_ge mid e with q | q
           · obtain rfl : e = b := by omega
             exact mergeI_nil2 (by omega)
           · obtain rfl : mid = e := by omega
             exact mergeI_nil1 (by omega)
         rw [hm2] at hsp; have hfin := hsp.1.symm; clear hsp; refine k_skip ?_; refine k_nil ?_; show retQ _ _ _ _ _ _ _; simp [*]
   · intro h185_3
     have hcc : ¬ (i < m ∧ m < e) := by simpa using h185_3
     have hrot : rot us i m e = us := by
       rcases Nat.lt_or_ge i m with q | q
       · obtain rfl : m = e := by omega
         exact rot_self2 (by omega)
       · obtain rfl : i = m := by omega
         exact rot_self1 (by omega)
     rw [hrot] at hsp; have hg205 := fun (q1 : a < i) (q2 : i < mid) => ih (us) a i mid (by simp [hrl]) (List.Perm.refl _) (by omega) q1 q2 (by first | (simp only [hrl]; omega) | omega) (by omega) (by rw [hsp.2.1]; exact hla.1) (by rw [hsp.2.2.1]; exact hlb.1)
     have hg219F := fun l1 l2 (q1 : mid < e) (q2 : e < b) => ih (us) mid e b (by simp [hrl]) (List.Perm.refl _) (by omega) q1 q2 (by first | (simp only [hrl]; omega) | omega) (by omega) l1 l2
     have hg219T := fun l1 l2 (q1 : mid < e) (q2 : e < b) => ih (mergeI (ltU c) (us) a i mid) mid e b (by simp [hml, hrl]) ((mergeI_perm (by omega) (by omega)).trans (List.Perm.refl _)) (by omega) q1 q2 (by simp only [hml, hrl]; omega) (by omega) l1 l2
     refine k_skip ?_; refine sq ?_; refine src 42000 ?_; iterate 3 (first | refine gp 42250 ?_ | refine os ?_ | refine gt 42250 ?_)
     refine oe 42300 ?_; refine onp [0,2,3,5,18,19,20,21,24,25,199,205,206,219] ?_; refine cd ?_ ?_
     · intro h199_7
       have hcc2 : a < i ∧ i < mid := by simpa using h199_7
       have hg219 := hg219T (by rw [hsp.2.2.2.1]; exact hla.2) (by rw [hsp.2.2.2.2]; exact hlb.2)
       refine rc 43000 ?_; refine oc id (hg205 hcc2.1 hcc2.2) ?_; refine onp [0,1,3,5,18,19,24,25,206,219] ?_; refine src 44000 ?_; iterate 3 (first | refine gp 44250 ?_ | refine os ?_ | refine gt 44250 ?_)
       refine oe 44300 ?_; refine onp [0,1,3,5,18,19,24,25,213,219] ?_; refine cd ?_ ?_
       · intro h213_8
         have hcc3 : mid < e ∧ e < b := by simpa using h213_8
         refine rc 45000 ?_; refine oc id (hg219 hcc3.1 hcc3.2) ?_; refine on ?_; refine k_nil ?_; show retQ _ _ _ _ _ _ _; simp [*]
       · intro h213_8
         have hcc3 : ¬ (mid < e ∧ e < b) := by simpa using h213_8
         have hm2 : ∀ vs : List Ct, mergeI (ltU c) vs mid e b = vs := by
           intro vs; rcases Nat.lt_or_ge mid e with q | q
           · obtain rfl : e = b := by omega
             exact mergeI_nil2 (by omega)
           · obtain rfl : mid = e := by omega
             exact mergeI_nil1 (by omega)
         rw [hm2] at hsp; have hfin := hsp.1.symm; clear hsp; refine k_skip ?_; refine k_nil ?_; show retQ _ _ _ _ _ _ _; simp [*]
     · intro h199_7
       have hcc2 : ¬ (a < i ∧ i < mid) := by simpa using h199_7
       have hm1 : ∀ vs : List Ct, mergeI (ltU c) vs a i mid = vs := by
         intro vs; rcases Nat.lt_or_ge a i with q | q
         · obtain rfl : i = mid := by omega
           exact mergeI_nil2 (by omega)
         · obtain rfl : a = i := by omega
           exact mergeI_nil1 (by omega)
       rw [hm1] at hsp; have hg219 := hg219F (by rw [hsp.2.2.2.1]; exact hla.2) (by rw [hsp.2.2.2.2]; exact hlb.2)
       refine k_skip ?_; refine src 44000 ?_; iterate 3 (first | refine gp 44250 ?_ | refine os ?_ | refine gt 44250 ?_)
       refine oe 44300 ?_; refine onp [0,1,3,5,18,19,24,25,213,219] ?_; refine cd ?_ ?_
       · intro h213_9
         have hcc3 : mid < e ∧ e < b := by simpa using h213_9
         refine rc 45000 ?_; refine oc id (hg219 hcc3.1 hcc3.2) ?_; refine on ?_; refine k_nil ?_; show retQ _ _ _ _ _ _ _; simp [*]
       · intro h213_9
         have hcc3 : ¬ (mid < e ∧ e < b) := by simpa using h213_9
         have hm2 : ∀ vs : List Ct, mergeI (ltU c) vs mid e b = vs := by
           intro vs; rcases Nat.lt_or_ge mid e with q | q
           · obtain rfl : e = b := by omega
             exact mergeI_nil2 (by omega)
           · obtain rfl : mid = e := by omega
             exact mergeI_nil1 (by omega)
         rw [hm2] at hsp; have hfin := hsp.1.symm; clear hsp; refine k_skip ?_; refine k_nil ?_; show retQ _ _ _ _ _ _ _; simp [*]
end
section
theorem spec211 (c : Ct → Ct → Int) (ho : Ord (ltU c)) (pub : Nat) : ∀ (N : Nat) (us : List Ct), us.length < Flat.lim → (∀ x ∈ us, ∀ y ∈ us, Flat.Sp Tryz.prog 160 [x.av, y.av] [] (vv (.int .i64 (c x y))) []) → ∀ (a m b : Nat), pub ≤ a → a < m → m < b → b ≤ us.length → b - a = N → Line (ltU c) (seg us a m) → Line (ltU c) (seg us m b) →
   Flat.Sp Tryz.prog 300 [.sl 0 us.length 0 us.length, vv (.int .i64 a), vv (.int .i64 m), vv (.int .i64 b), .fn (.func 160) []] [(.arr 0, .arr 71 2 (us.map Ct.row) pub)] (.tup []) [(.arr 0, .arr 71 2 ((mergeI (ltU c) us a m b).map Ct.row) pub)] := by
 intro N
 induction N using Nat.strongRecOn with
 | ind N ih =>
   intro us hus hc a m b hpa ham hmb hb hN hl1 hl2
   by_cases h1 : a + 1 = m
   · exact spec211_one c ho us hus hc pub a m b hpa h1 hmb hb hl2
   · by_cases h2 : m + 1 = b
     · exact spec211_last c ho us hus hc pub a m b hpa (by omega) h2 hb hl1
     · have IH : ∀ (vs : List Ct) (a' m' b' : Nat), vs.length = us.length → vs.Perm us → pub ≤ a' → a' < m' → m' < b' → b' ≤ vs.length → b' - a' < b - a → Line (ltU c) (seg vs a' m') → Line (ltU c) (seg vs m' b') → Flat.Sp Tryz.prog 300 [.sl 0 vs.length 0 vs.length, vv (.int .i64 a'), vv (.int .i64 m'), vv (.int .i64 b'), .fn (.func 160) []] [(.arr 0, .arr 71 2 (vs.map Ct.row) pub)] (.tup []) [(.arr 0, .arr 71 2 ((mergeI (ltU c) vs a' m' b').map Ct.row) pub)] :=
         fun vs a' m' b' e1 e2 e3 e4 e5 e6 e7 e8 e9 => ih (b' - a') (by omega) vs (by omega) (fun x hx y hy => hc x (e2.mem_iff.1 hx) y (e2.mem_iff.1 hy)) a' m' b' e3 e4 e5 e6 rfl e8 e9
       by_cases h3 : (a + b) / 2 < m
       · exact spec211_g0 c ho us hus hc pub a m b _ hpa (by omega) (by omega) hb rfl h3 hl1 hl2 IH
       · exact spec211_g1 c ho us hus hc pub a m b _ hpa (by omega) (by omega) hb rfl (by omega) hl1 hl2 IH
set_option maxHeartbeats 1000000 in
theorem spec204 (c : Ct → Ct → Int) (ho : Ord (ltU c)) (us : List Ct) (hus : us.length < Flat.lim) (hc : ∀ x ∈ us, ∀ y ∈ us, Flat.Sp Tryz.prog 160 [x.av, y.av] [] (vv (.int .i64 (c x y))) [])  : Flat.Sp Tryz.prog 282 [.sl 0 us.length 0 us.length, vv (.int .i64 us.length), .fn (.func 160) []] [(.arr 0, .arr 71 2 ((us).map Ct.row) 0)] (.tup []) [(.arr 0, .arr 71 2 ((isrt (ltU c) us).map Ct.row) 0)] := by
 refine sk Tryz.func282 ?_; intro F G hn hG; have hblk : blkA (ltU c) 20 us = blkA (ltU c) 20 us := rfl; clear hblk; refine srp 1000 [0,3,6,18,19,27,28,43,44,60,61,63] ?_; refine srp 2000 [0,3,6,10,11,18,19,27,28,43,44,60,61,63] ?_; refine sq ?_; refine k_block ?_; refine k_loop (fun n l => ∃ (a b : Nat) (L cur : List Ct), n + a = us.length ∧ (L.length = a ∧ a + 20 = b ∧ a ≤ us.length ∧ L ++ us.drop a = cur ∧ cur.length = us.length ∧ cur.Perm us ∧ L ++ blkA (ltU c) 20 (us.drop a) = blkA (ltU c) 20 us) ∧ l = [(.tmp 0, .av (.sl 0 us.length 0 us.length)), (.tmp 1, .av (vv (.int .i64 us.length))), (.tmp 2, .av (.fn (.func 160) [])), (.tmp 6, .av (vv (.int .i64 20))), (.tmp 7, .av (vv (.int .i64 a))), (.tmp 8, .av (vv (.int .i64 b))), (.arr 0, .arr 71 2 ((cur).map Ct.row) 0)]) (us.length) hG ⟨_, ⟨by simp, by simp, by simp⟩, 0, 20, [], us, by omega, ⟨rfl, rfl, Nat.zero_le _, rfl, rfl, .refl _, rfl⟩, rfl⟩ ?_
 rintro n _ ⟨a, b, L, cur, hna, ⟨hLl, hab, hau, hLc, hcl, hpm, hLb⟩, rfl⟩; have hcp : ∀ x ∈ cur, ∀ y ∈ cur, Flat.Sp Tryz.prog 160 [x.av, y.av] [] (vv (.int .i64 (c x y))) [] := fun x hx y hy => hc x (hpm.mem_iff.1 hx) y (hpm.mem_iff.1 hy)
 have hwb := wadd2 (x := b) (y := 20) rfl (by simp only [Flat.lim] at hus; omega)
 have hwb : IntKind.i64.wrap ((b : Int) + 20) = ((b + 20 : Nat) : Int) := hwb; refine sq ?_; refine srp 3000 [0,3,6,10,11,18,19,27,28,43,44,60,61,63] ?_; refine cd ?_ ?_
 · intro h13_1
   have hb : b ≤ us.length := by have := h13_1; simp at this; omega
   obtain ⟨L1, hL1, hL2, hL3⟩ := ins_blk ho (B := 20) (by omega) hLl hLc.symm hLb b (by omega) hb
   have hL2 : insI c cur a b = L1 ++ us.drop b := hL2; have hab2 : a < b := by omega
   have hil : (insI c cur a b).length = cur.length := insI_len (by omega) (by omega)
   have hip : (insI c cur a b).Perm cur := insI_perm (by omega)
   refine k_skip ?_; refine k_block ?_; refine src 4000 ?_; refine oc id (spec210 c ho cur (by omega) hcp 0 a b (Nat.zero_le _) (by omega) (by omega)) ?_
   refine onp [0,3,6,10,11,18,19,27,28,43,44,60,61,63] ?_; refine srp 5000 [0,3,6,10,11,18,19,27,28,43,44,60,61,63] ?_; refine rg 6000 ?_; refine k_nil ?_; show AK _ _ _ _ _ _; refine k_nil ?_; refine ⟨n - 20, by omega, _, ⟨?_, ?_, ?_⟩, b, b + 20, L1, insI c cur a b, by omega, ⟨hL1, rfl, by omega, hL2.symm, by rw [hil]; exact hcl, hip.trans hpm, hL3⟩, rfl⟩ <;> simp [*]
 · intro h13_1
   have hb : us.length < b := by have := h13_1; simp at this; omega
   have hlast : (if a < us.length then insI c cur a us.length else cur) = blkA (ltU c) 20 us := by
     by_cases q : a < us.length
     · rw [if_pos q]; exact ins_last ho (B := 20) (by omega) hLl (by omega) hLc.symm hLb (by omega)
     · rw [if_neg q, ← hLb, ← hLc]; congr 1; rw [List.drop_eq_nil_of_le (by omega)]; rfl
   refine k_exit ?_; show AK _ _ _ _ _ _; refine src 7000 ?_; refine oc id (spec210 c ho cur (by omega) hcp 0 a us.length (Nat.zero_le _) (by omega) (by omega)) ?_
   refine onp [0,3,6,10,28,43,44,60,61,63] ?_; refine k_block ?_; refine k_loop (fun n l => ∃ B : Nat, n = us.length - B ∧ (0 < B ∧ B ≤ 2 * us.length + 20) ∧ l = [(.tmp 0, .av (.sl 0 us.length 0 us.length)), (.tmp 1, .av (vv (.int .i64 us.length))), (.tmp 2, .av (.fn (.func 160) [])), (.tmp 6, .av (vv (.int .i64 B))), (.arr 0, .arr 71 2 ((blkA (ltU c) B us).map Ct.row) 0)]) (us.length - 20) hG ⟨_, ⟨by simp [*], by simp, by simp⟩, 20, rfl, ⟨by omega, by omega⟩, rfl⟩ ?_
   rintro n2 _ ⟨B, hnB, ⟨hB0, hBl⟩, rfl⟩; refine sq ?_; refine srp 8000 [0,3,6,10,28,43,44,60,61,63] ?_; refine cd ?_ ?_
   · intro h30_2
     have hB : B < us.length := by have := h30_2; simp at this; omega
     obtain ⟨B2, hB2⟩ : ∃ B2, 2 * B = B2 := ⟨_, rfl⟩; obtain ⟨hw2, hw3⟩ := wdbl hB2 (by simp only [Flat.lim] at hus; omega)
     refine k_skip ?_; refine k_block ?_; refine srp 9000 [0,3,6,10,28,43,44,60,61,63] ?_; refine sq ?_; refine k_block ?_; refine k_loop (fun n l => ∃ (a b : Nat) (L cur : List Ct), n = us.length - a ∧ (L.length = a ∧ a + B2 = b ∧ a ≤ us.length ∧ L ++ blkA (ltU c) B (us.drop a) = cur ∧ cur.length = us.length ∧ cur.Perm us ∧ L ++ blkA (ltU c) B2 (us.drop a) = blkA (ltU c) B2 us) ∧ l = [(.tmp 0, .av (.sl 0 us.length 0 us.length)), (.tmp 1, .av (vv (.int .i64 us.length))), (.tmp 2, .av (.fn (.func 160) [])), (.tmp 6, .av (vv (.int .i64 B))), (.tmp 7, .av (vv (.int .i64 a))), (.tmp 8, .av (vv (.int .i64 b))), (.arr 0, .arr 71 2 ((cur).map Ct.row) 0)]) (us.length) hG ⟨_, ⟨by simp [*], by simp, by simp⟩, 0, B2, [], blkA (ltU c) B us, by omega, ⟨rfl, by omega, Nat.zero_le _, rfl, (blkA_perm hB0 us).length_eq, blkA_perm hB0 us, rfl⟩, rfl⟩ ?_
     rintro n3 _ ⟨a, b, L, cur, hna2, ⟨hLl, hab, hau, hLc, hcl, hpm, hLb⟩, rfl⟩; have hcp : ∀ x ∈ cur, ∀ y ∈ cur, Flat.Sp Tryz.prog 160 [x.av, y.av] [] (vv (.int .i64 (c x y))) [] := fun x hx y hy => hc x (hpm.mem_iff.1 hx) y (hpm.mem_iff.1 hy)
     obtain ⟨m, hm⟩ : ∃ m, a + B = m := ⟨_, rfl⟩; have hwm := wadd2 hm (by simp only [Flat.lim] at hus; omega)
     obtain ⟨b2, hb2⟩ : ∃ b2, b + B2 = b2 := ⟨_, rfl⟩; have hwb2 := wadd2 hb2 (by simp only [Flat.lim] at hus; omega)
     refine sq ?_; refine srp 10000 [0,3,6,10,28,43,44,60,61,63] ?_; refine cd ?_ ?_
     · intro h35_3
       have hb : b ≤ us.length := by have := h35_3; simp at this; omega
       obtain ⟨⟨L1, hL1, hL2, hL3⟩, hl1, hl2⟩ := mrg_blk ho hB0 hLl hau hLc.symm (by rw [hB2]; exact hLb) m b hm.symm (by omega) hb
       rw [hB2] at hL3; have hil : (mergeI (ltU c) cur a m b).length = cur.length := mergeI_len (by omega) (by omega)
       have hip : (mergeI (ltU c) cur a m b).Perm cur := mergeI_perm (by omega) (by omega)
       refine k_skip ?_; refine k_block ?_; refine src 11000 ?_; refine oc id (spec211 c ho 0 _ cur (by omega) hcp a m b (Nat.zero_le _) (by omega) (by omega) (by omega) rfl hl1 hl2) ?_
       refine onp [0,3,6,10,28,43,44,60,61,63] ?_; refine srp 12000 [0,3,6,10,28,43,44,60,61,63] ?_; refine rg 13000 ?_; refine k_nil ?_; show AK _ _ _ _ _ _; refine k_nil ?_; refine ⟨us.length - b, by omega, _, ⟨?_, ?_, ?_⟩, b, b2, L1, mergeI (ltU c) cur a m b, rfl, ⟨hL1, hb2, by omega, hL2.symm, by rw [hil]; exact hcl, hip.trans hpm, hL3⟩, rfl⟩ <;> simp [*]
     · intro h35_3
       have hb : us.length < b := by have := h35_3; simp at this; omega
       refine k_exit ?_; show AK _ _ _ _ _ _; refine sq ?_; refine srp 14000 [0,3,6,10,28,43,44,60,61,63] ?_; refine srp 15000 [0,3,6,10,28,43,44,60,61,63] ?_; refine cd ?_ ?_
       · intro h54_4
         have hmu : m < us.length := by have := h54_4; simp at this; omega
         obtain ⟨hfin, hl1, hl2⟩ := mrg_last ho hB0 hLl hau hLc.symm (by rw [hB2]; exact hLb) m hm.symm hmu (by omega)
         rw [hB2] at hfin; refine rc 16000 ?_; refine oc id (spec211 c ho 0 _ cur (by omega) hcp a m us.length (Nat.zero_le _) (by omega) hmu (by omega) rfl hl1 hl2) ?_
         refine onp [0,3,6,10,28,43,44,60,61,63] ?_; refine rg 17000 ?_; refine k_nil ?_; show AK _ _ _ _ _ _; refine k_nil ?_; refine ⟨us.length - B2, by omega, _, ⟨?_, ?_, ?_⟩, B2, rfl, ⟨by omega, by omega⟩, rfl⟩ <;> simp [*]
       · intro h54_4
         have hmu : us.length ≤ m := by have := h54_4; simp at this; omega
         have hfin := mrg_none ho hB0 hau hLc.symm (by rw [hB2]; exact hLb) (by omega)
         rw [hB2] at hfin; refine k_skip ?_; refine rg 17000 ?_; refine k_nil ?_; show AK _ _ _ _ _ _; refine k_nil ?_; refine ⟨us.length - B2, by omega, _, ⟨?_, ?_, ?_⟩, B2, rfl, ⟨by omega, by omega⟩, rfl⟩ <;> simp [*]
   · intro h30_2
     have hB : us.length ≤ B := by have := h30_2; simp at this; omega
     have hfin := blkA_short (lt := (ltU c)) hB0 hB; refine k_exit ?_; show AK _ _ _ _ _ _; refine k_nil ?_; show retQ _ _ _ _ _ _ _; simp [*]
theorem spec191 (c : Ct → Ct → Int) (ho : Ord (ltU c)) (us : List Ct) (hus : us.length < Flat.lim) (hc : ∀ x ∈ us, ∀ y ∈ us, Flat.Sp Tryz.prog 160 [x.av, y.av] [] (vv (.int .i64 (c x y))) [])  : Flat.Sp Tryz.prog 236 [.sl 0 us.length 0 us.length, .fn (.func 160) []] [(.arr 0, .arr 71 2 ((us).map Ct.row) 0)] (.tup []) [(.arr 0, .arr 71 2 ((isrt (ltU c) us).map Ct.row) 0)] := by
 refine sk Tryz.func236 ?_; intro F G hn hG; refine rc 1000 ?_; refine oc id (spec204 c ho us hus hc) ?_; refine on ?_; refine k_nil ?_; show retQ _ _ _ _ _ _ _; simp [*]
end
end Go.Proofs
end
