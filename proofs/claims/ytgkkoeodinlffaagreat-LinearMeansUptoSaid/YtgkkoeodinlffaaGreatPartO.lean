/-
  Contracts: what is the same, and even. (and 25 texts more)
-/
import Derived.Test.YtgkkoeodinlffaaGreatPartM
import Derived.Test.YtgkkoeodinlffaaGreatFlatN
import Derived.Test.YtgkkoeodinlffaaGreatPartK
import Derived.Test.YtgkkoeodinlffaaGreatPartJ
import Derived.Test.YtgkkoeodinlffaaGreatPartE
import Derived.Test.YtgkkoeodinlffaaGreatPartG
section
namespace Go.Proofs
open Go.Flat
set_option maxRecDepth 100000
set_option linter.unusedVariables false
set_option linter.unusedSimpArgs false
attribute [local simp] Bool.and_assoc Bool.or_assoc evalG evalX efD skF guardG guardL isCall stepL evalOp ev evs lk tmpsL app AV.ok fresh vv putCells insV ins del putL place Go.Flat.look fillC fillR getCells loadF storeF binF scalarBin intBin strBin isShift shiftBin unF lenF maxF minF rowsF appendF builtinF idxF natOf sliceP sliceF optEv Flat.cut overwrite toPV toPVs constAV scalarC scalarCs AV.cells TI.isAgg allSome andAll scalarEq buildable Go.Flat.lim retQ resL resAll resOne PartOf noTmp closedIn refs refs.refsL isSomeV hasB ids leA leA.leL renA renA.renL callB refsAll backL dropIds renS LiesAt injB ownB freshB memN locId insAll leA_refl leL_refl okS frzS frzA frzA.frzL evalD feet fine updCells cellsFrom memP footRf footWf noTmpU updIds opOps opIds idsA footR footW guardTs opTs dstTs callR callW renLoc renC inBlockQ thenQ Value.oneCell' IntKind.bits IntKind.signed
section
def sameBy {α : Type} (f : α → α → Bool) : List α → List α → Bool
 | [], [] => true
 | x :: xs, y :: ys => f x y && sameBy f xs ys
 | _, _ => false
theorem sameBy_len {α : Type} {f : α → α → Bool} : ∀ {xs ys : List α}, xs.length ≠ ys.length → sameBy f xs ys = false
 | [], [], h => absurd rfl h
 | [], _ :: _, _ => rfl
 | _ :: _, [], _ => rfl
 | x :: xs, y :: ys, h => by rw [sameBy, sameBy_len (f := f) (xs := xs) (ys := ys) (by simpa using h), Bool.and_false]
theorem eqB_of {x y : Val} {b : Bool} (h : (!x.t == y.t || (!x.n == y.n || !x.s.toList == y.s.toList)) = b) : x.eqB y = !b := by
 rw [← h, Val.eqB]; cases (x.t == y.t) <;> cases (x.n == y.n) <;> cases (x.s.toList == y.s.toList) <;> rfl
def sameV (a b : List Val) : Bool := sameBy Val.eqB a b
attribute [local simp] Val.row Val.av Val.eqB in
set_option maxHeartbeats 8000000 in
theorem spec91 (xs ys : List Val) (hlx : xs.length ≤ Flat.lim) (hly : ys.length ≤ Flat.lim)  : Flat.Sp Tryz.prog 70 [.p (.ps (xs.map Val.row)), .p (.ps (ys.map Val.row))] [] (vv (.bool (sameBy Val.eqB xs ys))) [] := by
 refine sk Tryz.func70 ?_; intro F G hn hG; refine srp 1000 [0,2,4,26] ?_; refine sq ?_; refine srp 2000 [0,2,4,6,10,26] ?_; refine cd ?_ ?_
 · intro h10_1
   have hne : xs.length ≠ ys.length := by have := h10_1; simp at this; omega
   have hfin := sameBy_len (f := Val.eqB) hne; refine srp 3000 [0,2,4,6,11,26] ?_; refine k_ret ?_; show retQ _ _ _ _ _ _ _; simp [*]
 · intro h10_1
   have hxy : ys.length = xs.length := by have := h10_1; simp at this; omega
   refine k_skip ?_; refine sq ?_; refine srp 4000 [0,2,4,6,12,26] ?_; refine k_block ?_; refine k_loop (fun n l => ∃ i, i + n = xs.length ∧ (sameBy Val.eqB (xs.drop i) (ys.drop i) = sameBy Val.eqB xs ys) ∧ l = [(.tmp 0, .av (.p (.ps (xs.map Val.row)))), (.tmp 1, .av (.p (.ps (ys.map Val.row)))), (.tmp 12, .av (vv (.int .i64 xs.length))), (.tmp 13, .av (vv (.int .i64 i)))]) (xs.length) hG ⟨_, ⟨by simp, by simp, by simp⟩, 0, by simp, rfl, rfl⟩ ?_
   rintro n _ ⟨i, hin, hfa, rfl⟩; have hcm := hfa; refine srp 5000 [0,2,4,6,12,26] ?_; refine sq ?_; refine cd ?_ ?_
   · intro h14_2
     have hlt : i < xs.length := by simpa using h14_2
     obtain ⟨x, hxe⟩ : ∃ x, xs[i] = x := ⟨_, rfl⟩; have hx : xs[i]? = some x := by simp [hlt, hxe]
     have hw := wrap_succ (show i < Flat.lim by omega)
     have hlty : i < ys.length := by omega
     obtain ⟨y, hye⟩ : ∃ y, ys[i] = y := ⟨_, rfl⟩; have hy : ys[i]? = some y := by simp [hlty, hye]
     rw [drop_at hx, drop_at hy] at hcm; have hcm : (Val.eqB x y && sameBy Val.eqB (xs.drop (i + 1)) (ys.drop (i + 1))) = sameBy Val.eqB xs ys := hcm; refine k_skip ?_; refine sq ?_; refine k_block ?_; refine srp 6000 [0,2,4,6,12,26] ?_; refine sq ?_; refine dr ?_; refine de 7000 ?_; refine dn ?_; refine pr [0,2,4,6,12,26] ?_; refine cd ?_ ?_
     · intro h24_3
       have h2 : Val.eqB x y = false := eqB_of h24_3; rw [h2] at hcm; have hfin : sameBy Val.eqB xs ys = false := hcm.symm; refine srp 8000 [0,2,4,6,12,26] ?_; refine k_ret ?_; show retQ _ _ _ _ _ _ _; simp [*]
     · intro h24_3
       have h2 : Val.eqB x y = true := eqB_of h24_3; rw [h2] at hcm; have hnext : sameBy Val.eqB (xs.drop (i + 1)) (ys.drop (i + 1)) = sameBy Val.eqB xs ys := hcm; refine k_skip ?_; refine k_nil ?_; show AK _ _ _ _ _ _; refine rg 9000 ?_; refine k_nil ?_; refine ⟨n - 1, by omega, _, ⟨?_, ?_, ?_⟩, i + 1, by omega, hnext, rfl⟩ <;> simp [*]
   · intro h14_2
     have hge : xs.length ≤ i := by simpa using h14_2
     obtain rfl : i = xs.length := by omega
     rw [List.drop_eq_nil_of_le (Nat.le_refl _), List.drop_eq_nil_of_le (by omega)] at hcm
     have hfin : sameBy Val.eqB xs ys = true := hcm.symm; refine k_exit ?_; show AK _ _ _ _ _ _; refine srp 10000 [4,5] ?_; refine k_ret ?_; show retQ _ _ _ _ _ _ _; simp [*]
attribute [local simp] Val.row in
theorem spec78 (n : Int) : Flat.Sp Tryz.prog 80 [vv (.int .i64 n)] [] (.p (.ps [(⟨false, n, ⟨#[]⟩⟩ : Val).row])) [] := by
 refine sk Tryz.func80 ?_; intro F G hn hG; refine srp 1000 [0,1,2,6] ?_; refine srp 2000 [2,3] ?_; refine k_ret ?_; show retQ _ _ _ _ _ _ _; simp [*]
end
section
def Tm.eqB (a b : Tm) : Bool := (a.e == b.e) && ((a.a == b.a) && (a.b == b.b))
@[simp] theorem eqTime (e1 a1 b1 e2 a2 b2 : Int) : eqT (tyOf Tryz.prog) 8 35 (.agg [.p (.v (.int .u64 e1)), .p (.v (.int .u64 a1)), .p (.v (.int .u64 b1))]) (.agg [.p (.v (.int .u64 e2)), .p (.v (.int .u64 a2)), .p (.v (.int .u64 b2))]) = some (Tm.eqB ⟨e1, a1, b1⟩ ⟨e2, a2, b2⟩) := by
 simp [eqT, eqCut, Tm.eqB, show List.range 2 = [0, 1] from rfl]
end
section
def mxI (x y : Int) : Int := if x < y then y else x
@[simp] theorem mxI_self (x : Int) : mxI x x = x := by unfold mxI; split <;> rfl
def lubT (a b : Tm) : Tm := ⟨mxI a.e b.e, mxI a.a b.a, mxI a.b b.b⟩
def aheadT (a b : Tm) : Bool := Tm.eqB (lubT a b) b
def cntR (cs : List Ct) : List Ct × Int := (if gerr (grp cmpK Ct.n (isrt (ltU cmpK) cs)) != 0 then [] else gout Ct.put (grp cmpK Ct.n (isrt (ltU cmpK) cs)), gerr (grp cmpK Ct.n (isrt (ltU cmpK) cs)))
def Ct.ofU (u : Up) : Ct := ⟨u.r, u.d⟩
def atL (us : List Up) (t : Tm) : List Ct := (us.filter fun u => aheadT u.t t).map Ct.ofU
def atE (us : List Up) (t : Tm) : Int := orI [chkUs us, chkT t]
def atR (us : List Up) (t : Tm) : List Ct × Int := if atE us t != 0 then ([], atE us t) else cntR (atL us t)
theorem cmpK_ok : CmpA cmpK := (cmpBy_ok Val.cmp_ok).comap Ct.r
theorem cmpK_ord : Ord (ltU cmpK) := cmpK_ok.cmp.ord
theorem atL_snoc {us : List Up} {t : Tm} {i : Nat} {x : Up} (h : us[i]? = some x) : atL (us.take (i + 1)) t = atL (us.take i) t ++ (if aheadT x.t t then [⟨x.r, x.d⟩] else []) := by
 rw [atL, atL, List.take_add_one, h, List.filter_append, List.map_append]; cases hc : aheadT x.t t <;> simp [hc, Ct.ofU]
theorem atL_len {us : List Up} {t : Tm} : (atL us t).length ≤ us.length := by
 rw [atL, List.length_map]; exact List.length_filter_le ..
theorem atL_sm {us : List Up} {t : Tm} (h : Up.sms us) : ∀ c ∈ atL us t, c.r.length ≤ Bnd := by
 intro c hc; obtain ⟨u, hu, rfl⟩ := List.mem_map.1 hc; exact (h u (List.mem_filter.1 hu).1).2
attribute [local simp] mxI in
theorem spec190 (x y : Int) : Flat.Sp Tryz.prog 244 [vv (.int .u64 x), vv (.int .u64 y)] [] (vv (.int .u64 (mxI x y))) [] := by
 refine sk Tryz.func244 ?_; intro F G hn hG; refine srp 1000 [0,2,4,8] ?_; refine srp 2000 [4,5] ?_; refine k_ret ?_; show retQ _ _ _ _ _ _ _; simp [*]
attribute [local simp] lubT Tm.av Tm.row in
set_option maxHeartbeats 1000000 in
theorem spec189 (a b : Tm) : Flat.Sp Tryz.prog 243 [.fn (.func 244) [], .p (.ps [a.row, b.row])] [] ((lubT a b).av) [] := by
 refine sk Tryz.func243 ?_; intro F G hn hG; refine srp 1000 [0,2,4,44] ?_; refine sq ?_; refine srp 2000 [0,1,4,44] ?_; refine k_block ?_; refine k_rounds 3 ?_; show AK _ _ _ _ _ _; refine srp 3000 [0,1,4,44] ?_; refine sq ?_; refine ct ?_; refine k_skip ?_; refine sq ?_; refine k_block ?_; refine srp 4000 [0,1,4,44] ?_; refine sq ?_; refine srp 5000 [0,1,4,44] ?_; refine ct ?_; refine rgp 6000 [0,1,4,44] ?_; refine src 7000 ?_; refine oc id (spec190 a.e a.e) ?_; refine oe 7100 ?_; refine onp [0,1,4,44] ?_; refine srp 8000 [0,1,4,44] ?_; refine k_block ?_; refine k_rounds 3 ?_; show AK _ _ _ _ _ _; refine srp 9000 [0,1,4,44] ?_; refine sq ?_; refine ct ?_; refine k_skip ?_; refine sq ?_; refine k_block ?_; refine srp 10000 [0,1,4,44] ?_; refine dr ?_; refine de 11000 ?_; refine dc id (spec190 a.a a.a) ?_; refine de 11100 ?_; refine dn ?_; refine k_nil ?_; show AK _ _ _ _ _ _; refine rg 12000 ?_; refine k_nil ?_; show AK _ _ _ _ _ _; refine srp 1009000 [0,1,4,44] ?_; refine sq ?_; refine ct ?_; refine k_skip ?_; refine sq ?_; refine k_block ?_; refine srp 1010000 [0,1,4,44] ?_; refine dr ?_; refine de 1011000 ?_; refine dc id (spec190 a.b a.b) ?_; refine de 1011100 ?_; refine dn ?_; refine k_nil ?_; show AK _ _ _ _ _ _; refine rg 1012000 ?_; refine k_nil ?_; show AK _ _ _ _ _ _; refine srp 2009000 [0,1,4,44] ?_; refine sq ?_; refine ce ?_; refine k_exit ?_; show AK _ _ _ _ _ _; refine k_nil ?_; show AK _ _ _ _ _ _; refine rg 13000 ?_; refine k_nil ?_; show AK _ _ _ _ _ _; refine srp 1003000 [0,1,4,44] ?_; refine sq ?_; refine ct ?_; refine k_skip ?_; refine sq ?_; refine k_block ?_; refine srp 1004000 [0,1,4,44] ?_; refine sq ?_; refine srp 1005000 [0,1,4,44] ?_; refine ce ?_; refine k_skip ?_; refine src 1007000 ?_; refine oc id (spec190 a.e b.e) ?_; refine oe 1007100 ?_; refine onp [0,1,4,44] ?_; refine srp 1008000 [0,1,4,44] ?_; refine k_block ?_; refine k_rounds 3 ?_; show AK _ _ _ _ _ _; refine srp 3009000 [0,1,4,44] ?_; refine sq ?_; refine ct ?_; refine k_skip ?_; refine sq ?_; refine k_block ?_; refine srp 2010000 [0,1,4,44] ?_; refine dr ?_; refine de 2011000 ?_; refine dc id (spec190 a.a b.a) ?_; refine de 2011100 ?_; refine dn ?_; refine k_nil ?_; show AK _ _ _ _ _ _; refine rg 2012000 ?_; refine k_nil ?_; show AK _ _ _ _ _ _; refine srp 4009000 [0,1,4,44] ?_; refine sq ?_; refine ct ?_; refine k_skip ?_; refine sq ?_; refine k_block ?_; refine srp 3010000 [0,1,4,44] ?_; refine dr ?_; refine de 3011000 ?_; refine dc id (spec190 a.b b.b) ?_; refine de 3011100 ?_; refine dn ?_; refine k_nil ?_; show AK _ _ _ _ _ _; refine rg 3012000 ?_; refine k_nil ?_; show AK _ _ _ _ _ _; refine srp 5009000 [0,1,4,44] ?_; refine sq ?_; refine ce ?_; refine k_exit ?_; show AK _ _ _ _ _ _; refine k_nil ?_; show AK _ _ _ _ _ _; refine rg 1013000 ?_; refine k_nil ?_; show AK _ _ _ _ _ _; refine srp 2003000 [0,1,4,44] ?_; refine sq ?_; refine ce ?_; refine k_exit ?_; show AK _ _ _ _ _ _; refine srp 14000 [4,5] ?_; refine k_ret ?_; show retQ _ _ _ _ _ _ _; simp [*]
attribute [local simp] Tm.av Tm.row in
theorem spec152 (a b : Tm) : Flat.Sp Tryz.prog 168 [.p (.ps [a.row, b.row])] [] ((lubT a b).av) [] := by
 refine sk Tryz.func168 ?_; intro F G hn hG; refine srp 1000 [0,1,2,5] ?_; refine src 2000 ?_; refine oc id (spec189 a b) ?_; refine oe 2100 ?_; refine onp [2,3] ?_; refine k_ret ?_; show retQ _ _ _ _ _ _ _; simp [*]
attribute [local simp] Tm.av Tm.row aheadT in
theorem spec98 (a b : Tm) : Flat.Sp Tryz.prog 77 [a.av, b.av] [] (vv (.bool (aheadT a b))) [] := by
 refine sk Tryz.func77 ?_; intro F G hn hG; refine srp 1000 [2,11] ?_; refine sq ?_; refine dr ?_; refine de 2000 ?_; refine dc id (spec152 a b) ?_ (hg := by simp [*, Tm.row]) (hf := by simp [*, Tm.row]; exact is_rfl _) (hx := by simp [*, Tm.row]; exact is_rfl _) (hargs := by simp [*, Tm.row]) (hB := by simp [*, Tm.row]) (hL := by simp [*, Tm.row]) (hd := by simp [*, Tm.row]; exact is_rfl _)
 refine de 2100 ?_; refine dn ?_; refine pr [4,5] ?_; refine k_ret ?_; show retQ _ _ _ _ _ _ _; simp [*]
attribute [local simp] cntR in
theorem spec99 (cs : List Ct) (hcs : cs.length ≤ Cap) (hsm : ∀ c ∈ cs, c.r.length ≤ Bnd) : Flat.Sp Tryz.prog 72 [.sl 0 cs.length 0 cs.length] [(.arr 0, .arr 71 2 (cs.map Ct.row) 0)] (.tup [.p (.ps ((cntR cs).1.map Ct.row)), vv (.int .i64 (cntR cs).2)]) [(.arr 0, .arr 71 2 ((isrt (ltU cmpK) cs).map Ct.row) 0)] := by
 refine sk Tryz.func72 ?_; intro F G hn hG; refine srp 1000 [0,1,2,8] ?_; refine src 2000 ?_; refine oc id (spec153 cmpK cmpK_ord cs hcs (fun x hx y hy => spec154 x y (Nat.le_trans (hsm x hx) (by decide)) (Nat.le_trans (hsm y hy) (by decide))) (fun x _ => spec155 x) (fun x hx n => spec156 x (hsm x hx) n)) ?_
 refine oe 2100 ?_; refine onp [2,4] ?_; refine k_ret ?_; show retQ _ _ _ _ _ _ _; simp [*]
attribute [local simp] Tm.av Tm.row Up.row Ct.row irow in
theorem spec50 (us : List Up) (t : Tm) (hus : us.length ≤ Cap) (hsm : Up.sms us) : Flat.Sp Tryz.prog 29 [.p (.ps (us.map Up.row)), t.av] [] (.tup [.p (.ps ((atR us t).1.map Ct.row)), vv (.int .i64 (atR us t).2)]) [] := by
 refine sk Tryz.func29 ?_; intro F G hn hG; have hcap : Cap = 1073741824 := rfl; refine srp 1000 [0,1,3,8,9,43] ?_; refine sq ?_; refine sq ?_; refine dr ?_; refine de 2000 ?_; refine dc id (spec80 us (Nat.le_trans hus (by decide)) hsm) ?_
 refine de 2100 ?_; refine dc id (spec96 t) ?_; refine de 2200 ?_; refine dc id ((show Flat.Sp Tryz.prog 74 _ _ (vv (.int .i64 (atE us t))) _ from spec97 [chkUs us, chkT t] (by simp [Flat.lim]))) ?_
 refine de 2300 ?_; refine dn ?_; refine pr [0,1,3,8,9,10,17,43] ?_; refine srp 3000 [0,1,3,8,9,10,18,43] ?_; refine cd ?_ ?_
 · intro h18_1
   have hfin : atR us t = ([], atE us t) := by have h2 : (atE us t != 0) = true := h18_1; rw [atR, h2]; rfl
   refine srp 4000 [0,1,3,6,7,8,9,10,20,43] ?_; refine k_ret ?_; show retQ _ _ _ _ _ _ _; simp [*]
 · intro h18_1
   have hfin : atR us t = cntR (atL us t) := by have h2 : (atE us t != 0) = false := h18_1; rw [atR, h2]; rfl
   refine k_skip ?_; refine srp 5000 [0,1,3,6,7,8,9,10,20,43] ?_; refine ow (.tmp 7) 900 71 2 ?_; refine sq ?_; refine srp 6000 [3,6,7,8,9,10,20,43] ?_; refine k_block ?_; refine k_loop (fun n l => ∃ i, i + n = us.length ∧ (True) ∧ l = [(.var 1000, .n 3), (.cell 1000 0, .av (vv (.int .u64 t.e))), (.cell 1000 1, .av (vv (.int .u64 t.a))), (.cell 1000 2, .av (vv (.int .u64 t.b))), (.tmp 3, .av (.ptr 1000 0)), (.tmp 7, .av (.sl 900 (atL (us.take i) t).length 0 (atL (us.take i) t).length)), (.tmp 20, .av (.p (.ps (us.map Up.row)))), (.tmp 21, .av (vv (.int .i64 us.length))), (.tmp 22, .av (vv (.int .i64 i))), (.arr 900, .arr 71 2 ((atL (us.take i) t).map Ct.row) 0)]) (us.length) hG ⟨_, ⟨by simp [*, atL], by simp, by simp⟩, 0, by simp, trivial, rfl⟩ ?_
   rintro n _ ⟨i, hin, hfa, rfl⟩; obtain ⟨cs, hcs⟩ : ∃ cs, atL (us.take i) t = cs := ⟨_, rfl⟩; have hcl : cs.length ≤ i := by rw [← hcs]; exact Nat.le_trans atL_len (by rw [List.length_take]; omega)
   refine srp 7000 [3,6,7,8,9,10,20,43] ?_; refine sq ?_; refine cd ?_ ?_
   · intro h23_2
     have hlt : i < us.length := by simpa using h23_2
     obtain ⟨x, hxe⟩ : ∃ x, us[i] = x := ⟨_, rfl⟩; have hx : us[i]? = some x := by simp [hlt, hxe]
     have hw := wrap_succ (show i < Flat.lim by simp only [Flat.lim]; omega)
     have hsn := atL_snoc (t := t) hx; rw [hcs] at hsn; have hb1 : (cs.length + 1) * 32 ≤ 140737488355328 := by omega
     have hb2 : cs.length + 1 ≤ 140737488355328 := by omega
     refine k_skip ?_; refine sq ?_; refine k_block ?_; refine srp 8000 [3,6,7,8,9,10,20,43] ?_; refine src 9000 ?_; refine oc id (spec98 x.t t) ?_; refine onp [3,6,7,8,9,10,20,43] ?_; refine cd ?_ ?_
     · intro h29_3
       replace hsn : atL (us.take (i + 1)) t = cs ++ [⟨x.r, x.d⟩] := by rw [hsn, show aheadT x.t t = true from h29_3]; rfl
       refine rg 10000 ?_; refine k_nil ?_; show AK _ _ _ _ _ _; refine rg 11000 ?_; refine k_nil ?_; refine ⟨n - 1, by omega, _, ⟨?_, ?_, ?_⟩, i + 1, by omega, trivial, rfl⟩ <;> simp [*, *]
     · intro h29_3
       replace hsn : atL (us.take (i + 1)) t = cs := by rw [hsn, show aheadT x.t t = false from h29_3]; simp
       refine k_skip ?_; refine k_nil ?_; show AK _ _ _ _ _ _; refine rg 11000 ?_; refine k_nil ?_; refine ⟨n - 1, by omega, _, ⟨?_, ?_, ?_⟩, i + 1, by omega, trivial, rfl⟩ <;> simp [*, *]
   · intro h23_2
     have hge : us.length ≤ i := by simpa using h23_2
     obtain rfl : i = us.length := by omega
     have htk : us.take us.length = us := List.take_length ..; rw [htk] at hcs; refine k_exit ?_; show AK _ _ _ _ _ _; refine src 12000 ?_; refine oc (fun _ => 900) (spec99 (atL us t) (by have := @atL_len us t; omega) (atL_sm hsm)) ?_
     refine oe 12100 ?_; refine onp [4,6] ?_; refine k_ret ?_; show retQ _ _ _ _ _ _ _; simp [*]
def diffK (x y : Ct) : Bool := !sameV x.r y.r || x.n != y.n
def sameK (x y : Ct) : Bool := !diffK x y
attribute [local simp] Ct.row in
set_option maxHeartbeats 1000000 in
theorem spec52 (xs ys : List Ct) (hlx : xs.length ≤ Flat.lim) (hly : ys.length ≤ Flat.lim) (hsx : ∀ c ∈ xs, c.r.length ≤ Flat.lim) (hsy : ∀ c ∈ ys, c.r.length ≤ Flat.lim) : Flat.Sp Tryz.prog 25 [.p (.ps (xs.map Ct.row)), .p (.ps (ys.map Ct.row))] [] (vv (.bool (sameBy sameK xs ys))) [] := by
 refine sk Tryz.func25 ?_; intro F G hn hG; refine srp 1000 [0,2,4,42] ?_; refine sq ?_; refine srp 2000 [0,2,4,6,10,42] ?_; refine cd ?_ ?_
 · intro h10_1
   have hne : xs.length ≠ ys.length := by have := h10_1; simp at this; omega
   have hfin := sameBy_len (f := sameK) hne; refine srp 3000 [0,2,4,6,11,42] ?_; refine k_ret ?_; show retQ _ _ _ _ _ _ _; simp [*]
 · intro h10_1
   have hxy : ys.length = xs.length := by have := h10_1; simp at this; omega
   refine k_skip ?_; refine sq ?_; refine srp 4000 [0,2,4,6,12,42] ?_; refine k_block ?_; refine k_loop (fun n l => ∃ i, i + n = xs.length ∧ (sameBy sameK (xs.drop i) (ys.drop i) = sameBy sameK xs ys) ∧ l = [(.tmp 0, .av (.p (.ps (xs.map Ct.row)))), (.tmp 1, .av (.p (.ps (ys.map Ct.row)))), (.tmp 12, .av (vv (.int .i64 xs.length))), (.tmp 13, .av (vv (.int .i64 i)))]) (xs.length) hG ⟨_, ⟨by simp, by simp, by simp⟩, 0, by simp, rfl, rfl⟩ ?_
   rintro n _ ⟨i, hin, hfa, rfl⟩; have hcm := hfa; refine srp 5000 [0,2,4,6,12,42] ?_; refine sq ?_; refine cd ?_ ?_
   · intro h14_2
     have hlt : i < xs.length := by simpa using h14_2
     obtain ⟨x, hxe⟩ : ∃ x, xs[i] = x := ⟨_, rfl⟩; have hx : xs[i]? = some x := by simp [hlt, hxe]
     have hw := wrap_succ (show i < Flat.lim by omega)
     have hlty : i < ys.length := by omega
     obtain ⟨y, hye⟩ : ∃ y, ys[i] = y := ⟨_, rfl⟩; have hy : ys[i]? = some y := by simp [hlty, hye]
     rw [drop_at hx, drop_at hy] at hcm; have hcm : (sameK x y && sameBy sameK (xs.drop (i + 1)) (ys.drop (i + 1))) = sameBy sameK xs ys := hcm; have hrx : x.r.length ≤ Flat.lim := hsx x (List.mem_of_getElem? hx); have hry : y.r.length ≤ Flat.lim := hsy y (List.mem_of_getElem? hy); refine k_skip ?_; refine sq ?_; refine k_block ?_; refine srp 6000 [0,2,4,6,12,42] ?_; refine sq ?_; refine cv [(.tmp 40, vv (.bool (diffK x y)))] ?_ ?_
     · skip
       rcases q1 : (sameBy Val.eqB x.r y.r : Bool) with _ | _
       · skip
         refine dr ?_; refine de 7000 ?_ (h := by simp [*, diffK, sameV, q1]; exact is_rfl _)
         refine dc id (spec91 x.r y.r hrx hry) ?_ (hg := by simp [*, diffK, sameV, q1]) (hf := by simp [*, diffK, sameV, q1]; exact is_rfl _) (hx := by simp [*, diffK, sameV, q1]; exact is_rfl _) (hargs := by simp [*, diffK, sameV, q1]) (hB := by simp [*, diffK, sameV, q1]) (hL := by simp [*, diffK, sameV, q1]) (hd := by simp [*, diffK, sameV, q1]; exact is_rfl _)
         refine de 7100 ?_ (h := by simp [*, diffK, sameV, q1]; exact is_rfl _)
         iterate 11 (first | refine dp 8150 ?_ (he := by intro hgg; (try simp only [Bool.and_eq_true] at hgg); simp [*, diffK, sameV, q1]; exact is_rfl _) | refine ds ?_ | refine dt 8150 ?_ (he := by simp [*, diffK, sameV, q1]; exact is_rfl _))
         refine de 8200 ?_ (h := by simp [*, diffK, sameV, q1]; exact is_rfl _)
         refine dn ?_; refine k_nil ?_; refine ⟨rfl, ?_, ?_, ?_⟩ <;> simp [*, diffK, sameV, q1]
       · skip
         refine dr ?_; refine de 1007000 ?_ (h := by simp [*, diffK, sameV, q1]; exact is_rfl _)
         refine dc id (spec91 x.r y.r hrx hry) ?_ (hg := by simp [*, diffK, sameV, q1]) (hf := by simp [*, diffK, sameV, q1]; exact is_rfl _) (hx := by simp [*, diffK, sameV, q1]; exact is_rfl _) (hargs := by simp [*, diffK, sameV, q1]) (hB := by simp [*, diffK, sameV, q1]) (hL := by simp [*, diffK, sameV, q1]) (hd := by simp [*, diffK, sameV, q1]; exact is_rfl _)
         refine de 1007100 ?_ (h := by simp [*, diffK, sameV, q1]; exact is_rfl _)
         iterate 11 (first | refine dp 1008150 ?_ (he := by intro hgg; (try simp only [Bool.and_eq_true] at hgg); simp [*, diffK, sameV, q1]; exact is_rfl _) | refine ds ?_ | refine dt 1008150 ?_ (he := by simp [*, diffK, sameV, q1]; exact is_rfl _))
         refine de 1008200 ?_ (h := by simp [*, diffK, sameV, q1]; exact is_rfl _)
         refine dn ?_; refine k_nil ?_; refine ⟨rfl, ?_, ?_, ?_⟩ <;> simp [*, diffK, sameV, q1]
     refine pr [0,2,4,6,12,42] ?_; refine cd ?_ ?_
     · intro h40_3
       have h2 : sameK x y = false := by have h3 : diffK x y = true := h40_3; rw [sameK, h3]; rfl
       rw [h2] at hcm; have hfin : sameBy sameK xs ys = false := hcm.symm; refine srp 8000 [0,2,4,6,12,42] ?_; refine k_ret ?_; show retQ _ _ _ _ _ _ _; simp [*]
     · intro h40_3
       have h2 : sameK x y = true := by have h3 : diffK x y = false := h40_3; rw [sameK, h3]; rfl
       rw [h2] at hcm; have hnext : sameBy sameK (xs.drop (i + 1)) (ys.drop (i + 1)) = sameBy sameK xs ys := hcm; refine k_skip ?_; refine k_nil ?_; show AK _ _ _ _ _ _; refine rg 9000 ?_; refine k_nil ?_; refine ⟨n - 1, by omega, _, ⟨?_, ?_, ?_⟩, i + 1, by omega, hnext, rfl⟩ <;> simp [*]
   · intro h14_2
     have hge : xs.length ≤ i := by simpa using h14_2
     obtain rfl : i = xs.length := by omega
     rw [List.drop_eq_nil_of_le (Nat.le_refl _), List.drop_eq_nil_of_le (by omega)] at hcm
     have hfin : sameBy sameK xs ys = true := hcm.symm; refine k_exit ?_; show AK _ _ _ _ _ _; refine srp 10000 [4,5] ?_; refine k_ret ?_; show retQ _ _ _ _ _ _ _; simp [*]
end
section
def lrowk (l : List Ct) : List PV := [.ps (l.map Ct.row)]
@[simp] theorem lrowk_len (l : List Ct) : (lrowk l).length = 1 := rfl
def catk (ls : List (List Ct)) : List Ct := ls.flatten
theorem cat_succk {ls : List (List Ct)} {i : Nat} {l : List Ct} (h : ls[i]? = some l) : catk (ls.take (i + 1)) = catk (ls.take i) ++ l := by
 rw [catk, catk, List.take_add_one, h]; simp
theorem cat_lek {ls : List (List Ct)} (i : Nat) : (catk (ls.take i)).length ≤ (catk ls).length := by
 have : catk ls = catk (ls.take i) ++ catk (ls.drop i) := by rw [catk, catk, catk, ← List.flatten_append, List.take_append_drop]
 rw [this, List.length_append]; omega
theorem cat_allk {ls : List (List Ct)} {i : Nat} (h : ls.length ≤ i) : catk (ls.take i) = catk ls := by rw [List.take_of_length_le h]
theorem spec145_0k  : Flat.Sp Tryz.prog 158 [.psf [], vv (.int .i64 0)] [] (.psf []) [] := by
 refine sk Tryz.func158 ?_; intro F G hn hG; refine srp 1000 [0,2,4,27] ?_; refine sq ?_; refine srp 2000 [0,2,4,5,6,27] ?_; refine ce ?_; refine k_skip ?_; refine sq ?_; refine srp 4000 [0,2,4,5,15,27] ?_; refine srp 5000 [0,2,4,5,16,27] ?_; refine ce ?_; refine k_skip ?_; refine srp 7000 [4,5] ?_; refine k_ret ?_; show retQ _ _ _ _ _ _ _; simp [*]
attribute [local simp] Ct.row Ct.zero in
theorem spec145_nk (n : Nat) (h0 : 0 < n) (h1 : n ≤ Cap) : Flat.Sp Tryz.prog 158 [.psf [], vv (.int .i64 n)] [] (.sl 6005 n 0 0) [(.arr 6005, .arr 71 2 (List.replicate n Ct.zero.row) 0)] := by
 refine sk Tryz.func158 ?_; intro F G hn hG; have hw : IntKind.i64.wrap (n : Int) = n := Flat.wrap_small (by simp only [Cap] at h1; simp only [Flat.lim]; omega)
 have hn0 : ¬ ((n : Int) < 0) := by omega
 have hn2 : n ≤ 140737488355328 := by simp only [Cap] at h1; omega
 have hn3 : n * 32 ≤ 140737488355328 := by simp only [Cap] at h1; omega
 refine srp 1000 [0,2,4,27] ?_; refine sq ?_; refine srp 2000 [0,2,4,5,6,27] ?_; refine ce ?_; refine k_skip ?_; refine sq ?_; refine srp 4000 [0,2,4,5,15,27] ?_; refine srp 5000 [0,2,4,5,16,27] ?_; refine ct ?_; refine rgp 6000 [0,1,4,5,26,27] ?_; refine srp 7000 [4,5] ?_; refine k_ret ?_; show retQ _ _ _ _ _ _ _; simp [*]
attribute [local simp] lrowk in
theorem spec86_0k (ls : List (List Ct)) (L : Nat) (hLL : (catk ls).length = L) (hlen : ls.length ≤ Cap) (hc : L ≤ Cap) (h0 : L = 0) : Flat.Sp Tryz.prog 71 [.p (.ps (ls.map lrowk))] [] (.sl 900 L 0 L) [(.arr 900, .arr 71 2 ((catk ls).map Ct.row) 0)] := by
 refine sk Tryz.func71 ?_; intro F G hn hG; simp only [Cap] at hlen hc; have hwL : IntKind.i64.wrap (L : Int) = L := Flat.wrap_small (by simp only [Flat.lim]; omega)
 have hca : catk (ls.take ls.length) = catk ls := cat_allk (Nat.le_refl _); refine srp 1000 [0,1,2,4,5,7,8,36] ?_; refine srp 2000 [0,1,2,4,5,7,8,36] ?_; refine sq ?_; refine srp 3000 [0,1,2,4,5,7,8,36] ?_; refine k_block ?_; refine k_loop (fun n l => ∃ i, i + n = ls.length ∧ (True) ∧ l = [(.tmp 0, .av (.p (.ps (ls.map lrowk)))), (.tmp 3, .av (vv (.int .i64 (catk (ls.take i)).length))), (.tmp 9, .av (.p (.ps (ls.map lrowk)))), (.tmp 10, .av (vv (.int .i64 ls.length))), (.tmp 11, .av (vv (.int .i64 i)))]) (ls.length) hG ⟨_, ⟨by simp [catk], by simp, by simp⟩, 0, by simp, trivial, rfl⟩ ?_
 rintro n _ ⟨i, hin, hfa, rfl⟩; refine srp 4000 [0,1,2,4,5,7,8,36] ?_; refine sq ?_; refine cd ?_ ?_
 · intro h12_1
   have hlt : i < ls.length := by simpa using h12_1
   obtain ⟨x, hxe⟩ : ∃ x, ls[i] = x := ⟨_, rfl⟩; have hx : ls[i]? = some x := by simp [hlt, hxe]
   have hw := wrap_succ (show i < Flat.lim by simp only [Flat.lim]; omega)
   have hcs := cat_succk hx; have hle := cat_lek (ls := ls) (i + 1); rw [hcs, List.length_append] at hle; have hws := wadd (x := (catk (ls.take i)).length) (y := x.length) rfl (by simp only [Flat.lim]; omega)
   simp only [Int.natCast_add] at hws; have hn0 : ¬ (((catk (ls.take i)).length : Int) + (x.length : Int) < 0) := by omega
   refine k_skip ?_; refine sq ?_; refine k_block ?_; refine srp 5000 [0,1,2,4,5,7,8,36] ?_; refine srp 6000 [0,1,2,4,5,7,8,36] ?_; refine srp 7000 [0,1,2,4,5,7,8,36] ?_; refine ce ?_; refine k_skip ?_; refine k_nil ?_; show AK _ _ _ _ _ _; refine rg 9000 ?_; refine k_nil ?_; refine ⟨n - 1, by omega, _, ⟨?_, ?_, ?_⟩, i + 1, by omega, trivial, rfl⟩ <;> simp [*, List.length_append]
 · intro h12_1
   have hge : ls.length ≤ i := by simpa using h12_1
   obtain rfl : i = ls.length := by omega
   skip; refine k_exit ?_; show AK _ _ _ _ _ _; refine src 10000 ?_; refine oc (fun _ => 900) (spec145_0k) ?_
   refine oe 10100 ?_; refine onp [0,1,2,3,6,7,8,9,25,36] ?_; refine ow (.tmp 6) 900 71 2 ?_; refine sq ?_; refine srp 11000 [2,3,6,7,8,9,25,36] ?_; refine k_block ?_; refine k_loop (fun n l => ∃ i, i + n = ls.length ∧ (True) ∧ l = [(.tmp 6, .av (.sl 900 L 0 (catk (ls.take i)).length)), (.tmp 25, .av (.p (.ps (ls.map lrowk)))), (.tmp 26, .av (vv (.int .i64 ls.length))), (.tmp 27, .av (vv (.int .i64 i))), (.arr 900, .arr 71 2 ((catk (ls.take i)).map Ct.row ++ List.replicate (L - (catk (ls.take i)).length) Ct.zero.row) 0)]) (ls.length) hG ⟨_, ⟨by simp [catk, *], by simp, by simp⟩, 0, by simp, trivial, rfl⟩ ?_
   rintro n _ ⟨i, hin, hfa, rfl⟩; refine srp 12000 [2,3,6,7,8,9,25,36] ?_; refine sq ?_; refine cd ?_ ?_
   · intro h28_2
     have hlt : i < ls.length := by simpa using h28_2
     obtain ⟨x, hxe⟩ : ∃ x, ls[i] = x := ⟨_, rfl⟩; have hx : ls[i]? = some x := by simp [hlt, hxe]
     have hw := wrap_succ (show i < Flat.lim by simp only [Flat.lim]; omega)
     have hcs := cat_succk hx; have hle := cat_lek (ls := ls) (i + 1); rw [hcs, List.length_append] at hle; obtain ⟨k, hk⟩ : ∃ k, (catk (ls.take i)).length = k := ⟨_, rfl⟩; rw [hk] at hle; have hkl : k ≤ L := by omega
     refine k_skip ?_; refine sq ?_; refine k_block ?_; refine srp 13000 [2,3,6,7,8,9,25,36] ?_; refine k_cut [(.tmp 6, .av (.sl 900 L 0 (catk (ls.take (i + 1))).length)), (.tmp 25, .av (.p (.ps (ls.map lrowk)))), (.tmp 26, .av (vv (.int .i64 ls.length))), (.tmp 27, .av (vv (.int .i64 i))), (.arr 900, .arr 71 2 ((catk (ls.take (i + 1))).map Ct.row ++ List.replicate (L - (catk (ls.take (i + 1))).length) Ct.zero.row) 0)] (by assumption) ?_ ?_
     · skip
       have hkL : k = L := by omega
       have hx0 : x = [] := List.length_eq_zero_iff.1 (by omega)
       subst hx0; subst hkL; have hb1 : k * 32 ≤ 140737488355328 := by omega
       have hb2 : k ≤ 140737488355328 := by omega
       have hcs0 : catk (ls.take (i + 1)) = catk (ls.take i) := by rw [hcs, List.append_nil]
       refine rg 14000 ?_; refine k_nil ?_; refine ⟨rfl, ?_, ?_, ?_⟩ <;> simp [*]
     refine k_nil ?_; show AK _ _ _ _ _ _; refine rg 15000 ?_; refine k_nil ?_; refine ⟨n - 1, by omega, _, ⟨?_, ?_, ?_⟩, i + 1, by omega, trivial, rfl⟩ <;> simp [*, *]
   · intro h28_2
     have hge : ls.length ≤ i := by simpa using h28_2
     obtain rfl : i = ls.length := by omega
     refine k_exit ?_; show AK _ _ _ _ _ _; refine srp 16000 [2,3] ?_; refine k_ret ?_; show retQ _ _ _ _ _ _ _; simp [*]
attribute [local simp] lrowk in
theorem spec86_1k (ls : List (List Ct)) (L : Nat) (hLL : (catk ls).length = L) (hlen : ls.length ≤ Cap) (hc : L ≤ Cap) (h0 : 0 < L) : Flat.Sp Tryz.prog 71 [.p (.ps (ls.map lrowk))] [] (.sl 900 L 0 L) [(.arr 900, .arr 71 2 ((catk ls).map Ct.row) 0)] := by
 refine sk Tryz.func71 ?_; intro F G hn hG; simp only [Cap] at hlen hc; have hwL : IntKind.i64.wrap (L : Int) = L := Flat.wrap_small (by simp only [Flat.lim]; omega)
 have hca : catk (ls.take ls.length) = catk ls := cat_allk (Nat.le_refl _); refine srp 1000 [0,1,2,4,5,7,8,36] ?_; refine srp 2000 [0,1,2,4,5,7,8,36] ?_; refine sq ?_; refine srp 3000 [0,1,2,4,5,7,8,36] ?_; refine k_block ?_; refine k_loop (fun n l => ∃ i, i + n = ls.length ∧ (True) ∧ l = [(.tmp 0, .av (.p (.ps (ls.map lrowk)))), (.tmp 3, .av (vv (.int .i64 (catk (ls.take i)).length))), (.tmp 9, .av (.p (.ps (ls.map lrowk)))), (.tmp 10, .av (vv (.int .i64 ls.length))), (.tmp 11, .av (vv (.int .i64 i)))]) (ls.length) hG ⟨_, ⟨by simp [catk], by simp, by simp⟩, 0, by simp, trivial, rfl⟩ ?_
 rintro n _ ⟨i, hin, hfa, rfl⟩; refine srp 4000 [0,1,2,4,5,7,8,36] ?_; refine sq ?_; refine cd ?_ ?_
 · intro h12_1
   have hlt : i < ls.length := by simpa using h12_1
   obtain ⟨x, hxe⟩ : ∃ x, ls[i] = x := ⟨_, rfl⟩; have hx : ls[i]? = some x := by simp [hlt, hxe]
   have hw := wrap_succ (show i < Flat.lim by simp only [Flat.lim]; omega)
   have hcs := cat_succk hx; have hle := cat_lek (ls := ls) (i + 1); rw [hcs, List.length_append] at hle; have hws := wadd (x := (catk (ls.take i)).length) (y := x.length) rfl (by simp only [Flat.lim]; omega)
   simp only [Int.natCast_add] at hws; have hn0 : ¬ (((catk (ls.take i)).length : Int) + (x.length : Int) < 0) := by omega
   refine k_skip ?_; refine sq ?_; refine k_block ?_; refine srp 5000 [0,1,2,4,5,7,8,36] ?_; refine srp 6000 [0,1,2,4,5,7,8,36] ?_; refine srp 7000 [0,1,2,4,5,7,8,36] ?_; refine ce ?_; refine k_skip ?_; refine k_nil ?_; show AK _ _ _ _ _ _; refine rg 9000 ?_; refine k_nil ?_; refine ⟨n - 1, by omega, _, ⟨?_, ?_, ?_⟩, i + 1, by omega, trivial, rfl⟩ <;> simp [*, List.length_append]
 · intro h12_1
   have hge : ls.length ≤ i := by simpa using h12_1
   obtain rfl : i = ls.length := by omega
   skip; refine k_exit ?_; show AK _ _ _ _ _ _; refine src 10000 ?_; refine oc (fun _ => 900) (spec145_nk L h0 (by simp only [Cap]; omega)) ?_
   refine oe 10100 ?_; refine onp [0,1,2,3,6,7,8,9,25,36] ?_; refine sq ?_; refine srp 11000 [2,3,6,7,8,9,25,36] ?_; refine k_block ?_; refine k_loop (fun n l => ∃ i, i + n = ls.length ∧ (True) ∧ l = [(.tmp 6, .av (.sl 900 L 0 (catk (ls.take i)).length)), (.tmp 25, .av (.p (.ps (ls.map lrowk)))), (.tmp 26, .av (vv (.int .i64 ls.length))), (.tmp 27, .av (vv (.int .i64 i))), (.arr 900, .arr 71 2 ((catk (ls.take i)).map Ct.row ++ List.replicate (L - (catk (ls.take i)).length) Ct.zero.row) 0)]) (ls.length) hG ⟨_, ⟨by simp [catk, *], by simp, by simp⟩, 0, by simp, trivial, rfl⟩ ?_
   rintro n _ ⟨i, hin, hfa, rfl⟩; refine srp 12000 [2,3,6,7,8,9,25,36] ?_; refine sq ?_; refine cd ?_ ?_
   · intro h28_2
     have hlt : i < ls.length := by simpa using h28_2
     obtain ⟨x, hxe⟩ : ∃ x, ls[i] = x := ⟨_, rfl⟩; have hx : ls[i]? = some x := by simp [hlt, hxe]
     have hw := wrap_succ (show i < Flat.lim by simp only [Flat.lim]; omega)
     have hcs := cat_succk hx; have hle := cat_lek (ls := ls) (i + 1); rw [hcs, List.length_append] at hle; obtain ⟨k, hk⟩ : ∃ k, (catk (ls.take i)).length = k := ⟨_, rfl⟩; rw [hk] at hle; have hkl : k ≤ L := by omega
     refine k_skip ?_; refine sq ?_; refine k_block ?_; refine srp 13000 [2,3,6,7,8,9,25,36] ?_; refine k_cut [(.tmp 6, .av (.sl 900 L 0 (catk (ls.take (i + 1))).length)), (.tmp 25, .av (.p (.ps (ls.map lrowk)))), (.tmp 26, .av (vv (.int .i64 ls.length))), (.tmp 27, .av (vv (.int .i64 i))), (.arr 900, .arr 71 2 ((catk (ls.take (i + 1))).map Ct.row ++ List.replicate (L - (catk (ls.take (i + 1))).length) Ct.zero.row) 0)] (by assumption) ?_ ?_
     · skip
       rcases h0q : ((k == L) : Bool) with _ | _
       · skip
         have hkne : ¬ k = L := by simpa using h0q
         have hklt : k < L := by omega
         have hmax : max L (k + x.length) = L := by omega
         have htk : ((catk (ls.take i)).map Ct.row ++ List.replicate (L - k) Ct.zero.row).take k = (catk (ls.take i)).map Ct.row := by rw [List.take_append_of_le_length (by simp [hk]), List.take_of_length_le (by simp [hk])]
         have hdk : ((catk (ls.take i)).map Ct.row ++ List.replicate (L - k) Ct.zero.row).drop (k + x.length) = List.replicate (L - (k + x.length)) Ct.zero.row := by rw [List.drop_append, List.drop_eq_nil_of_le (by simp [hk]), List.drop_replicate]; simp [hk]; omega
         have hlk : k + (L - k) = L := by omega
         have hb1 : (k + x.length) * 32 ≤ 140737488355328 := by omega
         have hb2 : k + x.length ≤ 140737488355328 := by omega
         refine rg 14000 ?_; refine k_nil ?_; refine ⟨rfl, ?_, ?_, ?_⟩ <;> simp [*]
       · skip
         have hkL : k = L := by simpa using h0q
         have hx0 : x = [] := List.length_eq_zero_iff.1 (by omega)
         subst hx0; subst hkL; have hb1 : k * 32 ≤ 140737488355328 := by omega
         have hb2 : k ≤ 140737488355328 := by omega
         have hcs0 : catk (ls.take (i + 1)) = catk (ls.take i) := by rw [hcs, List.append_nil]
         refine rg 1014000 ?_; refine k_nil ?_; refine ⟨rfl, ?_, ?_, ?_⟩ <;> simp [*]
     refine k_nil ?_; show AK _ _ _ _ _ _; refine rg 15000 ?_; refine k_nil ?_; refine ⟨n - 1, by omega, _, ⟨?_, ?_, ?_⟩, i + 1, by omega, trivial, rfl⟩ <;> simp [*, *]
   · intro h28_2
     have hge : ls.length ≤ i := by simpa using h28_2
     obtain rfl : i = ls.length := by omega
     refine k_exit ?_; show AK _ _ _ _ _ _; refine srp 16000 [2,3] ?_; refine k_ret ?_; show retQ _ _ _ _ _ _ _; simp [*]
theorem spec86k (ls : List (List Ct)) (hlen : ls.length ≤ Cap) (hc : (catk ls).length ≤ Cap) : Flat.Sp Tryz.prog 71 [.p (.ps (ls.map lrowk))] [] (.sl 900 (catk ls).length 0 (catk ls).length) [(.arr 900, .arr 71 2 ((catk ls).map Ct.row) 0)] := by
 rcases Nat.eq_zero_or_pos (catk ls).length with h | h
 · exact spec86_0k ls _ rfl hlen hc h
 · exact spec86_1k ls _ rfl hlen hc h
end
end Go.Proofs
end
section
set_option linter.unusedVariables false
set_option linter.unusedSimpArgs false
namespace Go.Proofs
open Go.Flat
section
variable {α : Type} {c : α → α → Int} {nm : α → Int} {put : α → Int → α}
def sumP (P : α → Bool) (nm : α → Int) (l : List α) : Int := ((l.filter P).map nm).sum
theorem sumP_nil (P : α → Bool) (nm : α → Int) : sumP P nm [] = 0 := rfl
theorem sumP_cons (P : α → Bool) (nm : α → Int) (x : α) (l : List α) : sumP P nm (x :: l) = (if P x then nm x else 0) + sumP P nm l := by
 unfold sumP; cases h : P x <;> simp [h]
theorem sumP_app (P : α → Bool) (nm : α → Int) (l l' : List α) : sumP P nm (l ++ l') = sumP P nm l + sumP P nm l' := by simp [sumP]
theorem sumP_perm {P : α → Bool} {nm : α → Int} {l l' : List α} (h : l.Perm l') : sumP P nm l = sumP P nm l' := perm_sum ((h.filter _).map _)
def sumG (P : α → Bool) (gs : List (α × List Int)) : Int := ((gs.filter fun g => P g.1).map fun g => g.2.sum).sum
theorem sumG_app (P : α → Bool) (l l' : List (α × List Int)) : sumG P (l ++ l') = sumG P l + sumG P l' := by simp [sumG]
theorem sumG_one (P : α → Bool) (g : α × List Int) : sumG P [g] = if P g.1 then g.2.sum else 0 := by
 unfold sumG; cases h : P g.1 <;> simp [h]
theorem sumG_grp {P : α → Bool} (hP : ∀ x y, c x y = 0 → P x = P y) (nm : α → Int) (l : List α) : sumG P (grp c nm l) = sumP P nm l := by
 suffices h : ∀ n (l : List α), l.length = n → sumG P (grp c nm l) = sumP P nm l from h _ l rfl
 intro n
 induction n with
 | zero => intro l hl; obtain rfl := List.length_eq_zero_iff.1 hl; rfl
 | succ n ih =>
   intro l hl; obtain ⟨p, x, rfl⟩ : ∃ p x, l = p ++ [x] := ⟨l.dropLast, l.getLast (by intro e; simp [e] at hl), (List.dropLast_concat_getLast _).symm⟩
   have I := ih p (by simpa using hl)
   rw [grp_snoc, sumP_app, ← I]; have hx : sumP P nm [x] = if P x then nm x else 0 := by rw [sumP_cons, sumP_nil]; omega
   rw [hx]; rcases List.eq_nil_or_concat (grp c nm p) with e | ⟨g, r, e⟩
   · rw [e, gstep_nil, sumG_one]; simp [sumG]
   · rw [List.concat_eq_append] at e
     rw [e, gstep_snoc]; split
     · rename_i hc
       have := hP _ _ hc; rw [sumG_app, sumG_app, sumG_one, sumG_one]; simp only [this, List.sum_append, List.sum_cons, List.sum_nil]; split <;> omega
     · rw [show g ++ [r, (x, [nm x])] = (g ++ [r]) ++ [(x, [nm x])] by simp, sumG_app, sumG_one]
       simp
theorem sum_out {P : α → Bool} {gs : List (α × List Int)} (hp : ∀ x n, P (put x n) = P x) (hn : ∀ x n, nm (put x n) = n) (hf : ∀ g ∈ gs, gfit g = (g.2.sum, 0)) : sumP P nm (gout put gs) = sumG P gs := by
 induction gs with
 | nil => rfl
 | cons g gs ih =>
   have I := ih fun x hx => hf x (by simp [hx])
   have h1 := hf g (by simp)
   have e1 : sumG P (g :: gs) = (if P g.1 then g.2.sum else 0) + sumG P gs := by rw [← sumG_one P g, ← sumG_app]; rfl
   have e2 : gout put (g :: gs) = (if g.2.sum != 0 then [put g.1 g.2.sum] else []) ++ gout put gs := by
     unfold gout; rw [List.filterMap_cons, h1]; cases h : (g.2.sum != 0) <;> simp only [h, Bool.false_eq_true, if_true, if_false, List.nil_append, List.singleton_append, List.cons_append]
   rw [e1, e2, sumP_app, I]; congr 1
   cases h : (g.2.sum != 0) with
   | false => simp at h; simp [sumP, h]
   | true =>
     simp only [if_true]; rw [sumP_cons, sumP_nil, hp, hn]; omega
theorem mem_gout {gs : List (α × List Int)} (hf : ∀ g ∈ gs, gfit g = (g.2.sum, 0)) {u : α} : u ∈ gout put gs ↔ ∃ g ∈ gs, g.2.sum ≠ 0 ∧ u = put g.1 g.2.sum := by
 unfold gout; rw [List.mem_filterMap]; constructor
 · rintro ⟨g, hg, h⟩
   rw [hf g hg] at h; refine ⟨g, hg, ?_⟩; split at h
   · rename_i hn
     simp only [Option.some.injEq] at h; exact ⟨by simpa using hn, h.symm⟩
   · simp at h
 · rintro ⟨g, hg, h1, h2⟩
   refine ⟨g, hg, ?_⟩; rw [hf g hg, if_pos (by simpa using h1), h2]
theorem gout_strict {gs : List (α × List Int)} (h : gs.Pairwise fun r s => ltC c r.1 s.1 = true) (h1 : ∀ x n y, c (put x n) y = c x y) (h2 : ∀ x n y, c y (put x n) = c y x) : (gout put gs).Pairwise fun x y => ltC c x y = true := by
 unfold gout; rw [List.pairwise_filterMap]; refine h.imp ?_; intro r s hrs x hx y hy; split at hx <;> simp at hx
 split at hy <;> simp at hy
 subst hx; subst hy; simp only [ltC, h1, h2] at hrs ⊢; exact hrs
end
theorem fit_sum {ns : List Int} (h : ∀ n ∈ ns, i64 n) (hl : ns.length ≤ 4294967296) : tfit (tsum ns) = if -9223372036854775808 ≤ ns.sum ∧ ns.sum < 9223372036854775808 then (ns.sum, 0) else (0, 10) := by
 obtain ⟨k, hk⟩ := tsum_V h (0, 0) (by simp [tin])
 have hV : V ((0, 0) : Int × Int) = 0 := rfl; rw [hV] at hk; obtain ⟨b1, b2⟩ := sum_bound h; exact tfit_V (tsum_in ns) (s := ns.sum) (k := k) (by rw [tsum]; omega) (by omega) (by omega)
theorem orI_zero : ∀ {l : List Int}, orI l = 0 ↔ ∀ x ∈ l, x = 0
 | [] => by simp [orI]
 | x :: l => by
   rw [orI]; have ih := orI_zero (l := l)
   by_cases h : x = 0
   · subst h; simp [ih]
   · have : (x != 0) = true := by simpa using h
     rw [this, if_pos rfl]; simp [h]
def rts (us : List Up) : Prop := ∀ u ∈ us, chkU u = 0
def gds (us : List Up) : Prop := ∀ u ∈ us, i64 u.d
theorem chkUs_iff {us : List Up} : chkUs us = 0 ↔ rts us := by
 rw [chkUs, orI_zero]; simp [rts]
theorem chk_cat {ls : List (List Up)} : orI (ls.map chkUs) = 0 ↔ rts (cat ls) := by
 rw [orI_zero]; constructor
 · intro h u hu
   obtain ⟨l, h1, h2⟩ := mem_cat.1 hu; exact chkUs_iff.1 (h _ (List.mem_map.2 ⟨l, h1, rfl⟩)) u h2
 · intro h x hx
   obtain ⟨l, h1, rfl⟩ := List.mem_map.1 hx; exact chkUs_iff.2 fun u hu => h u (mem_cat.2 ⟨l, h1, hu⟩)
theorem row_right {r : List Val} (h : checkRow r = 0) : ∀ v ∈ r, v.right = true := by
 unfold checkRow at h; split at h
 · simp at h
 · rename_i hb
   intro v hv
   have hall : firstBad r 0 < 0 := by
     simp only [badRow, Bool.or_eq_true, decide_eq_true_eq, not_or] at hb; omega
   have : ∀ (l : List Val) (i : Nat), firstBad l i < 0 → ∀ v ∈ l, v.right = true := by
     intro l
     induction l with
     | nil => intro i _ v hv; simp at hv
     | cons x l ih =>
       intro i hi v hv; unfold firstBad at hi; split at hi
       · first
         | omega
         | (rename_i hx
            rcases List.mem_cons.1 hv with rfl | hv
            · simpa using hx
            · exact ih (i + 1) hi v hv)
       · first
         | omega
         | (rename_i hx
            rcases List.mem_cons.1 hv with rfl | hv
            · simpa using hx
            · exact ih (i + 1) hi v hv)
   exact this r 0 hall v hv
theorem chkU_parts {u : Up} (h : chkU u = 0) : checkRow u.k = 0 ∧ checkRow u.r = 0 ∧ chkT u.t = 0 := by
 rw [chkU, orI_zero] at h; exact ⟨h _ (by simp), h _ (by simp), h _ (by simp)⟩
theorem cmpU_eq {x y : Up} (hx : chkU x = 0) (hy : chkU y = 0) : cmpU x y = 0 ↔ x.k = y.k ∧ x.r = y.r ∧ x.t = y.t := by
 obtain ⟨a1, a2, _⟩ := chkU_parts hx; obtain ⟨b1, b2, _⟩ := chkU_parts hy; have e1 := cmpBy_eq (p := fun v : Val => v.right = true) (fun a b ha hb => Val.cmp_eq a b ha hb) x.k y.k (row_right a1) (row_right b1)
 have e2 := cmpBy_eq (p := fun v : Val => v.right = true) (fun a b ha hb => Val.cmp_eq a b ha hb) x.r y.r (row_right a2) (row_right b2)
 have e3 := cmpT_eq x.t y.t; rw [cmpU, orI_zero]; simp only [List.mem_cons, List.not_mem_nil, or_false, forall_eq_or_imp, forall_eq, rowsC]; rw [e1, e2, e3]
theorem put_cmp1 (x : Up) (n : Int) (y : Up) : cmpU (x.put n) y = cmpU x y := rfl
theorem put_cmp2 (x : Up) (n : Int) (y : Up) : cmpU y (x.put n) = cmpU y x := rfl
def T (us : List Up) (r : Up) : Int := sumP (fun x => decide (cmpU r x = 0)) Up.d us
theorem T_app (a b : List Up) (r : Up) : T (a ++ b) r = T a r + T b r := sumP_app _ _ _ _
theorem T_congr {us : List Up} {r s : Up} (h : cmpU r s = 0) : T us r = T us s := tot_congr cmpU_ok.cmp Up.d us h
theorem inv_P (r : Up) : ∀ x y, cmpU x y = 0 → decide (cmpU r x = 0) = decide (cmpU r y = 0) := by
 intro x y h; have : cmpU r x = 0 ↔ cmpU r y = 0 := ⟨fun q => cmpU_ok.cmp.trans q h, fun q => cmpU_ok.cmp.trans q (cmpU_ok.cmp.symm h)⟩
 simp [this]
structure Even (us : List Up) : Prop where
 rt : rts us
 gd : gds us
 st : us.Pairwise fun x y => ltC cmpU x y = true
 nz : ∀ u ∈ us, u.d ≠ 0
theorem T_mem {us : List Up} (hE : Even us) {u : Up} (hu : u ∈ us) : T us u = u.d := by
 have : ∀ l : List Up, l.Pairwise (fun x y => ltC cmpU x y = true) → u ∈ l → T l u = u.d := by
   intro l
   induction l with
   | nil => intro _ h; simp at h
   | cons x l ih =>
     intro hp hm; obtain ⟨h1, h2⟩ := List.pairwise_cons.1 hp; unfold T; rw [sumP_cons]; rcases List.mem_cons.1 hm with rfl | hm
     · have h0 : sumP (fun y => decide (cmpU u y = 0)) Up.d l = 0 := by
         have : l.filter (fun y => decide (cmpU u y = 0)) = [] := by
           rw [List.filter_eq_nil_iff]; intro y hy
           simpa using cmpU_ok.cmp.ne_of_lt (h1 y hy)
         rw [sumP, this]; rfl
       rw [h0, cmpU_ok.cmp.refl]; simp
     · have hne := cmpU_ok.cmp.ne_of_gt (h1 u hm)
       have := ih h2 hm; unfold T at this; rw [this]; simp [hne]
 exact this us hE.st hu
theorem T_none {us : List Up} {r : Up} (h : ∀ u ∈ us, cmpU r u ≠ 0) : T us r = 0 := by
 have : us.filter (fun y => decide (cmpU r y = 0)) = [] := by
   rw [List.filter_eq_nil_iff]; intro y hy
   simpa using h y hy
 rw [T, sumP, this]; rfl
theorem T_some {us : List Up} {r : Up} (h : T us r ≠ 0) : ∃ u ∈ us, cmpU r u = 0 := by
 refine Classical.byContradiction fun hn => h (T_none fun u hu e => hn ⟨u, hu, e⟩)
theorem Even.ext {a b : List Up} (ha : Even a) (hb : Even b) (h : ∀ r, T a r = T b r) : a = b := by
 have key : ∀ {a b : List Up}, Even a → Even b → (∀ r, T a r = T b r) → ∀ u ∈ a, u ∈ b := by
   intro a b ha hb h u hu; have h1 := T_mem ha hu; rw [h u] at h1; obtain ⟨v, hv, hc⟩ := T_some (us := b) (r := u) (by rw [h1]; exact ha.nz u hu)
   obtain ⟨e1, e2, e3⟩ := (cmpU_eq (ha.rt u hu) (hb.rt v hv)).1 hc; have h2 := T_mem hb hv; rw [← T_congr hc, h1] at h2; have : u = v := by cases u; cases v; simp only [Up.mk.injEq]; exact ⟨e1, e2, e3, h2⟩
   rw [this]; exact hv
 exact strict_ext cmpU_ok.cmp a b ha.st hb.st fun u => ⟨key ha hb h u, key hb ha (fun r => (h r).symm) u⟩
theorem cons_ok {ls : List (List Up)} (hg : gds (cat ls)) (hl : (cat ls).length ≤ 4294967296) : ((consR ls).2 = 0 ↔ rts (cat ls) ∧ ∀ u ∈ cat ls, i64 (T (cat ls) u)) ∧ ((consR ls).2 = 0 → Even (consR ls).1 ∧ (∀ r, T (consR ls).1 r = T (cat ls) r) ∧ ∀ P : Up → Bool, (∀ x y, cmpU x y = 0 → P x = P y) → sumP P Up.d (consR ls).1 = sumP P Up.d (cat ls)) ∧ (∀ u ∈ (consR ls).1, ∃ v ∈ cat ls, u.k = v.k ∧ u.r = v.r ∧ u.t = v.t) := by
 have hperm : (isrt (ltU cmpU) (cat ls)).Perm (cat ls) := isrt_perm _; have hG : Grp cmpU Up.d (isrt (ltU cmpU) (cat ls)) (piles ls) := grp_ok cmpU_ok.cmp Up.d _ (isrt_line ordU _)
 have hpile : ∀ g ∈ piles ls, g.2.sum = T (cat ls) g.1 := by
   intro g hg'; rw [hG.pile g hg']; exact sumP_perm hperm
 have hns : ∀ g ∈ piles ls, (∀ n ∈ g.2, i64 n) ∧ g.2.length ≤ 4294967296 := by
   intro g hg'; rw [hG.pile g hg']; refine ⟨fun n hn => ?_, ?_⟩
   · obtain ⟨x, hx, rfl⟩ := List.mem_map.1 hn
     exact hg x (hperm.mem_iff.1 (List.mem_filter.1 hx).1)
   · rw [alike, List.length_map]
     have := List.length_filter_le (fun x => decide (cmpU g.1 x = 0)) (isrt (ltU cmpU) (cat ls))
     rw [isrt_length] at this; omega
 have hfit : ∀ g ∈ piles ls, gfit g = if -9223372036854775808 ≤ T (cat ls) g.1 ∧ T (cat ls) g.1 < 9223372036854775808 then (T (cat ls) g.1, 0) else (0, 10) := by
   intro g hg'; rw [gfit, fit_sum (hns g hg').1 (hns g hg').2, hpile g hg']
 have hmemP : ∀ g ∈ piles ls, g.1 ∈ cat ls := piles_mem; have hall : ∀ x ∈ cat ls, ∃ g ∈ piles ls, cmpU g.1 x = 0 := fun x hx => hG.all x (hperm.mem_iff.2 hx)
 have herr : gerr (piles ls) = 0 ↔ ∀ u ∈ cat ls, i64 (T (cat ls) u) := by
   rw [gerr, orI_zero]; constructor
   · intro h u hu
     obtain ⟨g, h1, h2⟩ := hall u hu; have h3 := h _ (List.mem_map.2 ⟨g, h1, rfl⟩); rw [hfit g h1] at h3; rw [← T_congr h2]; split at h3
     · rename_i q; exact q
     · simp at h3
   · intro h x hx
     obtain ⟨g, h1, rfl⟩ := List.mem_map.1 hx; have := h _ (hmemP g h1); unfold i64 at this; rw [hfit g h1, if_pos this]
 refine ⟨?_, ?_, ?_⟩
 · unfold consR
   by_cases hc : orI (ls.map chkUs) = 0
   · have : (orI (ls.map chkUs) != 0) = false := by simpa using hc
     rw [this]; simp only [Bool.false_eq_true, if_false]; rw [herr]; exact ⟨fun h => ⟨chk_cat.1 hc, h⟩, fun h => h.2⟩
   · have : (orI (ls.map chkUs) != 0) = true := by simpa using hc
     rw [this, if_pos rfl]; exact ⟨fun h => absurd h hc, fun h => absurd (chk_cat.2 h.1) hc⟩
 · intro h0
   unfold consR at h0 ⊢
   by_cases hc : orI (ls.map chkUs) = 0
   · have hc2 : (orI (ls.map chkUs) != 0) = false := by simpa using hc
     rw [hc2] at h0 ⊢; simp only [Bool.false_eq_true, if_false] at h0 ⊢; have h1 : (gerr (piles ls) != 0) = false := by simpa using h0
     rw [h1]; simp only [Bool.false_eq_true, if_false]; have hrt := chk_cat.1 hc; have hT := herr.1 h0
     have hf2 : ∀ g ∈ piles ls, gfit g = (g.2.sum, 0) := by
       intro g hg'; have := hT _ (hmemP g hg'); unfold i64 at this; rw [hfit g hg', if_pos this, hpile g hg']
     have hsum : ∀ P : Up → Bool, (∀ x y, cmpU x y = 0 → P x = P y) → sumP P Up.d (gout Up.put (piles ls)) = sumP P Up.d (cat ls) := by
       intro P hP; rw [sum_out (nm := Up.d) (put := Up.put) (fun x n => hP _ _ (by rw [put_cmp1]; exact cmpU_ok.cmp.refl x)) (fun _ _ => rfl) hf2, piles, sumG_grp hP, sumP_perm hperm]
     refine ⟨⟨?_, ?_, gout_strict hG.inc put_cmp1 put_cmp2, ?_⟩, fun r => hsum _ (inv_P r), hsum⟩
     · intro u hu
       obtain ⟨g, h2, _, rfl⟩ := (mem_gout hf2).1 hu; exact hrt g.1 (hmemP g h2)
     · intro u hu
       obtain ⟨g, h2, _, rfl⟩ := (mem_gout hf2).1 hu; show i64 g.2.sum; rw [hpile g h2]; exact hT _ (hmemP g h2)
     · intro u hu
       obtain ⟨g, h2, h3, rfl⟩ := (mem_gout hf2).1 hu; exact h3
   · have : (orI (ls.map chkUs) != 0) = true := by simpa using hc
     rw [this, if_pos rfl] at h0; exact absurd h0 hc
 · intro u hu
   unfold consR at hu; split at hu
   · simp at hu
   · simp only at hu
     split at hu
     · simp at hu
     · simp only [gout, List.mem_filterMap] at hu
       obtain ⟨g, h1, h2⟩ := hu; split at h2
       · simp only [Option.some.injEq] at h2
         subst h2; exact ⟨g.1, hmemP g h1, rfl, rfl, rfl⟩
       · simp at h2
end Go.Proofs
end
section
namespace Go.Proofs
open Go.Flat
set_option maxRecDepth 100000
set_option linter.unusedVariables false
set_option linter.unusedSimpArgs false
attribute [local simp] Bool.and_assoc Bool.or_assoc evalG evalX efD skF guardG guardL isCall stepL evalOp ev evs lk tmpsL app AV.ok fresh vv putCells insV ins del putL place Go.Flat.look fillC fillR getCells loadF storeF binF scalarBin intBin strBin isShift shiftBin unF lenF maxF minF rowsF appendF builtinF idxF natOf sliceP sliceF optEv Flat.cut overwrite toPV toPVs constAV scalarC scalarCs AV.cells TI.isAgg allSome andAll scalarEq buildable Go.Flat.lim retQ resL resAll resOne PartOf noTmp closedIn refs refs.refsL isSomeV hasB ids leA leA.leL renA renA.renL callB refsAll backL dropIds renS LiesAt injB ownB freshB memN locId insAll leA_refl leL_refl okS frzS frzA frzA.frzL evalD feet fine updCells cellsFrom memP footRf footWf noTmpU updIds opOps opIds idsA footR footW guardTs opTs dstTs callR callW renLoc renC inBlockQ thenQ Value.oneCell' IntKind.bits IntKind.signed
section
def lvV : Val := ⟨false, 1, ⟨#[]⟩⟩
def lv0 : Up := ⟨[], [lvV], ⟨0, 0, 0⟩, 2⟩
def lv1 : Up := ⟨[], [lvV], ⟨0, 1, 0⟩, -2⟩
def lv2 : Up := ⟨[], [lvV], ⟨0, 1, 0⟩, 2⟩
@[simp] theorem wrapU_1 : IntKind.u64.wrap 1 = 1 := rfl
@[simp] theorem wrapU_01 : IntKind.u64.wrap (0 + 1) = 1 := rfl
@[simp] theorem wrap_01 : IntKind.i64.wrap (0 + 1) = 1 := rfl
@[simp] theorem wrap_11 : IntKind.i64.wrap (1 + 1) = 2 := rfl
theorem lvs : Up.sms [lv0, lv1] := by
 intro u hu; simp at hu; rcases hu with rfl | rfl <;> simp [Up.sm, lv0, lv1, Bnd]
attribute [local simp] Up.av Up.row in
theorem spec137 (u : Up) : Flat.Sp Tryz.prog 177 [u.av, .ptr 0 0, .ptr 1 0] [(.var 0, .n 1), (.cell 0 0, .av (vv (.int .i64 0))), (.var 1, .n 1), (.cell 1 0, .av (vv (.int .i64 1)))] (vv (.bool (decide (1 ≤ u.t.a)))) [(.var 0, .n 1), (.cell 0 0, .av (vv (.int .i64 0))), (.var 1, .n 1), (.cell 1 0, .av (vv (.int .i64 1)))] := by
 refine sk Tryz.func177 ?_; intro F G hn hG; refine srp 1000 [1,13] ?_; refine sq ?_; refine dr ?_; refine de 2000 ?_; refine dn ?_; refine pr [4,5] ?_; refine k_ret ?_; show retQ _ _ _ _ _ _ _; simp [*]
attribute [local simp] Up.av Up.row lv0 lv1 lvV Val.row in
theorem spec181  : Flat.Sp Tryz.prog 237 [.sl 0 2 0 2, .fn (.func 177) [.ptr 1 0, .ptr 2 0]] [(.arr 0, .arr 37 6 [lv0.row, lv1.row] 0), (.var 1, .n 1), (.cell 1 0, .av (vv (.int .i64 0))), (.var 2, .n 1), (.cell 2 0, .av (vv (.int .i64 1)))] (vv (.int .i64 1)) [(.arr 0, .arr 37 6 [lv0.row, lv1.row] 0), (.var 1, .n 1), (.cell 1 0, .av (vv (.int .i64 0))), (.var 2, .n 1), (.cell 2 0, .av (vv (.int .i64 1)))] := by
 refine sk Tryz.func237 ?_; intro F G hn hG; refine srp 1000 [0,2,4,19] ?_; refine sq ?_; refine srp 2000 [0,2,4,6,7,19] ?_; refine k_block ?_; refine k_rounds 2 ?_; show AK _ _ _ _ _ _; refine srp 3000 [0,2,4,6,7,19] ?_; refine sq ?_; refine ct ?_; refine k_skip ?_; refine sq ?_; refine k_block ?_; refine srp 4000 [0,2,4,6,7,19] ?_; refine src 5000 ?_; refine oc (fun k => k + 1) (spec137 lv0) ?_
 refine onp [0,2,4,6,7,19] ?_; refine ce ?_; refine k_skip ?_; refine k_nil ?_; show AK _ _ _ _ _ _; refine rg 7000 ?_; refine k_nil ?_; show AK _ _ _ _ _ _; refine srp 1003000 [0,2,4,6,7,19] ?_; refine sq ?_; refine ct ?_; refine k_skip ?_; refine sq ?_; refine k_block ?_; refine srp 1004000 [0,2,4,6,7,19] ?_; refine src 1005000 ?_; refine oc (fun k => k + 1) (spec137 lv1) ?_
 refine onp [0,2,4,6,7,19] ?_; refine ct ?_; refine srp 6000 [0,2,4,6,7,19] ?_; refine k_ret ?_; show retQ _ _ _ _ _ _ _; simp [*]
attribute [local simp] Up.av Up.row lv0 lv1 lvV Val.row Up.zero in
theorem spec136  : Flat.Sp Tryz.prog 176 [.sl 0 2 0 2, .fn (.func 177) [.ptr 1 0, .ptr 2 0]] [(.arr 0, .arr 37 6 [lv0.row, lv1.row] 0), (.var 1, .n 1), (.cell 1 0, .av (vv (.int .i64 0))), (.var 2, .n 1), (.cell 2 0, .av (vv (.int .i64 1)))] (.sl 0 2 0 1) [(.arr 0, .arr 37 6 [lv0.row, Up.zero.row] 0), (.var 1, .n 1), (.cell 1 0, .av (vv (.int .i64 0))), (.var 2, .n 1), (.cell 2 0, .av (vv (.int .i64 1)))] := by
 refine sk Tryz.func176 ?_; intro F G hn hG; refine srp 1000 [0,2,4,42] ?_; refine src 2000 ?_; refine oc id (spec181) ?_; refine oe 2100 ?_; refine onp [0,2,4,8,11,42] ?_; refine sq ?_; refine srp 3000 [0,2,4,8,12,42] ?_; refine ce ?_; refine k_skip ?_; refine sq ?_; refine srp 5000 [0,2,4,8,16,42] ?_; refine k_block ?_; refine k_rounds 1 ?_; show AK _ _ _ _ _ _; refine sq ?_; refine srp 6000 [0,2,4,8,16,42] ?_; refine ce ?_; refine k_exit ?_; show AK _ _ _ _ _ _; refine srp 12000 [0,1,4,6,39,42] ?_; refine srp 13000 [4,5] ?_; refine k_ret ?_; show retQ _ _ _ _ _ _ _; simp [*]
attribute [local simp] Up.av Up.row lv0 lv1 lvV Val.row lv2 Up.zero lrow in
theorem spec79 (hr : (refR 0 1 [lv0, lv1] != 0) = false) (c : List Up) (hcr : consR [[lv2]] = (c, 0)) : Flat.Sp Tryz.prog 83 [vv (.int .i64 0), vv (.int .i64 1), .p (.ps [lv0.row, lv1.row])] [] (.tup [.p (.ps (c.map Up.row)), vv (.int .i64 0)]) [] := by
 refine sk Tryz.func83 ?_; intro F G hn hG; have h94 : Flat.Sp Tryz.prog 174 [vv (.int .i64 0), vv (.int .i64 1), .p (.ps [lv0.row, lv1.row])] [] (vv (.int .i64 (refR 0 1 [lv0, lv1]))) [] := spec94 0 1 [lv0, lv1] (by simp [Flat.lim]) lvs
 have h92 : Flat.Sp Tryz.prog 172 [.p (.ps [lv0.row, lv1.row])] [] (.sl 4002 2 0 2) [(.arr 4002, .arr 37 6 [lv0.row, lv1.row] 0)] := spec92 [lv0, lv1] (by simp [Cap])
 have h45 : Flat.Sp Tryz.prog 17 [.p (.ps [lrow [lv2]])] [] (.tup [.p (.ps ((consR [[lv2]]).1.map Up.row)), vv (.int .i64 (consR [[lv2]]).2)]) [] := spec45 [[lv2]] (by simp [Cap]) (by simp [cat, Cap]) (by intro l hl; rw [List.mem_singleton] at hl; rw [hl]; exact fun u hu => by rw [List.mem_singleton] at hu; rw [hu]; simp [Up.sm, lv2, Bnd])
 rw [hcr] at h45; generalize refR 0 1 [lv0, lv1] = rr at hr h94; refine srp 1000 [2,5,6,46] ?_; refine sq ?_; refine src 2000 ?_; refine oc id (h94) ?_; refine oe 2100 ?_; refine onp [2,5,6,11,15,46] ?_; refine srp 3000 [2,5,6,11,16,46] ?_; refine ce ?_; refine k_skip ?_; refine src 5000 ?_; refine oc (id) (h92) ?_; refine oe 5100 ?_; refine oc (fun k => if k = 0 then 4002 else if k = 1 then 1000 else 1001) (spec136) ?_
 refine oe 5200 ?_; refine onp [3,4,6,8,9,11,22,46] ?_; refine sq ?_; refine srp 6000 [3,4,6,8,9,11,23,46] ?_; refine k_block ?_; refine k_rounds 2 ?_; show AK _ _ _ _ _ _; refine srp 7000 [3,4,6,8,9,11,23,46] ?_; refine sq ?_; refine ct ?_; refine k_skip ?_; refine sq ?_; refine k_block ?_; refine srp 8000 [3,4,6,8,9,11,23,46] ?_; refine dr ?_; refine de 9000 ?_; refine dn ?_; refine k_nil ?_; show AK _ _ _ _ _ _; refine rg 10000 ?_; refine k_nil ?_; show AK _ _ _ _ _ _; refine srp 1007000 [3,4,6,8,9,11,23,46] ?_; refine sq ?_; refine ce ?_; refine k_exit ?_; show AK _ _ _ _ _ _; refine sq ?_; refine fz 4002 ?_; refine rc 11000 ?_; refine oc id (h45) ?_; refine oe 11100 ?_; refine onp [6,8] ?_; refine k_ret ?_; show retQ _ _ _ _ _ _ _; simp [*]
end
end Go.Proofs
end
section
set_option linter.unusedVariables false
set_option linter.unusedSimpArgs false
namespace Go.Proofs
open Go.Flat
set_option maxRecDepth 100000
theorem isrt_two {α : Type} (lt : α → α → Bool) (x y : α) : isrt lt [x, y] = if lt y x then [y, x] else [x, y] := by
 simp only [isrt, List.foldl_cons, List.foldl_nil, nil_mrg, mrg_cons]; split
 · rw [mrg_nil]
 · rfl
theorem chkRow1 : checkRow [lvV] = 0 := by simp [checkRow, badRow, firstBad, Val.right, lvV]
theorem chkRow0 : checkRow [] = 0 := by simp [checkRow, badRow, firstBad]
theorem chk_of {k r : List Val} {t : Tm} {d : Int} (h1 : checkRow k = 0) (h2 : checkRow r = 0) (h3 : chkT t = 0) : chkU ⟨k, r, t, d⟩ = 0 := by
 simp only [chkU, h1, h2, h3]; rfl
theorem cons_one {x : Up} {n : Int} (hc : chkU x = 0) (hd : x.d = n) (hn : n ≠ 0) (ht : tfit (tsum [n]) = (n, 0)) : consR [[x]] = ([x], 0) := by
 have h1 : orI ([[x]].map chkUs) = 0 := by simp [chkUs, hc, orI]
 have h2 : piles [[x]] = [(x, [n])] := by rw [piles, cat_one, isrt_short (by simp), ← hd]; rfl
 have h3 : gerr [(x, [n])] = 0 := by simp [gerr, gfit, ht, orI]
 have h4 : gout Up.put [(x, [n])] = [x] := by
   have : (gfit (x, [n])).1 = n := by simp [gfit, ht]
   simp only [gout, List.filterMap_cons, List.filterMap_nil, this]; have h5 : (n != 0) = true := by simpa using hn
   rw [h5]; simp only [if_true]; rw [Up.put, ← hd]
 rw [consR, h1, h2, h3, h4]; rfl
def lvA : Up := ⟨[], [lvV], ⟨0, 0, 0⟩, -2⟩
def lvB : Up := ⟨[lvV], [lvV], ⟨0, 0, 0⟩, 2⟩
theorem chkT0 : chkT ⟨0, 0, 0⟩ = 0 := by decide
theorem chkT1 : chkT ⟨0, 1, 0⟩ = 0 := by decide
theorem fit2 : tfit (tsum [2]) = (2, 0) := by decide
theorem fitm2 : tfit (tsum [-2]) = (-2, 0) := by decide
theorem liv_d : consR [[lv2]] = ([lv2], 0) := cons_one (n := 2) (chk_of chkRow0 chkRow1 chkT1) rfl (by decide) fit2
theorem liv_chk0 : chkUs [lv0] = 0 := by simp only [chkUs, List.map_cons, List.map_nil, show chkU lv0 = 0 from chk_of chkRow0 chkRow1 chkT0]; rfl
theorem liv_chk01 : chkUs [lv0, lv1] = 0 := by simp only [chkUs, List.map_cons, List.map_nil, show chkU lv0 = 0 from chk_of chkRow0 chkRow1 chkT0, show chkU lv1 = 0 from chk_of chkRow0 chkRow1 chkT1]; rfl
theorem ref_of {l r : Int} {us : List Up} (h1 : chkUs us = 0) (h2 : badL l r = false) : refR l r us = 0 := by rw [refR, h1, h2]; rfl
theorem times2 : timesR 2 (-1) = (-2, 0) := by decide
theorem liv_a : doR 6 [] [lv0] = ([lvA], Tm.zero, 0) := by
 have h1 : madL 6 [] [lv0] = ([lvA], (false, Tm.zero)) := by
   have : oneR 6 [] lv0 = ([lvA], true) := by
     have h2 : oneM 6 [] ⟨lv0.r, lv0.d⟩ = ([⟨[lvV], -2⟩], 0) := by
       show ([(⟨[lvV], (timesR 2 (-1)).1⟩ : Ct)], (timesR 2 (-1)).2) = _; rw [times2]
     rw [oneR, h2]; simp [badC, chkRow1]; rfl
   simp only [madL, List.foldl_cons, List.foldl_nil, madS, this]; rfl
 have h3 : consR [[lvA]] = ([lvA], 0) := cons_one (n := -2) (chk_of chkRow0 chkRow1 chkT0) rfl (by decide) fitm2
 rw [doR, liv_chk0, h1]; simp only [doneR, h3]; rfl
theorem liv_f : doR 0 [] [lv0] = ([], Tm.zero, 4) := by
 rw [doR, liv_chk0]; rfl
theorem liv_b : arrR [0] [lv0] = ([lvB], 0) := by
 have h1 : colsR [lvV] [0] = ([lvV], 0) := by rw [colsR, chkRow1]; rfl
 have h2 : arrErr [0] [lv0] = 0 := by simp only [arrErr, List.map_cons, List.map_nil, lv0, h1]; rfl
 have h3 : [lv0].map (keyd [0]) = [lvB] := by simp only [List.map_cons, List.map_nil, keyd, lv0, h1]; rfl
 have h4 : consR [[lvB]] = ([lvB], 0) := cons_one (n := 2) (chk_of chkRow1 chkRow1 chkT0) rfl (by decide) fit2
 rw [arrR, liv_chk0, h2, h3, h4]; rfl
theorem cmp01 : cmpU lv0 lv1 = -1 := by decide
theorem cmp10 : cmpU lv1 lv0 = 1 := by decide
theorem liv_cc : consR [[lv0, lv1]] = ([lv0, lv1], 0) := by
 have h1 : orI ([[lv0, lv1]].map chkUs) = 0 := by simp only [List.map_cons, List.map_nil, liv_chk01]; rfl
 have h0 : isrt (ltU cmpU) [lv0, lv1] = [lv0, lv1] := by
   rw [isrt_two, if_neg]; simp [ltU, cmp10]
 have h2 : piles [[lv0, lv1]] = [(lv0, [2]), (lv1, [-2])] := by
   rw [piles, cat_one, h0]; have e1 : grp cmpU Up.d [lv0, lv1] = gstep cmpU Up.d (gstep cmpU Up.d [] lv0) lv1 := rfl; rw [e1, gstep_nil]; have e2 := gstep_snoc (c := cmpU) Up.d [] (lv0, [lv0.d]) lv1; rw [List.nil_append] at e2; rw [e2, if_neg (by rw [cmp01]; decide)]
   rfl
 have h3 : gerr [(lv0, [2]), (lv1, [-2])] = 0 := by simp [gerr, gfit, fit2, fitm2, orI]
 have h4 : gout Up.put [(lv0, [2]), (lv1, [-2])] = [lv0, lv1] := by
   simp [gout, gfit, fit2, fitm2]; exact ⟨rfl, rfl⟩
 rw [consR, h1, h2, h3, h4]; rfl
theorem liv_c : finR3 (doneR (entL 0 [lv0]).2 (entL 0 [lv0]).1) = ([lv0, lv1], Tm.zero, 0) := by
 have h1 : entL 0 [lv0] = ([lv0, lv1], (false, Tm.zero)) := by
   have hb : badX 0 lv0 = false := by
     show ((timesR 2 (-1)).2 != 0 || chkT ⟨0, 1, 0⟩ != 0) = false; rw [times2, chkT1]; rfl
   have hn : nxt 0 lv0 = lv1 := by
     show (⟨[], [lvV], ⟨0, 1, 0⟩, (timesR 2 (-1)).1⟩ : Up) = _; rw [times2]; rfl
   simp only [entL, List.foldl_cons, List.foldl_nil, entS, hb, hn]; rfl
 rw [h1]; simp only [doneR, liv_cc]; rfl
theorem liv_e : finR3 (doneR (false, Tm.zero) ([lv0, lv1].map (nulU 0))) = ([], Tm.zero, 0) := by
 have h0 : [lv0, lv1].map (nulU 0) = [lv0, lvA] := rfl; have hc : cmpU lv0 lvA = 0 := by decide
 have hc2 : cmpU lvA lv0 = 0 := by decide
 have h1 : orI ([[lv0, lvA]].map chkUs) = 0 := by
   simp only [List.map_cons, List.map_nil, chkUs, show chkU lv0 = 0 from chk_of chkRow0 chkRow1 chkT0, show chkU lvA = 0 from chk_of chkRow0 chkRow1 chkT0]; rfl
 have hs : isrt (ltU cmpU) [lv0, lvA] = [lv0, lvA] := by
   rw [isrt_two, if_neg]; simp [ltU, hc2]
 have h2 : piles [[lv0, lvA]] = [(lv0, [2, -2])] := by
   rw [piles, cat_one, hs]; have e1 : grp cmpU Up.d [lv0, lvA] = gstep cmpU Up.d (gstep cmpU Up.d [] lv0) lvA := rfl; rw [e1, gstep_nil]; have e2 := gstep_snoc (c := cmpU) Up.d [] (lv0, [lv0.d]) lvA; rw [List.nil_append] at e2; rw [e2, if_pos hc]; rfl
 have hf : tfit (tsum [2, -2]) = (0, 0) := by decide
 have h3 : gerr [(lv0, [2, -2])] = 0 := by simp [gerr, gfit, hf, orI]
 have h4 : gout Up.put [(lv0, [2, -2])] = [] := by simp [gout, gfit, hf]
 have h5 : consR [[lv0, lvA]] = ([], 0) := by rw [consR, h1, h2, h3, h4]; rfl
 rw [h0]; simp only [doneR, h5]; rfl
end Go.Proofs
end
section
set_option linter.unusedVariables false
set_option linter.unusedSimpArgs false
namespace Go.Proofs
open Go.Flat
theorem note_flag (f : Fa) (t : Tm) : (noteR f t).1 = true := by
 unfold noteR; obtain ⟨b, s⟩ := f; cases b
 · simp
 · split <;> rfl
theorem pcs_mono : ∀ (n : Nat) (r o : List Up) (f : Fa), r.length ≤ n → f.1 = true → (pcs o f r).2.1 = true
 | _, [], o, f, _, h => by rw [pcs_nil]; exact h
 | 0, x :: r, o, f, hn, h => by simp at hn
 | n + 1, x :: r, o, f, hn, h => by
   rw [pcs]; refine pcs_mono n _ _ _ (by simp only [List.length_drop]; simp only [List.length_cons] at hn; omega) ?_
   split
   · exact note_flag f x.t
   · exact h
theorem alk_take {x : Up} : ∀ r : List Up, ∀ y ∈ r.take (alk x r), cmpU x y = 0
 | [], y, h => by simp at h
 | z :: r, y, h => by
   unfold alk at h; split at h
   · rename_i hz
     rw [List.take_succ_cons] at h; rcases List.mem_cons.1 h with rfl | h
     · simpa using hz
     · exact alk_take r y h
   · simp at h
theorem alk_drop {x : Up} : ∀ r : List Up, (x :: r).Pairwise (fun x y => ltU cmpU y x = false) → ∀ y ∈ r.drop (alk x r), cmpU x y ≠ 0
 | [], _, y, h => by simp at h
 | z :: r, hp, y, h => by
   obtain ⟨h1, h2⟩ := List.pairwise_cons.1 hp; obtain ⟨h3, h4⟩ := List.pairwise_cons.1 h2; unfold alk at h; split at h
   · rw [List.drop_succ_cons] at h
     exact alk_drop r (List.pairwise_cons.2 ⟨fun w hw => h1 w (by simp [hw]), h4⟩) y h
   · rename_i hz
     simp only [beq_iff_eq] at hz; have hlt : ltC cmpU x z = true := cmpU_ok.cmp.lt_of (h1 z (by simp)) hz
     rw [List.drop_zero] at h; rcases List.mem_cons.1 h with rfl | h
     · exact hz
     · exact cmpU_ok.cmp.ne_of_lt (cmpU_ok.cmp.lt_le hlt (h3 y h))
theorem pcs_flag : ∀ (n : Nat) (r o : List Up) (f : Fa), r.length ≤ n → r.length ≤ 4294967296 → gds r → r.Pairwise (fun x y => ltU cmpU y x = false) → (∃ u ∈ r, ¬ i64 (T r u)) → (pcs o f r).2.1 = true
 | _, [], o, f, _, _, _, _, h => by obtain ⟨u, hu, _⟩ := h; simp at hu
 | 0, x :: r, o, f, hn, _, _, _, _ => by simp at hn
 | n + 1, x :: r, o, f, hn, hl, hg, hp, h => by
   rw [pcs]; have hsp : x :: r = (x :: r.take (alk x r)) ++ r.drop (alk x r) := by rw [List.cons_append, List.take_append_drop]
   have hlen : (x :: r.take (alk x r)).length ≤ 4294967296 := by simp only [List.length_cons, List.length_take] at hl ⊢; omega
   have hgp : gds (x :: r.take (alk x r)) := fun u hu => hg u (by rw [hsp]; exact List.mem_append_left _ hu)
   have hsub : (r.drop (alk x r)).length ≤ n := by simp only [List.length_drop]; simp only [List.length_cons] at hn; omega
   by_cases hc : (consR [x :: r.take (alk x r)]).2 = 0
   · have hall := ((cons_ok (ls := [x :: r.take (alk x r)]) (by rw [cat_one]; exact hgp) (by rw [cat_one]; exact hlen)).1.1 hc).2
     rw [cat_one] at hall
     have hpk : ∀ y ∈ x :: r.take (alk x r), cmpU x y = 0 := by
       intro y hy; rcases List.mem_cons.1 hy with rfl | hy
       · exact cmpU_ok.cmp.refl y
       · exact alk_take r y hy
     have hrk := alk_drop r hp; refine pcs_flag n _ _ _ hsub (by simp only [List.length_drop]; simp only [List.length_cons] at hl; omega) (fun u hu => hg u (List.mem_cons_of_mem _ (List.mem_of_mem_drop hu))) ((List.pairwise_cons.1 hp).2.sublist (List.drop_sublist _ _)) ?_
     obtain ⟨u, hu, hb⟩ := h; have hT : T (x :: r) u = T (x :: r.take (alk x r)) u + T (r.drop (alk x r)) u := by rw [← T_app, ← hsp]
     by_cases hxu : cmpU x u = 0
     · exfalso
       have h0 : T (r.drop (alk x r)) u = 0 := T_none fun y hy e => hrk y hy (cmpU_ok.cmp.trans hxu e)
       rw [hT, h0, Int.add_zero, ← T_congr hxu] at hb; exact hb (hall x (by simp))
     · have h0 : T (x :: r.take (alk x r)) u = 0 := T_none fun y hy e => hxu (cmpU_ok.cmp.trans (hpk y hy) (cmpU_ok.cmp.symm e))
       rw [hT, h0, Int.zero_add] at hb; refine ⟨u, ?_, hb⟩; rw [hsp] at hu; rcases List.mem_append.1 hu with hu | hu
       · exact absurd (hpk u hu) hxu
       · exact hu
   · refine pcs_mono n _ _ _ hsub ?_
     have : ((consR [x :: r.take (alk x r)]).2 != 0) = true := by simpa using hc
     rw [this, if_pos rfl]; exact note_flag f x.t
theorem done_ok {f : Fa} {us : List Up} (hr : rts us) (hg : gds us) (hl : us.length ≤ 4294967296) (h : (finR3 (doneR f us)).2.2 = 0) : f.1 = false ∧ (consR [us]).2 = 0 ∧ (finR3 (doneR f us)).1 = (consR [us]).1 := by
 have hfl : (doneR f us).2.1 = false := by
   unfold finR3 at h; simp only at h
   cases hq : (doneR f us).2.1 with
   | false => rfl
   | true => rw [hq] at h; simp at h
 by_cases hc : (consR [us]).2 = 0
 · have e : doneR f us = ((consR [us]).1, f) := by
     have : ((consR [us]).2 != 0) = false := by simpa using hc
     rw [doneR, this]; rfl
   rw [e] at hfl; exact ⟨hfl, hc, by rw [e]; rfl⟩
 · exfalso
   have e : doneR f us = pcs [] f (isrt (ltU cmpU) us) := by
     have : ((consR [us]).2 != 0) = true := by simpa using hc
     rw [doneR, this]; rfl
   have hperm : (isrt (ltU cmpU) us).Perm us := isrt_perm _; have := (cons_ok (ls := [us]) (by rw [cat_one]; exact hg) (by rw [cat_one]; exact hl)).1
   rw [cat_one] at this; have hex : ∃ u ∈ us, ¬ i64 (T us u) := Classical.byContradiction fun hn => hc (this.2 ⟨hr, fun u hu => Classical.byContradiction fun hb => hn ⟨u, hu, hb⟩⟩)
   obtain ⟨u, hu, hb⟩ := hex; have hT : T (isrt (ltU cmpU) us) u = T us u := sumP_perm hperm; have := pcs_flag _ (isrt (ltU cmpU) us) [] f (Nat.le_refl _) (by rw [isrt_length]; exact hl) (fun v hv => hg v (hperm.mem_iff.1 hv)) (isrt_line ordU us) ⟨u, hperm.mem_iff.2 hu, by rw [hT]; exact hb⟩
   rw [← e, hfl] at this; simp at this
theorem i64_wrap (n : Int) : i64 (IntKind.i64.wrap n) := by rw [w64]; unfold i64; omega
theorem times_or (a b : Int) : timesR a b = (0, 10) ∨ timesR a b = (IntKind.i64.wrap (a * b), 0) := by
 have h : ∀ (c : Bool) (p : Int), (if c then ((0 : Int), (10 : Int)) else (p, 0)) = (0, 10) ∨ (if c then ((0 : Int), (10 : Int)) else (p, 0)) = (p, 0) := by
   intro c p; cases c
   · exact .inr rfl
   · exact .inl rfl
 exact h _ _
theorem times_i64 (a b : Int) : i64 (timesR a b).1 := by
 rcases times_or a b with h | h <;> rw [h]
 · unfold i64; simp
 · exact i64_wrap _
theorem times_neg {d : Int} (hd : i64 d) (h : (timesR d (-1)).2 = 0) : (timesR d (-1)).1 = -d := by
 unfold i64 at hd
 by_cases h0 : d = -9223372036854775808
 · subst h0
   have : (timesR (-9223372036854775808) (-1)).2 = 10 := by decide
   rw [this] at h; simp at h
 · rcases times_or d (-1) with h1 | h1
   · rw [h1] at h; simp at h
   · rw [h1]
     show IntKind.i64.wrap (d * -1) = -d; rw [w64]; omega
theorem chk_mk {k r : List Val} {t : Tm} {d : Int} (h1 : checkRow k = 0) (h2 : checkRow r = 0) (h3 : chkT t = 0) : chkU ⟨k, r, t, d⟩ = 0 := chk_of h1 h2 h3
theorem bare_rt {u : Up} (h : chkU u = 0) : chkU u.bare = 0 := chk_mk chkRow0 (chkU_parts h).2.1 (chkU_parts h).2.2
theorem one_rt {k : Int} {ex : List E} {u : Up} (h : chkU u = 0) (hd : i64 u.d) : ∀ v ∈ (oneR k ex u).1, chkU v = 0 ∧ i64 v.d := by
 intro v hv; have hb : chkU u.bare = 0 ∧ i64 u.bare.d := ⟨bare_rt h, hd⟩; unfold oneR at hv; split at hv
 · simp at hv; subst hv; exact hb
 · split at hv
   · unfold sevR at hv
     split at hv
     · simp at hv
     · split at hv
       · simp at hv
       · simp at hv; subst hv; exact hb
   · split at hv
     · simp at hv
     · split at hv
       · simp at hv
       · rename_i hbad
         obtain ⟨c, hc, rfl⟩ := List.mem_map.1 hv
         have h1 : checkRow c.r = 0 := by
           simp only [badC, List.any_eq_true, not_exists, not_and] at hbad; have := hbad c hc
           simpa using this
         refine ⟨chk_mk chkRow0 h1 (chkU_parts h).2.2, ?_⟩; show i64 c.n
         have : ∀ c ∈ (oneM k ex ⟨u.r, u.d⟩).1, i64 c.n := by
           intro c hc; unfold oneM at hc
           repeat' split at hc
           all_goals simp at hc
           all_goals subst hc
           all_goals first | exact hd | exact times_i64 _ _
         exact this c hc
def mad1 (k : Int) (ex : List E) (us : List Up) : List Up := us.flatMap fun u => (oneR k ex u).1
theorem mad_fold (k : Int) (ex : List E) : ∀ (us : List Up) (a : List Up × Fa), (us.foldl (madS k ex) a).1 = a.1 ++ mad1 k ex us ∧ ((us.foldl (madS k ex) a).2.1 = false → a.2.1 = false ∧ ∀ u ∈ us, (oneR k ex u).2 = true)
 | [], a => by simp [mad1]
 | u :: us, a => by
   obtain ⟨h1, h2⟩ := mad_fold k ex us (madS k ex a u); rw [List.foldl_cons]; refine ⟨by rw [h1]; simp [madS, mad1], fun h => ?_⟩
   obtain ⟨h3, h4⟩ := h2 h
   have hok : (oneR k ex u).2 = true := by
     cases hq : (oneR k ex u).2 with
     | true => rfl
     | false =>
       simp only [madS, hq, Bool.false_eq_true, if_false] at h3; rw [note_flag] at h3; simp at h3
   simp only [madS, hok, if_true] at h3; exact ⟨h3, fun v hv => by rcases List.mem_cons.1 hv with rfl | hv; exact hok; exact h4 v hv⟩
theorem mad1_len (k : Int) (ex : List E) (us : List Up) : (mad1 k ex us).length ≤ us.length := by
 induction us with
 | nil => simp [mad1]
 | cons u us ih =>
   have h1 : (oneR k ex u).1.length ≤ 1 := by
     unfold oneR; split
     · simp
     · split
       · unfold sevR
         split
         · simp
         · split <;> simp
       · split
         · simp
         · split
           · simp
           · rw [List.length_map]; exact oneM_len _ _ _
   have : mad1 k ex (u :: us) = (oneR k ex u).1 ++ mad1 k ex us := by simp [mad1]
   rw [this, List.length_append, List.length_cons]; omega
theorem do_ok {k : Int} {ex : List E} {us : List Up} (hg : gds us) (hl : us.length ≤ 4294967296) (h : (doR k ex us).2.2 = 0) :
   rts us ∧ (∀ u ∈ us, (oneR k ex u).2 = true) ∧ rts (mad1 k ex us) ∧ gds (mad1 k ex us) ∧ (consR [mad1 k ex us]).2 = 0 ∧ (doR k ex us).1 = (consR [mad1 k ex us]).1 := by
 unfold doR at h ⊢; split at h
 · rename_i hc
   simp only at h; rw [h] at hc; exact absurd hc (by simp)
 · rename_i hc
   rw [if_neg hc]; have hr : rts us := chkUs_iff.1 (by simpa using hc)
   split at h
   · rename_i hk
     rw [if_pos hk]; obtain ⟨f1, f2⟩ := mad_fold k ex us ([], (false, Tm.zero)); have e1 : (madL k ex us).1 = mad1 k ex us := by rw [madL, f1, List.nil_append]
     have hmr : rts (mad1 k ex us) ∧ gds (mad1 k ex us) := by
       constructor
       · intro v hv
         obtain ⟨u, hu, hv⟩ := List.mem_flatMap.1 hv; exact (one_rt (hr u hu) (hg u hu) v hv).1
       · intro v hv
         obtain ⟨u, hu, hv⟩ := List.mem_flatMap.1 hv; exact (one_rt (hr u hu) (hg u hu) v hv).2
     rw [e1] at h ⊢; obtain ⟨d1, d2, d3⟩ := done_ok hmr.1 hmr.2 (Nat.le_trans (mad1_len k ex us) hl) h; exact ⟨hr, (f2 d1).2, hmr.1, hmr.2, d2, d3⟩
   · simp at h
end Go.Proofs
end
section
set_option linter.unusedVariables false
set_option linter.unusedSimpArgs false
namespace Go.Proofs
open Go.Flat
def TK (cs : List Ct) (r : Ct) : Int := sumP (fun x => decide (cmpK r x = 0)) Ct.n cs
theorem TK_congr {cs : List Ct} {r s : Ct} (h : cmpK r s = 0) : TK cs r = TK cs s := tot_congr cmpK_ok.cmp Ct.n cs h
theorem TK_some {cs : List Ct} {r : Ct} (h : TK cs r ≠ 0) : ∃ u ∈ cs, cmpK r u = 0 := by
 refine Classical.byContradiction fun hn => h ?_
 have : cs.filter (fun y => decide (cmpK r y = 0)) = [] := by
   rw [List.filter_eq_nil_iff]; intro y hy; simp only [decide_eq_true_eq]; exact fun e => hn ⟨y, hy, e⟩
 rw [TK, sumP, this]; rfl
def pilesK (cs : List Ct) : List (Ct × List Int) := grp cmpK Ct.n (isrt (ltU cmpK) cs)
structure CntOk (cs : List Ct) : Prop where
 two : (cntR cs).2 = 0 ∨ (cntR cs).2 = 10
 err : (cntR cs).2 = 0 ↔ ∀ u ∈ cs, i64 (TK cs u)
 nil : (cntR cs).2 ≠ 0 → (cntR cs).1 = []
 st : (cntR cs).1.Pairwise fun x y => ltC cmpK x y = true
 mem : ∀ u ∈ (cntR cs).1, u.n ≠ 0 ∧ (∃ v ∈ cs, u.r = v.r) ∧ TK cs u = u.n
 all : (cntR cs).2 = 0 → ∀ v ∈ cs, TK cs v ≠ 0 → ∃ u ∈ (cntR cs).1, cmpK u v = 0
theorem orI_two {l : List Int} (h : ∀ x ∈ l, x = 0 ∨ x = 10) : orI l = 0 ∨ orI l = 10 := by
 induction l with
 | nil => exact .inl rfl
 | cons x l ih =>
   rw [orI]; split
   · exact h x (by simp)
   · exact ih fun y hy => h y (by simp [hy])
theorem cnt_ok {cs : List Ct} (hg : ∀ c ∈ cs, i64 c.n) (hl : cs.length ≤ 4294967296) : CntOk cs := by
 have hperm : (isrt (ltU cmpK) cs).Perm cs := isrt_perm _; have hG : Grp cmpK Ct.n (isrt (ltU cmpK) cs) (pilesK cs) := grp_ok cmpK_ok.cmp Ct.n _ (isrt_line cmpK_ord _)
 have hpile : ∀ g ∈ pilesK cs, g.2.sum = TK cs g.1 := by
   intro g hg'; rw [hG.pile g hg']; exact sumP_perm hperm
 have hns : ∀ g ∈ pilesK cs, (∀ n ∈ g.2, i64 n) ∧ g.2.length ≤ 4294967296 := by
   intro g hg'; rw [hG.pile g hg']; refine ⟨fun n hn => ?_, ?_⟩
   · obtain ⟨x, hx, rfl⟩ := List.mem_map.1 hn
     exact hg x (hperm.mem_iff.1 (List.mem_filter.1 hx).1)
   · rw [alike, List.length_map]
     have := List.length_filter_le (fun x => decide (cmpK g.1 x = 0)) (isrt (ltU cmpK) cs)
     rw [isrt_length] at this; omega
 have hfit : ∀ g ∈ pilesK cs, gfit g = if -9223372036854775808 ≤ TK cs g.1 ∧ TK cs g.1 < 9223372036854775808 then (TK cs g.1, 0) else (0, 10) := by
   intro g hg'; rw [gfit, fit_sum (hns g hg').1 (hns g hg').2, hpile g hg']
 have hmemP : ∀ g ∈ pilesK cs, g.1 ∈ cs := fun g h => hperm.mem_iff.1 (hG.mem g h)
 have hall : ∀ x ∈ cs, ∃ g ∈ pilesK cs, cmpK g.1 x = 0 := fun x hx => hG.all x (hperm.mem_iff.2 hx)
 have herr : gerr (pilesK cs) = 0 ↔ ∀ u ∈ cs, i64 (TK cs u) := by
   rw [gerr, orI_zero]; constructor
   · intro h u hu
     obtain ⟨g, h1, h2⟩ := hall u hu; have h3 := h _ (List.mem_map.2 ⟨g, h1, rfl⟩); rw [hfit g h1] at h3; rw [← TK_congr h2]; split at h3
     · rename_i q; exact q
     · simp at h3
   · intro h x hx
     obtain ⟨g, h1, rfl⟩ := List.mem_map.1 hx; have := h _ (hmemP g h1); unfold i64 at this; rw [hfit g h1, if_pos this]
 have e2 : (cntR cs).2 = gerr (pilesK cs) := rfl; have e1 : (cntR cs).1 = if gerr (pilesK cs) != 0 then [] else gout Ct.put (pilesK cs) := rfl
 have hput1 : ∀ (x : Ct) (n : Int) (y : Ct), cmpK (x.put n) y = cmpK x y := fun _ _ _ => rfl
 have hput2 : ∀ (x : Ct) (n : Int) (y : Ct), cmpK y (x.put n) = cmpK y x := fun _ _ _ => rfl
 have hf2 : gerr (pilesK cs) = 0 → ∀ g ∈ pilesK cs, gfit g = (g.2.sum, 0) := by
   intro h0 g hg'; have := herr.1 h0 _ (hmemP g hg'); unfold i64 at this; rw [hfit g hg', if_pos this, hpile g hg']
 refine ⟨?_, ?_, ?_, ?_, ?_, ?_⟩
 · rw [e2, gerr]
   refine orI_two ?_; intro x hx; obtain ⟨g, h1, rfl⟩ := List.mem_map.1 hx; rw [hfit g h1]; split
   · exact .inl rfl
   · exact .inr rfl
 · rw [e2]; exact herr
 · intro h
   rw [e2] at h; rw [e1, if_pos (by simpa using h)]
 · rw [e1]
   split
   · exact .nil
   · exact gout_strict hG.inc hput1 hput2
 · intro u hu
   rw [e1] at hu; split at hu
   · simp at hu
   · rename_i h
     have h0 : gerr (pilesK cs) = 0 := by simpa using h
     obtain ⟨g, h1, h2, rfl⟩ := (mem_gout (hf2 h0)).1 hu; refine ⟨h2, ⟨g.1, hmemP g h1, rfl⟩, ?_⟩; show TK cs (g.1.put _) = g.2.sum; rw [hpile g h1]; exact TK_congr (by rw [hput1]; exact cmpK_ok.cmp.refl _)
 · intro h v hv hn
   rw [e2] at h; obtain ⟨g, h1, h2⟩ := hall v hv; rw [e1, if_neg (by simpa using h)]
   refine ⟨g.1.put g.2.sum, (mem_gout (hf2 h)).2 ⟨g, h1, ?_, rfl⟩, by rw [hput1]; exact h2⟩
   rw [hpile g h1, TK_congr h2]; exact hn
theorem cmpK_eq {x y : Ct} (hx : checkRow x.r = 0) (hy : checkRow y.r = 0) : cmpK x y = 0 ↔ x.r = y.r :=
 cmpBy_eq (p := fun v : Val => v.right = true) (fun a b ha hb => Val.cmp_eq a b ha hb) x.r y.r (row_right hx) (row_right hy)
theorem cnt_ext {a b : List Ct} (ha : ∀ c ∈ a, i64 c.n) (hb : ∀ c ∈ b, i64 c.n) (la : a.length ≤ 4294967296) (lb : b.length ≤ 4294967296) (ra : ∀ c ∈ a, checkRow c.r = 0) (rb : ∀ c ∈ b, checkRow c.r = 0) (h : ∀ r, TK a r = TK b r) : cntR a = cntR b := by
 have A := cnt_ok ha la; have B := cnt_ok hb lb
 have one : ∀ {a b : List Ct}, CntOk a → CntOk b → (∀ r, TK a r = TK b r) → (cntR a).2 = 0 → (cntR b).2 = 0 := by
   intro a b A B h h0; rw [A.err] at h0; rw [B.err]; intro v hv
   by_cases hz : TK b v = 0
   · rw [hz]; unfold i64; omega
   · rw [← h v] at hz ⊢
     obtain ⟨u, hu, hc⟩ := TK_some hz; rw [TK_congr hc]; exact h0 u hu
 have h2 : (cntR a).2 = (cntR b).2 := by
   have p := one A B h; have q := one B A fun r => (h r).symm
   rcases A.two with e | e <;> rcases B.two with f | f
   · rw [e, f]
   · have := p e; omega
   · have := q f; omega
   · rw [e, f]
 have h1 : (cntR a).1 = (cntR b).1 := by
   by_cases h0 : (cntR a).2 = 0
   · have key : ∀ {a b : List Ct}, CntOk a → CntOk b → (∀ c ∈ a, checkRow c.r = 0) → (∀ c ∈ b, checkRow c.r = 0) → (∀ r, TK a r = TK b r) → (cntR b).2 = 0 → ∀ u ∈ (cntR a).1, u ∈ (cntR b).1 := by
       intro a b A B ra rb h h0 u hu; obtain ⟨n1, ⟨x, hx, hxr⟩, n2⟩ := A.mem u hu; have hz : TK b u ≠ 0 := by rw [← h u, n2]; exact n1
       obtain ⟨v, hv, hc⟩ := TK_some hz; obtain ⟨w, hw, hwv⟩ := B.all h0 v hv (by rw [← TK_congr hc]; exact hz)
       have huw : cmpK u w = 0 := cmpK_ok.cmp.trans hc (cmpK_ok.cmp.symm hwv); obtain ⟨m1, ⟨y, hy, hyr⟩, m2⟩ := B.mem w hw; have e := (cmpK_eq (by rw [hxr]; exact ra x hx) (by rw [hyr]; exact rb y hy)).1 huw
       have : u = w := by
         have hn : u.n = w.n := by rw [← n2, ← m2, h u, TK_congr huw]
         cases u; cases w; simp only [Ct.mk.injEq]; exact ⟨e, hn⟩
       rw [this]; exact hw
     exact strict_ext cmpK_ok.cmp _ _ A.st B.st fun u => ⟨key A B ra rb h (by rw [← h2]; exact h0) u, key B A rb ra (fun r => (h r).symm) h0 u⟩
   · rw [A.nil h0, B.nil (by rw [← h2]; exact h0)]
 exact Prod.ext h1 h2
theorem cmpU_parts {x y : Up} (h : cmpU x y = 0) : rowsC x.k y.k = 0 ∧ rowsC x.r y.r = 0 ∧ x.t = y.t := by
 rw [cmpU, orI_zero] at h; exact ⟨h _ (by simp), h _ (by simp), (cmpT_eq _ _).1 (h _ (by simp))⟩
end Go.Proofs
end
section
namespace Go.Proofs
open Go.Flat
set_option maxRecDepth 100000
set_option linter.unusedVariables false
set_option linter.unusedSimpArgs false
attribute [local simp] Bool.and_assoc Bool.or_assoc evalG evalX efD skF guardG guardL isCall stepL evalOp ev evs lk tmpsL app AV.ok fresh vv putCells insV ins del putL place Go.Flat.look fillC fillR getCells loadF storeF binF scalarBin intBin strBin isShift shiftBin unF lenF maxF minF rowsF appendF builtinF idxF natOf sliceP sliceF optEv Flat.cut overwrite toPV toPVs constAV scalarC scalarCs AV.cells TI.isAgg allSome andAll scalarEq buildable Go.Flat.lim retQ resL resAll resOne PartOf noTmp closedIn refs refs.refsL isSomeV hasB ids leA leA.leL renA renA.renL callB refsAll backL dropIds renS LiesAt injB ownB freshB memN locId insAll leA_refl leL_refl okS frzS frzA frzA.frzL evalD feet fine updCells cellsFrom memP footRf footWf noTmpU updIds opOps opIds idsA footR footW guardTs opTs dstTs callR callW renLoc renC inBlockQ thenQ Value.oneCell' IntKind.bits IntKind.signed PV.up toPH toPHs
section
def ckC (c : Ct) : Int := checkRow c.r
def mrgR (ls : List (List Ct)) : List Ct × Int := if orI ((catk ls).map ckC) != 0 then ([], orI ((catk ls).map ckC)) else cntR (catk ls)
attribute [local simp] lrowk Ct.row in
theorem zs27_g (ls : List (List Ct)) (cs : List Ct) (hcat : catk ls = cs) (L : Nat) (hL : cs.length = L) (hlen : ls.length ≤ Cap) (hc : L ≤ Cap) (hsm : ∀ c ∈ cs, c.r.length ≤ Bnd) (r : List Ct × Int) (hr : mrgR ls = r) : Flat.Sp Tryz.prog 27 [.p (.ps (ls.map lrowk))] [] (.tup [.p (.ps (r.1.map Ct.row)), vv (.int .i64 r.2)]) [] := by
 refine sk Tryz.func27 ?_; intro F G hn hG; have hcap : Cap = 1073741824 := rfl; have hlim : L ≤ Flat.lim := by simp only [Flat.lim]; omega
 have h71 : Flat.Sp Tryz.prog 71 [.p (.ps (ls.map lrowk))] [] (.sl 900 L 0 L) [(.arr 900, .arr 71 2 (cs.map Ct.row) 0)] := by have := spec86k ls hlen (by rw [hcat, hL]; exact hc); rw [hcat, hL] at this; exact this
 have h72 : Flat.Sp Tryz.prog 72 [.sl 0 L 0 L] [(.arr 0, .arr 71 2 (cs.map Ct.row) 0)] (.tup [.p (.ps ((cntR cs).1.map Ct.row)), vv (.int .i64 (cntR cs).2)]) [(.arr 0, .arr 71 2 ((isrt (ltU cmpK) cs).map Ct.row) 0)] := by have := spec99 cs (by omega) hsm; rw [hL] at this; exact this
 have hrr : r = if orI (cs.map ckC) != 0 then ([], orI (cs.map ckC)) else cntR cs := by rw [← hr, mrgR, hcat]
 clear hr; refine srp 1000 [0,1,2,5,6,27] ?_; refine src 2000 ?_; refine oc (id) (h71) ?_; refine oe 2100 ?_; refine onp [2,5,6,8,10,27] ?_; refine sq ?_; refine srp 3000 [2,5,6,8,10,27] ?_; refine k_block ?_; refine k_loop (fun n l => ∃ i, i + n = L ∧ (orI ((cs.map ckC).drop i) = orI (cs.map ckC)) ∧ l = [(.tmp 4, .av (.sl 900 L 0 L)), (.tmp 10, .av (.sl 900 L 0 L)), (.tmp 11, .av (vv (.int .i64 L))), (.tmp 12, .av (vv (.int .i64 i))), (.arr 900, .arr 71 2 (cs.map Ct.row) 0)]) (L) hG ⟨_, ⟨by simp [*], by simp [*], by simp [*]⟩, 0, by simp, rfl, rfl⟩ ?_
 rintro n _ ⟨i, hin, hcm, rfl⟩; refine srp 4000 [2,5,6,8,10,27] ?_; refine sq ?_; refine cd ?_ ?_
 · intro h13_1
   have hlt0 : i < L := by simpa using h13_1
   have hlt : i < cs.length := by omega
   obtain ⟨x, hxe⟩ : ∃ x, cs[i] = x := ⟨_, rfl⟩; have hx : cs[i]? = some x := by simp [hlt, hxe]
   have hw := wrap_succ (show i < Flat.lim by omega)
   rw [orI_drop (show (cs.map ckC)[i]? = some (ckC x) by simp [hx])] at hcm
   refine k_skip ?_; refine sq ?_; refine k_block ?_; refine srp 5000 [2,5,6,8,10,27] ?_; refine src 6000 ?_; refine oc id ((show Flat.Sp Tryz.prog 38 [.p (.ps (x.r.map Val.row))] [] (vv (.int .i64 (ckC x))) [] from spec54 x.r (Nat.le_trans (hsm x (List.mem_of_getElem? hx)) (by decide)))) ?_
   refine oe 6100 ?_; refine onp [2,5,6,8,10,27] ?_; refine srp 7000 [2,5,6,8,10,27] ?_; refine cd ?_ ?_
   · intro h20_2
     have h2 : (ckC x != 0) = true := h20_2; rw [h2] at hcm; have hfin : r = ([], ckC x) := by rw [hrr, ← hcm]; simp only [if_true, h2]
     clear hrr hcm; refine srp 8000 [2,5,6,8,10,27] ?_; refine k_ret ?_; show retQ _ _ _ _ _ _ _; simp [*]
   · intro h20_2
     have h2 : (ckC x != 0) = false := h20_2; rw [h2] at hcm; have hnext : orI ((cs.map ckC).drop (i + 1)) = orI (cs.map ckC) := by simpa using hcm
     clear hcm; refine k_skip ?_; refine k_nil ?_; show AK _ _ _ _ _ _; refine rg 9000 ?_; refine k_nil ?_; refine ⟨n - 1, by omega, _, ⟨?_, ?_, ?_⟩, i + 1, by omega, hnext, rfl⟩ <;> simp [*]
 · intro h13_1
   have hge : L ≤ i := by simpa using h13_1
   obtain rfl : i = L := by omega
   rw [List.drop_eq_nil_of_le (by simp; omega)] at hcm
   have hfin : r = cntR cs := by rw [hrr, ← hcm]; rfl
   clear hrr hcm; refine k_exit ?_; show AK _ _ _ _ _ _; refine src 10000 ?_; refine oc (fun _ => 900) (h72) ?_
   refine oe 10100 ?_; refine onp [2,4] ?_; refine k_ret ?_; show retQ _ _ _ _ _ _ _; simp [*]
theorem zs27 (ls : List (List Ct)) (hlen : ls.length ≤ Cap) (hc : (catk ls).length ≤ Cap) (hsm : ∀ c ∈ catk ls, c.r.length ≤ Bnd) : Flat.Sp Tryz.prog 27 [.p (.ps (ls.map lrowk))] [] (.tup [.p (.ps ((mrgR ls).1.map Ct.row)), vv (.int .i64 (mrgR ls).2)]) [] := zs27_g ls _ rfl _ rfl hlen hc hsm _ rfl
end
section
def prevB (cs : List Ct) (i : Nat) (x : Ct) : Bool := decide (0 < i) && decide (0 ≤ rowsC (cs.getD (i - 1) Ct.zero).r x.r)
def bad3 (cs : List Ct) (i : Nat) (x : Ct) : Bool := (x.n == 0) || ((ckC x != 0) || prevB cs i x)
def badI (cs : List Ct) (i : Nat) : Bool := match cs[i]? with
 | none => false
 | some x => bad3 cs i x
def chkK (cs : List Ct) : Int := if (List.range cs.length).any (badI cs) then 4 else 0
theorem chkK_bad {cs : List Ct} {i : Nat} {x : Ct} (h : cs[i]? = some x) (hb : bad3 cs i x = true) : chkK cs = 4 := by
 unfold chkK; rw [if_pos]; refine List.any_eq_true.2 ⟨i, List.mem_range.2 (List.getElem?_eq_some_iff.1 h).1, ?_⟩; unfold badI; rw [h]; exact hb
theorem chkK_ok {cs : List Ct} (h : ∀ q, q < cs.length → badI cs q = false) : chkK cs = 0 := by
 unfold chkK; rw [if_neg]; simp only [List.any_eq_true, List.mem_range, not_exists, not_and]; intro q hq; rw [h q hq]; decide
attribute [local simp] Ct.row in
set_option maxHeartbeats 2000000 in
theorem zs23 (cs : List Ct) (hcs : cs.length ≤ Cap) (hsm : ∀ c ∈ cs, c.r.length ≤ Bnd) : Flat.Sp Tryz.prog 23 [.p (.ps (cs.map Ct.row))] [] (vv (.int .i64 (chkK cs))) [] := by
 refine sk Tryz.func23 ?_; intro F G hn hG; have hcap : Cap = 1073741824 := rfl; have hlim : cs.length ≤ Flat.lim := by simp only [Flat.lim]; omega
 refine srp 1000 [0,1,2,38] ?_; refine sq ?_; refine srp 2000 [0,1,2,38] ?_; refine k_block ?_; refine k_loop (fun n l => ∃ i, i + n = cs.length ∧ (∀ q, q < i → badI cs q = false) ∧ l = [(.tmp 0, .av (.p (.ps (cs.map Ct.row)))), (.tmp 5, .av (.p (.ps (cs.map Ct.row)))), (.tmp 6, .av (vv (.int .i64 cs.length))), (.tmp 7, .av (vv (.int .i64 i)))]) (cs.length) hG ⟨_, ⟨by simp, by simp, by simp⟩, 0, by simp, by intro q hq; omega, rfl⟩ ?_
 rintro n _ ⟨i, hin, hfa, rfl⟩; have hcm := hfa; refine srp 3000 [0,1,2,38] ?_; refine sq ?_; refine cd ?_ ?_
 · intro h8_1
   have hlt : i < cs.length := by simpa using h8_1
   obtain ⟨x, hxe⟩ : ∃ x, cs[i] = x := ⟨_, rfl⟩; have hx : cs[i]? = some x := by simp [hlt, hxe]
   have hw := wrap_succ (show i < Flat.lim by omega)
   have hxr := hsm x (List.mem_of_getElem? hx); refine k_skip ?_; refine sq ?_; refine k_block ?_; refine srp 4000 [0,1,2,38] ?_; refine sq ?_; refine cv [(.tmp 36, vv (.bool (bad3 cs i x)))] ?_ ?_
   · skip
     rcases h0 : (x.n == 0 : Bool) with _ | _
     · skip
       rcases h1 : (ckC x != 0 : Bool) with _ | _
       · skip
         rcases h2 : (decide (0 < i) : Bool) with _ | _
         · skip
           refine dr ?_; refine de 5000 ?_ (h := by simp [*, bad3, prevB]; exact is_rfl _)
           iterate 2 (first | refine dp 5150 ?_ (he := by intro hgg; (try simp only [Bool.and_eq_true] at hgg); simp [*, bad3, prevB]; exact is_rfl _) | refine ds ?_ | refine dt 5150 ?_ (he := by simp [*, bad3, prevB]; exact is_rfl _))
           refine dg (fun hg => (show Flat.Sp Tryz.prog 38 [.p (.ps (x.r.map Val.row))] [] (vv (.int .i64 (ckC x))) [] from spec54 x.r (Nat.le_trans hxr (by decide)))) ?_ (hf := by intro hgg; (try simp only [Bool.and_eq_true] at hgg); simp [*, bad3, prevB]; exact is_rfl _) (hx := by intro hgg; (try simp only [Bool.and_eq_true] at hgg); simp [*, bad3, prevB]; exact is_rfl _) (hargs := by intro hgg; (try simp only [Bool.and_eq_true] at hgg); simp [*, bad3, prevB]) (hd := by simp [*, bad3, prevB]; exact is_rfl _)
           first | refine dp 5350 ?_ (he := by intro hgg; (try simp only [Bool.and_eq_true] at hgg); simp [*, bad3, prevB]; exact is_rfl _) | refine ds ?_ | refine dt 5350 ?_ (he := by simp [*, bad3, prevB]; exact is_rfl _)
           refine de 5400 ?_ (h := by simp [*, bad3, prevB]; exact is_rfl _)
           iterate 11 (first | refine dp 6450 ?_ (he := by intro hgg; (try simp only [Bool.and_eq_true] at hgg); simp [*, bad3, prevB]; exact is_rfl _) | refine ds ?_ | refine dt 6450 ?_ (he := by simp [*, bad3, prevB]; exact is_rfl _))
           refine ds ?_; iterate 2 (first | refine dp 6750 ?_ (he := by intro hgg; (try simp only [Bool.and_eq_true] at hgg); simp [*, bad3, prevB]; exact is_rfl _) | refine ds ?_ | refine dt 6750 ?_ (he := by simp [*, bad3, prevB]; exact is_rfl _))
           refine de 6800 ?_ (h := by simp [*, bad3, prevB]; exact is_rfl _)
           refine dn ?_; refine k_nil ?_; refine ⟨rfl, ?_, ?_, ?_⟩ <;> simp [*, bad3, prevB]
         · skip
           obtain ⟨j, rfl⟩ : ∃ j, i = j + 1 := ⟨i - 1, by simp at h2; omega⟩
           have hwj : IntKind.i64.wrap (j : Int) = j := Flat.wrap_small (by simp only [Flat.lim]; omega)
           have hjl : j < cs.length := by omega
           obtain ⟨y, hye⟩ : ∃ y, cs[j] = y := ⟨_, rfl⟩; have hyr := hsm y (hye ▸ List.getElem_mem hjl); refine dr ?_; refine de 1005000 ?_ (h := by simp [*, bad3, prevB]; exact is_rfl _)
           iterate 2 (first | refine dp 1005150 ?_ (he := by intro hgg; (try simp only [Bool.and_eq_true] at hgg); simp [*, bad3, prevB]; exact is_rfl _) | refine ds ?_ | refine dt 1005150 ?_ (he := by simp [*, bad3, prevB]; exact is_rfl _))
           refine dg (fun hg => (show Flat.Sp Tryz.prog 38 [.p (.ps (x.r.map Val.row))] [] (vv (.int .i64 (ckC x))) [] from spec54 x.r (Nat.le_trans hxr (by decide)))) ?_ (hf := by intro hgg; (try simp only [Bool.and_eq_true] at hgg); simp [*, bad3, prevB]; exact is_rfl _) (hx := by intro hgg; (try simp only [Bool.and_eq_true] at hgg); simp [*, bad3, prevB]; exact is_rfl _) (hargs := by intro hgg; (try simp only [Bool.and_eq_true] at hgg); simp [*, bad3, prevB]) (hd := by simp [*, bad3, prevB]; exact is_rfl _)
           first | refine dp 1005350 ?_ (he := by intro hgg; (try simp only [Bool.and_eq_true] at hgg); simp [*, bad3, prevB]; exact is_rfl _) | refine ds ?_ | refine dt 1005350 ?_ (he := by simp [*, bad3, prevB]; exact is_rfl _)
           refine de 1005400 ?_ (h := by simp [*, bad3, prevB]; exact is_rfl _)
           iterate 11 (first | refine dp 1006450 ?_ (he := by intro hgg; (try simp only [Bool.and_eq_true] at hgg); simp [*, bad3, prevB]; exact is_rfl _) | refine ds ?_ | refine dt 1006450 ?_ (he := by simp [*, bad3, prevB]; exact is_rfl _))
           refine dg (fun hg => spec147 y.r x.r (Nat.le_trans hyr (by decide)) (Nat.le_trans hxr (by decide))) ?_ (hf := by intro hgg; (try simp only [Bool.and_eq_true] at hgg); simp [*, bad3, prevB]; exact is_rfl _) (hx := by intro hgg; (try simp only [Bool.and_eq_true] at hgg); simp [*, bad3, prevB]; exact is_rfl _) (hargs := by intro hgg; (try simp only [Bool.and_eq_true] at hgg); simp [*, bad3, prevB]) (hd := by simp [*, bad3, prevB]; exact is_rfl _)
           iterate 2 (first | refine dp 1006750 ?_ (he := by intro hgg; (try simp only [Bool.and_eq_true] at hgg); simp [*, bad3, prevB]; exact is_rfl _) | refine ds ?_ | refine dt 1006750 ?_ (he := by simp [*, bad3, prevB]; exact is_rfl _))
           refine de 1006800 ?_ (h := by simp [*, bad3, prevB]; exact is_rfl _)
           refine dn ?_; refine k_nil ?_; refine ⟨rfl, ?_, ?_, ?_⟩ <;> simp [*, bad3, prevB]
       · skip
         refine dr ?_; refine de 2005000 ?_ (h := by simp [*, bad3, prevB]; exact is_rfl _)
         iterate 2 (first | refine dp 2005150 ?_ (he := by intro hgg; (try simp only [Bool.and_eq_true] at hgg); simp [*, bad3, prevB]; exact is_rfl _) | refine ds ?_ | refine dt 2005150 ?_ (he := by simp [*, bad3, prevB]; exact is_rfl _))
         refine dg (fun hg => (show Flat.Sp Tryz.prog 38 [.p (.ps (x.r.map Val.row))] [] (vv (.int .i64 (ckC x))) [] from spec54 x.r (Nat.le_trans hxr (by decide)))) ?_ (hf := by intro hgg; (try simp only [Bool.and_eq_true] at hgg); simp [*, bad3, prevB]; exact is_rfl _) (hx := by intro hgg; (try simp only [Bool.and_eq_true] at hgg); simp [*, bad3, prevB]; exact is_rfl _) (hargs := by intro hgg; (try simp only [Bool.and_eq_true] at hgg); simp [*, bad3, prevB]) (hd := by simp [*, bad3, prevB]; exact is_rfl _)
         first | refine dp 2005350 ?_ (he := by intro hgg; (try simp only [Bool.and_eq_true] at hgg); simp [*, bad3, prevB]; exact is_rfl _) | refine ds ?_ | refine dt 2005350 ?_ (he := by simp [*, bad3, prevB]; exact is_rfl _)
         refine de 2005400 ?_ (h := by simp [*, bad3, prevB]; exact is_rfl _)
         iterate 11 (first | refine dp 2006450 ?_ (he := by intro hgg; (try simp only [Bool.and_eq_true] at hgg); simp [*, bad3, prevB]; exact is_rfl _) | refine ds ?_ | refine dt 2006450 ?_ (he := by simp [*, bad3, prevB]; exact is_rfl _))
         refine ds ?_; iterate 2 (first | refine dp 2006750 ?_ (he := by intro hgg; (try simp only [Bool.and_eq_true] at hgg); simp [*, bad3, prevB]; exact is_rfl _) | refine ds ?_ | refine dt 2006750 ?_ (he := by simp [*, bad3, prevB]; exact is_rfl _))
         refine de 2006800 ?_ (h := by simp [*, bad3, prevB]; exact is_rfl _)
         refine dn ?_; refine k_nil ?_; refine ⟨rfl, ?_, ?_, ?_⟩ <;> simp [*, bad3, prevB]
     · skip
       refine dr ?_; refine de 3005000 ?_ (h := by simp [*, bad3, prevB]; exact is_rfl _)
       iterate 2 (first | refine dp 3005150 ?_ (he := by intro hgg; (try simp only [Bool.and_eq_true] at hgg); simp [*, bad3, prevB]; exact is_rfl _) | refine ds ?_ | refine dt 3005150 ?_ (he := by simp [*, bad3, prevB]; exact is_rfl _))
       refine ds ?_; first | refine dp 3005350 ?_ (he := by intro hgg; (try simp only [Bool.and_eq_true] at hgg); simp [*, bad3, prevB]; exact is_rfl _) | refine ds ?_ | refine dt 3005350 ?_ (he := by simp [*, bad3, prevB]; exact is_rfl _)
       refine de 3005400 ?_ (h := by simp [*, bad3, prevB]; exact is_rfl _)
       iterate 11 (first | refine dp 3006450 ?_ (he := by intro hgg; (try simp only [Bool.and_eq_true] at hgg); simp [*, bad3, prevB]; exact is_rfl _) | refine ds ?_ | refine dt 3006450 ?_ (he := by simp [*, bad3, prevB]; exact is_rfl _))
       refine ds ?_; iterate 2 (first | refine dp 3006750 ?_ (he := by intro hgg; (try simp only [Bool.and_eq_true] at hgg); simp [*, bad3, prevB]; exact is_rfl _) | refine ds ?_ | refine dt 3006750 ?_ (he := by simp [*, bad3, prevB]; exact is_rfl _))
       refine de 3006800 ?_ (h := by simp [*, bad3, prevB]; exact is_rfl _)
       refine dn ?_; refine k_nil ?_; refine ⟨rfl, ?_, ?_, ?_⟩ <;> simp [*, bad3, prevB]
   refine pr [0,1,2,38] ?_; refine cd ?_ ?_
   · intro h36_2
     have hfin := chkK_bad hx h36_2; refine srp 6000 [0,1,2,38] ?_; refine k_ret ?_; show retQ _ _ _ _ _ _ _; simp [*]
   · intro h36_2
     have hb0 : badI cs i = false := by unfold badI; rw [hx]; exact h36_2
     have hnext : ∀ q, q < i + 1 → badI cs q = false := fun q hq => by rcases Nat.lt_succ_iff_lt_or_eq.1 hq with h | rfl; exact hcm q h; exact hb0
     refine k_skip ?_; refine k_nil ?_; show AK _ _ _ _ _ _; refine rg 7000 ?_; refine k_nil ?_; refine ⟨n - 1, by omega, _, ⟨?_, ?_, ?_⟩, i + 1, by omega, hnext, rfl⟩ <;> simp [*]
 · intro h8_1
   have hge : cs.length ≤ i := by simpa using h8_1
   have hfin : chkK cs = 0 := chkK_ok fun q hq => hcm q (by omega)
   refine k_exit ?_; show AK _ _ _ _ _ _; refine srp 8000 [2,3] ?_; refine k_ret ?_; show retQ _ _ _ _ _ _ _; simp [*]
end
end Go.Proofs
end
section
set_option linter.unusedVariables false
set_option linter.unusedSimpArgs false
namespace Go.Proofs
open Go.Flat
def Stk (A A' : List (List Int)) (nd : Nat) : Prop := A.length ≤ A'.length ∧ A'.take nd = A.take nd
theorem Stk.rfl' (A : List (List Int)) (nd : Nat) : Stk A A nd := ⟨Nat.le_refl _, rfl⟩
theorem Stk.trans {A B D : List (List Int)} {nd : Nat} (h1 : Stk A B nd) (h2 : Stk B D nd) : Stk A D nd := ⟨Nat.le_trans h1.1 h2.1, h2.2.trans h1.2⟩
end Go.Proofs
end
section
namespace Go.Proofs
open Go.Flat
set_option maxRecDepth 100000
set_option linter.unusedVariables false
set_option linter.unusedSimpArgs false
attribute [local simp] Bool.and_assoc Bool.or_assoc evalG evalX efD skF guardG guardL isCall stepL evalOp ev evs lk tmpsL app AV.ok fresh vv putCells insV ins del putL place Go.Flat.look fillC fillR getCells loadF storeF binF scalarBin intBin strBin isShift shiftBin unF lenF maxF minF rowsF appendF builtinF idxF natOf sliceP sliceF optEv Flat.cut overwrite toPV toPVs constAV scalarC scalarCs AV.cells TI.isAgg allSome andAll scalarEq buildable Go.Flat.lim retQ resL resAll resOne PartOf noTmp closedIn refs refs.refsL isSomeV hasB ids leA leA.leL renA renA.renL callB refsAll backL dropIds renS LiesAt injB ownB freshB memN locId insAll leA_refl leL_refl okS frzS frzA frzA.frzL evalD feet fine updCells cellsFrom memP footRf footWf noTmpU updIds opOps opIds idsA footR footW guardTs opTs dstTs callR callW renLoc renC inBlockQ thenQ Value.oneCell' IntKind.bits IntKind.signed
section
attribute [local simp] Pl.av in
theorem spec110_l (S A : List (List Int)) (nd : Nat) (k m : Int) (kids : List Pl) (ex : List E) (cols wth : List Int) (agg rds : Int) (hk10 : (k == 10) = false) (hkb : kids.length ≤ Bnd) (hS : ∀ s ∈ S, s.length ≤ 8) (dd : Nat) (hgl : Pl.goodL kids dd) (hnd : nd < dd) (hnA : nd ≤ A.length) (hA : A.length ≤ 16) (w : Int) (hSh : Sh A nd w) (ih : ∀ x ∈ kids, ∀ (nd : Nat) (w : Int) (A : List (List Int)), nd < dd → nd ≤ A.length → A.length ≤ 16 → Sh A nd w → Flat.Sp Tryz.prog 67 [.ptr 0 0, x.av] [(.var 0, .n 3), (.cell 0 0, .av (vv (.int .i64 (w)))), (.cell 0 1, .av (.p (.ps (S.map srow)))), (.cell 0 2, .av (.sl 1 (A).length 0 (nd))), (.arr 1, .arr 67 1 ((A).map srow) 0)] (.p (.ps ((jdg S x nd w A).1.map trow))) [(.var 0, .n 3), (.cell 0 0, .av (vv (.int .i64 ((jdg S x nd w A).2.1)))), (.cell 0 1, .av (.p (.ps (S.map srow)))), (.cell 0 2, .av (.sl 1 ((jdg S x nd w A).2.2).length 0 (nd))), (.arr 1, .arr 67 1 (((jdg S x nd w A).2.2).map srow) 0)])  : Flat.Sp Tryz.prog 151 [.ptr 0 0, (Pl.mk k m kids ex cols wth agg rds).av] [(.var 0, .n 3), (.cell 0 0, .av (vv (.int .i64 (w)))), (.cell 0 1, .av (.p (.ps (S.map srow)))), (.cell 0 2, .av (.sl 1 (A).length 0 (nd))), (.arr 1, .arr 67 1 ((A).map srow) 0)] (.p (.ps ((jdgL S kids nd w A).1.map srow))) [(.var 0, .n 3), (.cell 0 0, .av (vv (.int .i64 ((jdgL S kids nd w A).2.1)))), (.cell 0 1, .av (.p (.ps (S.map srow)))), (.cell 0 2, .av (.sl 1 ((jdgL S kids nd w A).2.2).length 0 (nd))), (.arr 1, .arr 67 1 (((jdgL S kids nd w A).2.2).map srow) 0)] := by
 refine sk Tryz.func151 ?_; intro F G hn hG; have hkl := Bnd_lim hkb; have hkb2 : kids.length ≤ 1048576 := hkb; refine srp 1000 [0,1,3,59] ?_; refine sq ?_; refine srp 2000 [0,1,3,7,8,59] ?_; refine k_block ?_; refine ow (.tmp 4) 900 67 1 ?_; refine k_loop (fun n l => ∃ i, i + n = kids.length ∧ (True) ∧ l = [(.tmp 0, .av (.ptr 0 0)), (.tmp 3, .av (.ptr 1000 0)), (.tmp 4, .av (.sl 900 i 0 i)), (.tmp 8, .av (.p (.ps (kids.map Pl.row)))), (.tmp 9, .av (vv (.int .i64 kids.length))), (.tmp 10, .av (vv (.int .i64 i))), (.var 0, .n 3), (.cell 0 0, .av (vv (.int .i64 ((jdgL S (kids.take i) nd w A).2.1)))), (.cell 0 1, .av (.p (.ps (S.map srow)))), (.cell 0 2, .av (.sl 1 ((jdgL S (kids.take i) nd w A).2.2).length 0 (nd))), (.arr 1, .arr 67 1 (((jdgL S (kids.take i) nd w A).2.2).map srow) 0), (.var 1000, .n 8), (.cell 1000 0, .av (vv (.int .u8 k))), (.cell 1000 1, .av (vv (.int .i64 m))), (.cell 1000 2, .av (.p (.ps (kids.map Pl.row)))), (.cell 1000 3, .av (.p (.ps (ex.map E.row)))), (.cell 1000 4, .av (.p (.ps (cols.map irow)))), (.cell 1000 5, .av (.p (.ps (wth.map irow)))), (.cell 1000 6, .av (vv (.int .u8 agg))), (.cell 1000 7, .av (vv (.int .i64 rds))), (.arr 900, .arr 67 1 ((jdgL S (kids.take i) nd w A).1.map srow) 0)]) (kids.length) hG ⟨_, ⟨by simp [jdgL], by simp, by simp⟩, 0, by simp, trivial, rfl⟩ ?_
 rintro n _ ⟨i, hin, hfa, rfl⟩; refine srp 3000 [0,1,3,7,8,59] ?_; refine sq ?_; refine cd ?_ ?_
 · intro h11_1
   have hlt : i < kids.length := by simpa using h11_1
   obtain ⟨x, hxe⟩ : ∃ x, kids[i] = x := ⟨_, rfl⟩; have hx : kids[i]? = some x := by simp [hlt, hxe]
   have hw := wrap_succ (show i < Flat.lim by omega)
   have hmin : min i kids.length = i := by omega
   have hlim : (i + 1) * 24 ≤ 140737488355328 := by simp only [Flat.lim] at *; omega
   have hlim1 : i + 1 ≤ 140737488355328 := by simp only [Flat.lim] at *; omega
   have hgt : Pl.goodL (kids.take i) dd := Pl.goodL_of fun y hy => Pl.goodL_mem hgl y (List.mem_of_mem_take hy)
   have hgr := jdgL_grows (S := S) (fun y hy nd w A => jdg_grows S y dd (Pl.goodL_mem hgt y hy) nd w A) nd w A hnd hnA hA
   have hok := jdgL_ok (S := S) hgt (fun y hy => jdg_ok hS y dd (Pl.goodL_mem hgt y hy)) nd w A hnd hnA hA hSh
   have hShi : Sh (jdgL S (kids.take i) nd w A).2.2 nd (jdgL S (kids.take i) nd w A).2.1 := fun hz => by rw [hgr.2.2]; exact hSh (hok hz).1
   have hmem : x ∈ kids := hxe ▸ List.getElem_mem hlt; have hrl : (jdgL S (kids.take i) nd w A).1.length = i := by rw [jdgL_rows, List.length_take]; exact hmin
   obtain ⟨xk, xn, xq, xe, xc, xw, xa, xr⟩ := x; refine k_skip ?_; refine sq ?_; refine k_block ?_; refine sq ?_; refine rg 4000 ?_ (h := by simp [*, Pl.row_eq]; exact is_rfl _)
   refine pr [0,1,3,7,8,59] ?_; refine sq ?_; refine src 5000 ?_; iterate 2 (first | refine gp 5150 ?_ | refine os ?_ | refine gt 5150 ?_)
   refine oe 5200 ?_; refine onp [0,1,3,7,8,59] ?_; refine ce ?_; refine k_skip ?_; refine rc 7000 ?_ (h := by simp [*, srow]; exact is_rfl _)
   refine oc id (ih _ hmem nd (jdgL S (kids.take i) nd w A).2.1 (jdgL S (kids.take i) nd w A).2.2 hnd (Nat.le_trans hnA hgr.1) hgr.2.1 hShi) ?_ (hg := by simp [*, srow]) (hf := by simp [*, srow]; exact is_rfl _) (hx := by simp [*, srow]; exact is_rfl _) (hargs := by simp [*, srow]) (hB := by simp [*, srow]) (hL := by simp [*, srow]) (hd := by simp [*, srow]; exact is_rfl _)
   refine oe 7100 ?_ (h := by simp [*, srow]; exact is_rfl _)
   refine on ?_; refine k_nil ?_; show AK _ _ _ _ _ _; refine rg 8000 ?_ (h := by simp [*, wrap_succ (show i < Flat.lim by omega)]; exact is_rfl _)
   refine k_nil ?_; refine ⟨n - 1, by omega, _, ⟨?_, ?_, ?_⟩, i + 1, by omega, trivial, rfl⟩ <;> simp [*, jdgL_take hx, srow]
 · intro h11_1
   have hge : kids.length ≤ i := by simpa using h11_1
   have htk : kids.take i = kids := List.take_of_length_le hge; obtain rfl : i = kids.length := by omega
   have hrl : (jdgL S kids nd w A).1.length = kids.length := jdgL_rows ..; have htr : ((jdgL S kids nd w A).1.map srow).take kids.length = (jdgL S kids nd w A).1.map srow := List.take_of_length_le (by simp [hrl])
   refine fz 900 ?_; refine k_exit ?_; show AK _ _ _ _ _ _; refine sq ?_; refine srp 9000 [0,1,4,5,43,59] ?_; refine ce ?_; refine k_skip ?_; refine srp 11000 [4,5] ?_; refine k_ret ?_; show retQ _ _ _ _ _ _ _; simp [*]
attribute [local simp] Pl.av srow Pl.row_eq in
theorem spec110_i1 (S A : List (List Int)) (m : Int) (ex : List E) (cols wth : List Int) (agg rds : Int) (ak an : Int) (aq : List Pl) (ae : List E) (ac aw : List Int) (aa ar : Int) (bk bn : Int) (bq : List Pl) (be : List E) (bc bw : List Int) (ba br : Int) (w w1 w2 : Int) (o1 o2 : List Int) (A1 B A2 : List (List Int)) (hA1 : A1.length ≤ 16) (hA2 : A1.length + 1 ≤ A2.length) (hnn : A1.length ≤ 16) (hBl : B.length = A1.length + 1) (hBm : B.map srow = A1.map srow ++ [srow o1]) (hx : Flat.Sp Tryz.prog 67 [.ptr 0 0, (Pl.mk ak an aq ae ac aw aa ar).av] [(.var 0, .n 3), (.cell 0 0, .av (vv (.int .i64 (w)))), (.cell 0 1, .av (.p (.ps (S.map srow)))), (.cell 0 2, .av (.sl 1 (A).length 0 (A1.length))), (.arr 1, .arr 67 1 ((A).map srow) 0)] (.p (.ps (o1.map trow))) [(.var 0, .n 3), (.cell 0 0, .av (vv (.int .i64 (w1)))), (.cell 0 1, .av (.p (.ps (S.map srow)))), (.cell 0 2, .av (.sl 1 (A1).length 0 (A1.length))), (.arr 1, .arr 67 1 ((A1).map srow) 0)]) (hy : Flat.Sp Tryz.prog 67 [.ptr 0 0, (Pl.mk bk bn bq be bc bw ba br).av] [(.var 0, .n 3), (.cell 0 0, .av (vv (.int .i64 (w1)))), (.cell 0 1, .av (.p (.ps (S.map srow)))), (.cell 0 2, .av (.sl 1 (B).length 0 (A1.length + 1))), (.arr 1, .arr 67 1 ((B).map srow) 0)] (.p (.ps (o2.map trow))) [(.var 0, .n 3), (.cell 0 0, .av (vv (.int .i64 (w2)))), (.cell 0 1, .av (.p (.ps (S.map srow)))), (.cell 0 2, .av (.sl 1 (A2).length 0 (A1.length + 1))), (.arr 1, .arr 67 1 ((A2).map srow) 0)]) : Flat.Sp Tryz.prog 151 [.ptr 0 0, (Pl.mk 10 m [Pl.mk ak an aq ae ac aw aa ar, Pl.mk bk bn bq be bc bw ba br] ex cols wth agg rds).av] [(.var 0, .n 3), (.cell 0 0, .av (vv (.int .i64 (w)))), (.cell 0 1, .av (.p (.ps (S.map srow)))), (.cell 0 2, .av (.sl 1 (A).length 0 (A1.length))), (.arr 1, .arr 67 1 ((A).map srow) 0)] (.p (.ps [srow o1, srow o2])) [(.var 0, .n 3), (.cell 0 0, .av (vv (.int .i64 (w2)))), (.cell 0 1, .av (.p (.ps (S.map srow)))), (.cell 0 2, .av (.sl 1 (A2).length 0 (A1.length))), (.arr 1, .arr 67 1 ((A2).map srow) 0)] := by
 refine sk Tryz.func151 ?_; intro F G hn hG; have hwn : IntKind.i64.wrap (A1.length : Int) = A1.length := Flat.wrap_small (by simp only [Flat.lim]; omega)
 have hl3 : (A1.length + 1) * 24 ≤ 140737488355328 := by omega
 have hl4 : A1.length + 1 ≤ 140737488355328 := by omega
 refine srp 1000 [0,1,3,59] ?_; refine sq ?_; refine srp 2000 [0,1,3,7,8,59] ?_; refine k_block ?_; refine ow (.tmp 4) 900 67 1 ?_; refine k_rounds 3 ?_; show AK _ _ _ _ _ _; refine srp 3000 [0,1,3,7,8,59] ?_; refine sq ?_; refine ct ?_; refine k_skip ?_; refine sq ?_; refine k_block ?_; refine srp 4000 [0,1,3,7,8,59] ?_; refine sq ?_; refine src 5000 ?_; iterate 2 (first | refine gp 5150 ?_ | refine os ?_ | refine gt 5150 ?_)
 refine oe 5200 ?_; refine onp [0,1,3,7,8,59] ?_; refine ce ?_; refine k_skip ?_; refine rc 7000 ?_; refine oc id (hx) ?_; refine oe 7100 ?_; refine on ?_; refine k_nil ?_; show AK _ _ _ _ _ _; refine rg 8000 ?_; refine k_nil ?_; show AK _ _ _ _ _ _; refine srp 1003000 [0,1,3,7,8,59] ?_; refine sq ?_; refine ct ?_; refine k_skip ?_; refine sq ?_; refine k_block ?_; refine srp 1004000 [0,1,3,7,8,59] ?_; refine sq ?_; refine src 1005000 ?_; iterate 2 (first | refine gp 1005150 ?_ | refine os ?_ | refine gt 1005150 ?_)
 refine oe 1005200 ?_; refine onp [0,1,3,7,8,59] ?_; refine ct ?_; refine dr ?_; refine de 6000 ?_; refine dn ?_; refine pr [0,1,3,7,8,59] ?_; refine rc 1007000 ?_; refine oc id (hy) ?_; refine oe 1007100 ?_; refine on ?_; refine k_nil ?_; show AK _ _ _ _ _ _; refine rg 1008000 ?_; refine k_nil ?_; show AK _ _ _ _ _ _; refine srp 2003000 [0,1,3,7,8,59] ?_; refine sq ?_; refine ce ?_; refine k_exit ?_; show AK _ _ _ _ _ _; refine sq ?_; refine srp 9000 [0,1,4,5,43,59] ?_; refine ct ?_; refine dr ?_; refine de 10000 ?_; refine dn ?_; refine pr [4,5,58,59] ?_; refine fz 900 ?_; refine srp 11000 [4,5] ?_; refine k_ret ?_; show retQ _ _ _ _ _ _ _; simp [*]
attribute [local simp] Pl.av srow Pl.row_eq in
theorem spec110_i2 (S A : List (List Int)) (nd : Nat) (m : Int) (ex : List E) (cols wth : List Int) (agg rds : Int) (ak an : Int) (aq : List Pl) (ae : List E) (ac aw : List Int) (aa ar : Int) (bk bn : Int) (bq : List Pl) (be : List E) (bc bw : List Int) (ba br : Int) (w w1 w2 : Int) (o1 o2 : List Int) (A1 B A2 : List (List Int)) (hA1 : A1.length ≤ 16) (hA2 : nd + 1 ≤ A2.length) (hnn : nd ≤ 16) (hlt : nd < A1.length) (hBl : B.length = A1.length) (hBm : B.map srow = (A1.map srow).take nd ++ srow o1 :: (A1.map srow).drop (nd + 1)) (hx : Flat.Sp Tryz.prog 67 [.ptr 0 0, (Pl.mk ak an aq ae ac aw aa ar).av] [(.var 0, .n 3), (.cell 0 0, .av (vv (.int .i64 (w)))), (.cell 0 1, .av (.p (.ps (S.map srow)))), (.cell 0 2, .av (.sl 1 (A).length 0 (nd))), (.arr 1, .arr 67 1 ((A).map srow) 0)] (.p (.ps (o1.map trow))) [(.var 0, .n 3), (.cell 0 0, .av (vv (.int .i64 (w1)))), (.cell 0 1, .av (.p (.ps (S.map srow)))), (.cell 0 2, .av (.sl 1 (A1).length 0 (nd))), (.arr 1, .arr 67 1 ((A1).map srow) 0)]) (hy : Flat.Sp Tryz.prog 67 [.ptr 0 0, (Pl.mk bk bn bq be bc bw ba br).av] [(.var 0, .n 3), (.cell 0 0, .av (vv (.int .i64 (w1)))), (.cell 0 1, .av (.p (.ps (S.map srow)))), (.cell 0 2, .av (.sl 1 (B).length 0 (nd + 1))), (.arr 1, .arr 67 1 ((B).map srow) 0)] (.p (.ps (o2.map trow))) [(.var 0, .n 3), (.cell 0 0, .av (vv (.int .i64 (w2)))), (.cell 0 1, .av (.p (.ps (S.map srow)))), (.cell 0 2, .av (.sl 1 (A2).length 0 (nd + 1))), (.arr 1, .arr 67 1 ((A2).map srow) 0)]) : Flat.Sp Tryz.prog 151 [.ptr 0 0, (Pl.mk 10 m [Pl.mk ak an aq ae ac aw aa ar, Pl.mk bk bn bq be bc bw ba br] ex cols wth agg rds).av] [(.var 0, .n 3), (.cell 0 0, .av (vv (.int .i64 (w)))), (.cell 0 1, .av (.p (.ps (S.map srow)))), (.cell 0 2, .av (.sl 1 (A).length 0 (nd))), (.arr 1, .arr 67 1 ((A).map srow) 0)] (.p (.ps [srow o1, srow o2])) [(.var 0, .n 3), (.cell 0 0, .av (vv (.int .i64 (w2)))), (.cell 0 1, .av (.p (.ps (S.map srow)))), (.cell 0 2, .av (.sl 1 (A2).length 0 (nd))), (.arr 1, .arr 67 1 ((A2).map srow) 0)] := by
 refine sk Tryz.func151 ?_; intro F G hn hG; have hwn : IntKind.i64.wrap (nd : Int) = nd := Flat.wrap_small (by simp only [Flat.lim]; omega)
 have hl3 : (nd + 1) * 24 ≤ 140737488355328 := by omega
 have hl4 : nd + 1 ≤ 140737488355328 := by omega
 have hmx : max A1.length (nd + 1) = A1.length := by omega
 have hne : ¬ nd = A1.length := by omega
 have hmn : min nd A1.length = nd := by omega
 refine srp 1000 [0,1,3,59] ?_; refine sq ?_; refine srp 2000 [0,1,3,7,8,59] ?_; refine k_block ?_; refine ow (.tmp 4) 900 67 1 ?_; refine k_rounds 3 ?_; show AK _ _ _ _ _ _; refine srp 3000 [0,1,3,7,8,59] ?_; refine sq ?_; refine ct ?_; refine k_skip ?_; refine sq ?_; refine k_block ?_; refine srp 4000 [0,1,3,7,8,59] ?_; refine sq ?_; refine src 5000 ?_; iterate 2 (first | refine gp 5150 ?_ | refine os ?_ | refine gt 5150 ?_)
 refine oe 5200 ?_; refine onp [0,1,3,7,8,59] ?_; refine ce ?_; refine k_skip ?_; refine rc 7000 ?_; refine oc id (hx) ?_; refine oe 7100 ?_; refine on ?_; refine k_nil ?_; show AK _ _ _ _ _ _; refine rg 8000 ?_; refine k_nil ?_; show AK _ _ _ _ _ _; refine srp 1003000 [0,1,3,7,8,59] ?_; refine sq ?_; refine ct ?_; refine k_skip ?_; refine sq ?_; refine k_block ?_; refine srp 1004000 [0,1,3,7,8,59] ?_; refine sq ?_; refine src 1005000 ?_; iterate 2 (first | refine gp 1005150 ?_ | refine os ?_ | refine gt 1005150 ?_)
 refine oe 1005200 ?_; refine onp [0,1,3,7,8,59] ?_; refine ct ?_; refine dr ?_; refine de 6000 ?_; refine dn ?_; refine pr [0,1,3,7,8,59] ?_; refine rc 1007000 ?_; refine oc id (hy) ?_; refine oe 1007100 ?_; refine on ?_; refine k_nil ?_; show AK _ _ _ _ _ _; refine rg 1008000 ?_; refine k_nil ?_; show AK _ _ _ _ _ _; refine srp 2003000 [0,1,3,7,8,59] ?_; refine sq ?_; refine ce ?_; refine k_exit ?_; show AK _ _ _ _ _ _; refine sq ?_; refine srp 9000 [0,1,4,5,43,59] ?_; refine ct ?_; refine dr ?_; refine de 10000 ?_; refine dn ?_; refine pr [4,5,58,59] ?_; refine fz 900 ?_; refine srp 11000 [4,5] ?_; refine k_ret ?_; show retQ _ _ _ _ _ _ _; simp [*]
theorem spec110_i (S A : List (List Int)) (nd : Nat) (m : Int) (ex : List E) (cols wth : List Int) (agg rds : Int) (ak an : Int) (aq : List Pl) (ae : List E) (ac aw : List Int) (aa ar : Int) (bk bn : Int) (bq : List Pl) (be : List E) (bc bw : List Int) (ba br : Int) (w w1 w2 : Int) (o1 o2 : List Int) (A1 A2 : List (List Int)) (h5 : nd ≤ A1.length) (hA1 : A1.length ≤ 16) (hA2 : nd + 1 ≤ A2.length) (hnn : nd ≤ 16) (hx : Flat.Sp Tryz.prog 67 [.ptr 0 0, (Pl.mk ak an aq ae ac aw aa ar).av] [(.var 0, .n 3), (.cell 0 0, .av (vv (.int .i64 (w)))), (.cell 0 1, .av (.p (.ps (S.map srow)))), (.cell 0 2, .av (.sl 1 (A).length 0 (nd))), (.arr 1, .arr 67 1 ((A).map srow) 0)] (.p (.ps (o1.map trow))) [(.var 0, .n 3), (.cell 0 0, .av (vv (.int .i64 (w1)))), (.cell 0 1, .av (.p (.ps (S.map srow)))), (.cell 0 2, .av (.sl 1 (A1).length 0 (nd))), (.arr 1, .arr 67 1 ((A1).map srow) 0)]) (hy : Flat.Sp Tryz.prog 67 [.ptr 0 0, (Pl.mk bk bn bq be bc bw ba br).av] [(.var 0, .n 3), (.cell 0 0, .av (vv (.int .i64 (w1)))), (.cell 0 1, .av (.p (.ps (S.map srow)))), (.cell 0 2, .av (.sl 1 (pushA A1 nd o1).length 0 (nd + 1))), (.arr 1, .arr 67 1 ((pushA A1 nd o1).map srow) 0)] (.p (.ps (o2.map trow))) [(.var 0, .n 3), (.cell 0 0, .av (vv (.int .i64 (w2)))), (.cell 0 1, .av (.p (.ps (S.map srow)))), (.cell 0 2, .av (.sl 1 (A2).length 0 (nd + 1))), (.arr 1, .arr 67 1 ((A2).map srow) 0)]) : Flat.Sp Tryz.prog 151 [.ptr 0 0, (Pl.mk 10 m [Pl.mk ak an aq ae ac aw aa ar, Pl.mk bk bn bq be bc bw ba br] ex cols wth agg rds).av] [(.var 0, .n 3), (.cell 0 0, .av (vv (.int .i64 (w)))), (.cell 0 1, .av (.p (.ps (S.map srow)))), (.cell 0 2, .av (.sl 1 (A).length 0 (nd))), (.arr 1, .arr 67 1 ((A).map srow) 0)] (.p (.ps [srow o1, srow o2])) [(.var 0, .n 3), (.cell 0 0, .av (vv (.int .i64 (w2)))), (.cell 0 1, .av (.p (.ps (S.map srow)))), (.cell 0 2, .av (.sl 1 (A2).length 0 (nd))), (.arr 1, .arr 67 1 ((A2).map srow) 0)] := by
 have hp := pushA_len o1 h5; rcases Nat.lt_or_eq_of_le h5 with hlt | heq
 · refine spec110_i2 S A nd m ex cols wth agg rds ak an aq ae ac aw aa ar bk bn bq be bc bw ba br w w1 w2 o1 o2 A1 _ A2 hA1 hA2 hnn hlt (by rw [hp]; omega) ?_ hx hy
   simp [pushA]
 · subst heq
   refine spec110_i1 S A m ex cols wth agg rds ak an aq ae ac aw aa ar bk bn bq be bc bw ba br w w1 w2 o1 o2 A1 _ A2 hA1 hA2 hnn (by rw [hp]; omega) ?_ hx hy
   simp [pushA]
theorem two_pl {l : List Pl} (h : l.length = 2) : ∃ x y, l = [x, y] := by
 match l, h with
 | [x, y], _ => exact ⟨x, y, rfl⟩
theorem spec110 (S A : List (List Int)) (nd : Nat) (k m : Int) (kids : List Pl) (ex : List E) (cols wth : List Int) (agg rds : Int) (hk2 : (k == 10) = true → kids.length = 2) (hkb : kids.length ≤ Bnd) (hS : ∀ s ∈ S, s.length ≤ 8) (d : Nat) (hd : d ≤ 16) (hgl : Pl.goodL kids (d + 1)) (hnd : nd < d) (hnA : nd ≤ A.length) (hA : A.length ≤ 16) (w : Int) (hSh : Sh A nd w) (ih : ∀ x ∈ kids, ∀ (nd : Nat) (w : Int) (A : List (List Int)), nd < d + 1 → nd ≤ A.length → A.length ≤ 16 → Sh A nd w → Flat.Sp Tryz.prog 67 [.ptr 0 0, x.av] [(.var 0, .n 3), (.cell 0 0, .av (vv (.int .i64 (w)))), (.cell 0 1, .av (.p (.ps (S.map srow)))), (.cell 0 2, .av (.sl 1 (A).length 0 (nd))), (.arr 1, .arr 67 1 ((A).map srow) 0)] (.p (.ps ((jdg S x nd w A).1.map trow))) [(.var 0, .n 3), (.cell 0 0, .av (vv (.int .i64 ((jdg S x nd w A).2.1)))), (.cell 0 1, .av (.p (.ps (S.map srow)))), (.cell 0 2, .av (.sl 1 ((jdg S x nd w A).2.2).length 0 (nd))), (.arr 1, .arr 67 1 (((jdg S x nd w A).2.2).map srow) 0)])  : Flat.Sp Tryz.prog 151 [.ptr 0 0, (Pl.mk k m kids ex cols wth agg rds).av] [(.var 0, .n 3), (.cell 0 0, .av (vv (.int .i64 (w)))), (.cell 0 1, .av (.p (.ps (S.map srow)))), (.cell 0 2, .av (.sl 1 (A).length 0 (nd))), (.arr 1, .arr 67 1 ((A).map srow) 0)] (.p (.ps ((jdgK S k kids nd w A).1.map srow))) [(.var 0, .n 3), (.cell 0 0, .av (vv (.int .i64 ((jdgK S k kids nd w A).2.1)))), (.cell 0 1, .av (.p (.ps (S.map srow)))), (.cell 0 2, .av (.sl 1 ((jdgK S k kids nd w A).2.2).length 0 (nd))), (.arr 1, .arr 67 1 (((jdgK S k kids nd w A).2.2).map srow) 0)] := by
 cases hk : (k == 10) with
 | false =>
   have he : jdgK S k kids nd w A = jdgL S kids nd w A := by simp only [jdgK, hk]; rfl
   rw [he]; exact spec110_l S A nd k m kids ex cols wth agg rds hk hkb hS (d + 1) hgl (by omega) hnA hA w hSh ih
 | true =>
   obtain ⟨a, b, rfl⟩ := two_pl (hk2 hk); obtain rfl : k = 10 := eq_of_beq hk; have hga : a.good (d + 1) := Pl.goodL_mem hgl a (by simp)
   have hgb : b.good (d + 1) := Pl.goodL_mem hgl b (by simp)
   have g := jdg_grows S a (d + 1) hga nd w A (by omega) hnA hA
   have ok := jdg_ok hS a (d + 1) hga nd w A (by omega) hnA hA hSh
   have h5 := Nat.le_trans hnA g.1; have hp := pushA_len (jdg S a nd w A).1 h5; have hq := g.2.1
   have hShb : Sh (pushA (jdg S a nd w A).2.2 nd (jdg S a nd w A).1) (nd + 1) (jdg S a nd w A).2.1 := fun hz s hs => by
     rw [pushA_take1 _ h5, g.2.2] at hs; rcases List.mem_append.1 hs with hs | hs
     · exact hSh (ok hz).1 s hs
     · rw [List.mem_singleton] at hs; rw [hs]; exact (ok hz).2
   have hx := ih a (by simp) nd w A (by omega) hnA hA hSh
   have hy := ih b (by simp) (nd + 1) (jdg S a nd w A).2.1 (pushA (jdg S a nd w A).2.2 nd (jdg S a nd w A).1) (by omega) (by rw [hp]; omega) (by rw [hp]; omega) hShb
   have g2 := jdg_grows S b (d + 1) hgb (nd + 1) (jdg S a nd w A).2.1 (pushA (jdg S a nd w A).2.2 nd (jdg S a nd w A).1) (by omega) (by rw [hp]; omega) (by rw [hp]; omega)
   have hA2 := g2.1
   have he : jdgK S 10 [a, b] nd w A = ([(jdg S a nd w A).1, (jdg S b (nd + 1) (jdg S a nd w A).2.1 (pushA (jdg S a nd w A).2.2 nd (jdg S a nd w A).1)).1], (jdg S b (nd + 1) (jdg S a nd w A).2.1 (pushA (jdg S a nd w A).2.2 nd (jdg S a nd w A).1)).2) := by
     simp only [jdgK, jdgI, jdgL]; rfl
   rw [he]; obtain ⟨ak, an, aq, ae, ac, aw, aa, ar⟩ := a; obtain ⟨bk, bn, bq, be, bc, bw, ba, br⟩ := b; exact spec110_i S A nd m ex cols wth agg rds ak an aq ae ac aw aa ar bk bn bq be bc bw ba br w _ _ _ _ _ _ h5 hq (by rw [hp] at hA2; exact Nat.le_trans (Nat.le_max_right _ _) hA2) (by omega) hx hy
end
section
def neS (o ts : List Int) : Bool := !(ts == o)
theorem spec117 (ts o : List Int) (hts : ts.length ≤ Flat.lim) : Flat.Sp Tryz.prog 157 [.p (.ps (ts.map trow)), .ptr 0 0] [(.var 0, .n 1), (.cell 0 0, .av (.p (.ps (o.map trow))))] (vv (.bool (neS o ts))) [(.var 0, .n 1), (.cell 0 0, .av (.p (.ps (o.map trow))))] := by
 refine sk Tryz.func157 ?_; intro F G hn hG; refine srp 1000 [0,2,3,8] ?_; refine src 2000 ?_; refine oc id (spec114 ts o hts) ?_; refine oe 2100 ?_; refine onp [3,4] ?_; refine k_ret ?_; show retQ _ _ _ _ _ _ _; simp [*, neS]
attribute [local simp] srow in
theorem spec118b (ss : List (List Int)) (o : List Int) (hlen : ss.length ≤ Flat.lim) (hs8 : ∀ s ∈ ss, s.length ≤ 8) : Flat.Sp Tryz.prog 231 [.p (.ps (ss.map srow)), .fn (.func 157) [.ptr 0 0]] [(.var 0, .n 1), (.cell 0 0, .av (.p (.ps (o.map trow))))] (vv (.int .i64 (firstP (neS o) ss 0))) [(.var 0, .n 1), (.cell 0 0, .av (.p (.ps (o.map trow))))] := by
 refine sk Tryz.func231 ?_; intro F G hn hG; refine srp 1000 [0,2,4,19] ?_; refine sq ?_; refine srp 2000 [0,2,4,6,7,19] ?_; refine k_block ?_; refine k_loop (fun n l => ∃ i, i + n = ss.length ∧ (firstP (neS o) ss 0 = firstP (neS o) (ss.drop i) i) ∧ l = [(.tmp 0, .av (.p (.ps (ss.map srow)))), (.tmp 1, .av (.fn (.func 157) [.ptr 0 0])), (.tmp 7, .av (vv (.int .i64 ss.length))), (.tmp 8, .av (vv (.int .i64 i))), (.var 0, .n 1), (.cell 0 0, .av (.p (.ps (o.map trow))))]) (ss.length) hG ⟨_, ⟨by simp, by simp, by simp⟩, 0, by simp, rfl, rfl⟩ ?_
 rintro n _ ⟨i, hin, hfa, rfl⟩; have hwi : i < Flat.lim → IntKind.i64.wrap ((i : Int) + 1) = (i : Int) + 1 := wrap_succ; refine srp 3000 [0,2,4,6,7,19] ?_; refine sq ?_; refine cd ?_ ?_
 · intro h9_1
   have hlt : i < ss.length := by simpa using h9_1
   obtain ⟨x, hxe⟩ : ∃ x, ss[i] = x := ⟨_, rfl⟩; have hx : ss[i]? = some x := by simp [hlt, hxe]
   have hfd := firstP_drop (p := (neS o)) hx; have hwi := hwi (by omega)
   have hxl : x.length ≤ Flat.lim := Nat.le_trans (hs8 x (hxe ▸ List.getElem_mem hlt)) (by simp [Flat.lim])
   refine k_skip ?_; refine sq ?_; refine k_block ?_; refine srp 4000 [0,2,4,6,7,19] ?_; refine src 5000 ?_; refine oc id (spec117 x o hxl) ?_; refine onp [0,2,4,6,7,19] ?_; refine cd ?_ ?_
   · intro h16_2
     have hr : (neS o) x = true := by simpa using h16_2
     refine srp 6000 [0,2,4,6,7,19] ?_; refine k_ret ?_; show retQ _ _ _ _ _ _ _; simp [*]
   · intro h16_2
     have hr : (neS o) x = false := by simpa using h16_2
     refine k_skip ?_; refine k_nil ?_; show AK _ _ _ _ _ _; refine rg 7000 ?_; refine k_nil ?_; refine ⟨n - 1, by omega, _, ⟨?_, ?_, ?_⟩, i + 1, by omega, by rw [hfa, hfd, hr, if_neg (by simp)], rfl⟩ <;> simp [*]
 · intro h9_1
   have hge : ss.length ≤ i := by simpa using h9_1
   have hfe : firstP (neS o) (ss.drop i) i = -1 := by rw [List.drop_eq_nil_of_le hge]; rfl
   refine k_exit ?_; show AK _ _ _ _ _ _; refine srp 8000 [4,5] ?_; refine k_ret ?_; show retQ _ _ _ _ _ _ _; simp [*]
attribute [local simp] firstP_any in
theorem spec62b (ss : List (List Int)) (o : List Int) (hlen : ss.length ≤ Flat.lim) (hs8 : ∀ s ∈ ss, s.length ≤ 8) : Flat.Sp Tryz.prog 146 [.p (.ps (ss.map srow)), .fn (.func 157) [.ptr 0 0]] [(.var 0, .n 1), (.cell 0 0, .av (.p (.ps (o.map trow))))] (vv (.bool (ss.any (neS o)))) [(.var 0, .n 1), (.cell 0 0, .av (.p (.ps (o.map trow))))] := by
 refine sk Tryz.func146 ?_; intro F G hn hG; refine srp 1000 [0,2,4,9] ?_; refine src 2000 ?_; refine oc id (spec118b ss o hlen hs8) ?_; refine oe 2100 ?_; refine onp [4,5] ?_; refine k_ret ?_; show retQ _ _ _ _ _ _ _; simp [*]
attribute [local simp] Pl.av in
theorem spec59_1 (S A : List (List Int)) (nd : Nat) (m : Int) (kids : List Pl) (ex : List E) (cols wth : List Int) (agg rds : Int) (w : Int) : Flat.Sp Tryz.prog 67 [.ptr 0 0, (Pl.mk 1 m kids ex cols wth agg rds).av] [(.var 0, .n 3), (.cell 0 0, .av (vv (.int .i64 (w)))), (.cell 0 1, .av (.p (.ps (S.map srow)))), (.cell 0 2, .av (.sl 1 (A).length 0 (nd))), (.arr 1, .arr 67 1 ((A).map srow) 0)] (.p (.ps ((oneJ S m).map trow))) [(.var 0, .n 3), (.cell 0 0, .av (vv (.int .i64 (oneW S m w)))), (.cell 0 1, .av (.p (.ps (S.map srow)))), (.cell 0 2, .av (.sl 1 (A).length 0 (nd))), (.arr 1, .arr 67 1 ((A).map srow) 0)] := by
 refine sk Tryz.func67 ?_; intro F G hn hG; refine srp 1000 [0,1,3,64,65,85,86,108,109,123,124,125] ?_; refine sq ?_; refine srp 2000 [0,1,3,9,10,64,65,85,86,108,109,123,124,125] ?_; refine k_block ?_; refine srp 3000 [0,1,3,9,10,12,13,64,65,85,86,108,109,123,124,125] ?_; refine ct ?_; refine sq ?_; refine dr ?_; refine de 4000 ?_; refine dc id (spec109 S A nd S m w) ?_; refine de 4100 ?_; refine dn ?_; refine pr [0,1,3,9,43,64,65,85,86,108,109,123,124,125] ?_; refine k_ret ?_; show retQ _ _ _ _ _ _ _; simp [*]
attribute [local simp] Pl.av in
theorem spec59_2n (S A : List (List Int)) (nd : Nat) (m : Int) (kids : List Pl) (ex : List E) (cols wth : List Int) (agg rds : Int) (w : Int) (hm : decide (m < 0) = true) : Flat.Sp Tryz.prog 67 [.ptr 0 0, (Pl.mk 2 m kids ex cols wth agg rds).av] [(.var 0, .n 3), (.cell 0 0, .av (vv (.int .i64 (w)))), (.cell 0 1, .av (.p (.ps (S.map srow)))), (.cell 0 2, .av (.sl 1 (A).length 0 (nd))), (.arr 1, .arr 67 1 ((A).map srow) 0)] (.p (.ps ([].map trow))) [(.var 0, .n 3), (.cell 0 0, .av (vv (.int .i64 (unlessF w false 1)))), (.cell 0 1, .av (.p (.ps (S.map srow)))), (.cell 0 2, .av (.sl 1 (A).length 0 (nd))), (.arr 1, .arr 67 1 ((A).map srow) 0)] := by
 refine sk Tryz.func67 ?_; intro F G hn hG; refine srp 1000 [0,1,3,64,65,85,86,108,109,123,124,125] ?_; refine sq ?_; refine srp 2000 [0,1,3,9,10,64,65,85,86,108,109,123,124,125] ?_; refine k_block ?_; refine srp 3000 [0,1,3,9,10,12,13,64,65,85,86,108,109,123,124,125] ?_; refine ce ?_; refine srp 5000 [0,1,3,9,21,22,23,64,65,85,86,108,109,123,124,125] ?_; refine ct ?_; refine sq ?_; refine srp 6000 [0,1,3,9,25,64,65,85,86,108,109,123,124,125] ?_; refine ct ?_; refine src 7000 ?_; refine oc id (spec109 S A nd [] 0 w) ?_; refine oe 7100 ?_; refine onp [0,1,3,9,28,64,65,85,86,108,109,123,124,125] ?_; refine k_ret ?_; show retQ _ _ _ _ _ _ _; simp [*, oneJ, oneW, offI]
attribute [local simp] Pl.av in
theorem spec59_2 (S A : List (List Int)) (nd : Nat) (m : Int) (kids : List Pl) (ex : List E) (cols wth : List Int) (agg rds : Int) (w : Int) (hnA : nd ≤ A.length) (hm : decide (m < 0) = false) : Flat.Sp Tryz.prog 67 [.ptr 0 0, (Pl.mk 2 m kids ex cols wth agg rds).av] [(.var 0, .n 3), (.cell 0 0, .av (vv (.int .i64 (w)))), (.cell 0 1, .av (.p (.ps (S.map srow)))), (.cell 0 2, .av (.sl 1 (A).length 0 (nd))), (.arr 1, .arr 67 1 ((A).map srow) 0)] (.p (.ps ((oneJ (A.take nd) (varI nd m)).map trow))) [(.var 0, .n 3), (.cell 0 0, .av (vv (.int .i64 (oneW (A.take nd) (varI nd m) w)))), (.cell 0 1, .av (.p (.ps (S.map srow)))), (.cell 0 2, .av (.sl 1 (A).length 0 (nd))), (.arr 1, .arr 67 1 ((A).map srow) 0)] := by
 refine sk Tryz.func67 ?_; intro F G hn hG; refine srp 1000 [0,1,3,64,65,85,86,108,109,123,124,125] ?_; refine sq ?_; refine srp 2000 [0,1,3,9,10,64,65,85,86,108,109,123,124,125] ?_; refine k_block ?_; refine srp 3000 [0,1,3,9,10,12,13,64,65,85,86,108,109,123,124,125] ?_; refine ce ?_; refine srp 5000 [0,1,3,9,21,22,23,64,65,85,86,108,109,123,124,125] ?_; refine ct ?_; refine sq ?_; refine srp 6000 [0,1,3,9,25,64,65,85,86,108,109,123,124,125] ?_; refine ce ?_; refine k_skip ?_; refine sq ?_; refine dr ?_; refine de 8000 ?_; refine dc id (spec109o S A nd hnA (varI nd m) w) ?_ (hg := by simp [*, varI]) (hf := by simp [*, varI]; exact is_rfl _) (hx := by simp [*, varI]; exact is_rfl _) (hargs := by simp [*, varI]) (hB := by simp [*, varI]) (hL := by simp [*, varI]) (hd := by simp [*, varI]; exact is_rfl _)
 refine de 8100 ?_; refine dn ?_; refine pr [0,1,3,9,43,64,65,85,86,108,109,123,124,125] ?_; refine k_ret ?_; show retQ _ _ _ _ _ _ _; simp [*, varI]
attribute [local simp] Pl.av in
theorem spec59_err (S A : List (List Int)) (nd : Nat) (k m : Int) (kids : List Pl) (ex : List E) (cols wth : List Int) (agg rds : Int) (l : List (List Int)) (hk1 : (k == 1) = false) (hk2 : (k == 2) = false) (w w1 : Int) (A1 : List (List Int)) (hK : Flat.Sp Tryz.prog 151 [.ptr 0 0, (Pl.mk k m kids ex cols wth agg rds).av] [(.var 0, .n 3), (.cell 0 0, .av (vv (.int .i64 (w)))), (.cell 0 1, .av (.p (.ps (S.map srow)))), (.cell 0 2, .av (.sl 1 (A).length 0 (nd))), (.arr 1, .arr 67 1 ((A).map srow) 0)] (.p (.ps (l.map srow))) [(.var 0, .n 3), (.cell 0 0, .av (vv (.int .i64 (w1)))), (.cell 0 1, .av (.p (.ps (S.map srow)))), (.cell 0 2, .av (.sl 1 (A1).length 0 (nd))), (.arr 1, .arr 67 1 ((A1).map srow) 0)]) (hw1 : (w1 != 0) = true) : Flat.Sp Tryz.prog 67 [.ptr 0 0, (Pl.mk k m kids ex cols wth agg rds).av] [(.var 0, .n 3), (.cell 0 0, .av (vv (.int .i64 (w)))), (.cell 0 1, .av (.p (.ps (S.map srow)))), (.cell 0 2, .av (.sl 1 (A).length 0 (nd))), (.arr 1, .arr 67 1 ((A).map srow) 0)] (.p (.ps ([].map trow))) [(.var 0, .n 3), (.cell 0 0, .av (vv (.int .i64 (w1)))), (.cell 0 1, .av (.p (.ps (S.map srow)))), (.cell 0 2, .av (.sl 1 (A1).length 0 (nd))), (.arr 1, .arr 67 1 ((A1).map srow) 0)] := by
 refine sk Tryz.func67 ?_; intro F G hn hG; refine srp 1000 [0,1,3,64,65,85,86,108,109,123,124,125] ?_; refine sq ?_; refine srp 2000 [0,1,3,9,10,64,65,85,86,108,109,123,124,125] ?_; refine k_block ?_; refine srp 3000 [0,1,3,9,10,12,13,64,65,85,86,108,109,123,124,125] ?_; refine ce ?_; refine srp 5000 [0,1,3,9,21,22,23,64,65,85,86,108,109,123,124,125] ?_; refine ce ?_; refine k_skip ?_; refine k_nil ?_; show AK _ _ _ _ _ _; refine src 9000 ?_; refine oc id (hK) ?_; refine oe 9100 ?_; refine onp [0,1,3,9,46,64,65,85,86,108,109,123,124,125] ?_; refine sq ?_; refine srp 10000 [0,1,3,9,51,64,65,85,86,108,109,123,124,125] ?_; refine ct ?_; refine srp 11000 [0,1,3,9,52,64,65,85,86,108,109,123,124,125] ?_; refine k_ret ?_; show retQ _ _ _ _ _ _ _; simp [*]
attribute [local simp] Pl.av in
theorem spec59_3 (S A : List (List Int)) (nd : Nat) (m : Int) (kids : List Pl) (ex : List E) (cols wth : List Int) (agg rds : Int) (o : List Int) (ho8 : o.length ≤ 8) (he : ex.length ≤ Bnd) (w w1 : Int) (A1 : List (List Int)) (hK : Flat.Sp Tryz.prog 151 [.ptr 0 0, (Pl.mk 3 m kids ex cols wth agg rds).av] [(.var 0, .n 3), (.cell 0 0, .av (vv (.int .i64 (w)))), (.cell 0 1, .av (.p (.ps (S.map srow)))), (.cell 0 2, .av (.sl 1 (A).length 0 (nd))), (.arr 1, .arr 67 1 ((A).map srow) 0)] (.p (.ps ([srow o]))) [(.var 0, .n 3), (.cell 0 0, .av (vv (.int .i64 (w1)))), (.cell 0 1, .av (.p (.ps (S.map srow)))), (.cell 0 2, .av (.sl 1 (A1).length 0 (nd))), (.arr 1, .arr 67 1 ((A1).map srow) 0)]) (hw1 : (w1 != 0) = false)  : Flat.Sp Tryz.prog 67 [.ptr 0 0, (Pl.mk 3 m kids ex cols wth agg rds).av] [(.var 0, .n 3), (.cell 0 0, .av (vv (.int .i64 (w)))), (.cell 0 1, .av (.p (.ps (S.map srow)))), (.cell 0 2, .av (.sl 1 (A).length 0 (nd))), (.arr 1, .arr 67 1 ((A).map srow) 0)] (.p (.ps ((ex.map (fun e => (inferE o e).1)).map trow))) [(.var 0, .n 3), (.cell 0 0, .av (vv (.int .i64 (unlessF (exsW o ex w1) (decide (((ex.map (fun e => (inferE o e).1)).length : Int) ≤ 8)) 2)))), (.cell 0 1, .av (.p (.ps (S.map srow)))), (.cell 0 2, .av (.sl 1 (A1).length 0 (nd))), (.arr 1, .arr 67 1 ((A1).map srow) 0)] := by
 refine sk Tryz.func67 ?_; intro F G hn hG; have hol : o.length ≤ Flat.lim := Nat.le_trans ho8 (by simp [Flat.lim])
 have hmm : (ex.map (fun e => (inferE o e).1)).map trow = ex.map (fun e => [PV.v (.int .u8 (inferE o e).1)]) := by simp [trow, Function.comp_def]
 refine srp 1000 [0,1,3,64,65,85,86,108,109,123,124,125] ?_; refine sq ?_; refine srp 2000 [0,1,3,9,10,64,65,85,86,108,109,123,124,125] ?_; refine k_block ?_; refine srp 3000 [0,1,3,9,10,12,13,64,65,85,86,108,109,123,124,125] ?_; refine ce ?_; refine srp 5000 [0,1,3,9,21,22,23,64,65,85,86,108,109,123,124,125] ?_; refine ce ?_; refine k_skip ?_; refine k_nil ?_; show AK _ _ _ _ _ _; refine src 9000 ?_; refine oc id (hK) ?_; refine oe 9100 ?_; refine onp [0,1,3,9,46,64,65,85,86,108,109,123,124,125] ?_; refine sq ?_; refine srp 10000 [0,1,3,9,51,64,65,85,86,108,109,123,124,125] ?_; refine ce ?_; refine k_skip ?_; refine sq ?_; refine rg 12000 ?_ (h := by simp [*, srow]; exact is_rfl _)
 refine pr [0,1,3,9,55,64,65,85,86,108,109,123,124,125] ?_; refine sq ?_; refine srp 13000 [0,1,3,9,56,64,65,85,86,108,109,123,124,125] ?_; refine k_block ?_; refine srp 15000 [0,1,3,9,56,64,65,66,67,85,86,108,109,123,124,125] ?_; refine ct ?_; refine rc 16000 ?_; refine oc id (spec111 S A1 nd o hol ex he w1) ?_; refine oe 16100 ?_; refine on ?_; refine k_nil ?_; show AK _ _ _ _ _ _; refine sq ?_; refine dr ?_; refine de 25000 ?_; refine dc id (spec112 S A1 nd (exsW o ex w1) (decide (((ex.map (fun e => (inferE o e).1)).length : Int) ≤ 8)) 2) ?_
 refine dn ?_; refine pr [4,5,6,7,124,125] ?_; refine srp 26000 [4,5] ?_; refine k_ret ?_; show retQ _ _ _ _ _ _ _; simp [*]
attribute [local simp] Pl.av in
theorem spec59_4 (S A : List (List Int)) (nd : Nat) (m : Int) (kids : List Pl) (e : E) (cols wth : List Int) (agg rds : Int) (o : List Int) (ho8 : o.length ≤ 8) (w w1 : Int) (A1 : List (List Int)) (hK : Flat.Sp Tryz.prog 151 [.ptr 0 0, (Pl.mk 4 m kids [e] cols wth agg rds).av] [(.var 0, .n 3), (.cell 0 0, .av (vv (.int .i64 (w)))), (.cell 0 1, .av (.p (.ps (S.map srow)))), (.cell 0 2, .av (.sl 1 (A).length 0 (nd))), (.arr 1, .arr 67 1 ((A).map srow) 0)] (.p (.ps ([srow o]))) [(.var 0, .n 3), (.cell 0 0, .av (vv (.int .i64 (w1)))), (.cell 0 1, .av (.p (.ps (S.map srow)))), (.cell 0 2, .av (.sl 1 (A1).length 0 (nd))), (.arr 1, .arr 67 1 ((A1).map srow) 0)]) (hw1 : (w1 != 0) = false)  : Flat.Sp Tryz.prog 67 [.ptr 0 0, (Pl.mk 4 m kids [e] cols wth agg rds).av] [(.var 0, .n 3), (.cell 0 0, .av (vv (.int .i64 (w)))), (.cell 0 1, .av (.p (.ps (S.map srow)))), (.cell 0 2, .av (.sl 1 (A).length 0 (nd))), (.arr 1, .arr 67 1 ((A).map srow) 0)] (.p (.ps ((o).map trow))) [(.var 0, .n 3), (.cell 0 0, .av (vv (.int .i64 (unlessF (unlessF (exsW o [e] w1) ((inferE o e).1 == 1) 11) (decide (((o).length : Int) ≤ 8)) 2)))), (.cell 0 1, .av (.p (.ps (S.map srow)))), (.cell 0 2, .av (.sl 1 (A1).length 0 (nd))), (.arr 1, .arr 67 1 ((A1).map srow) 0)] := by
 refine sk Tryz.func67 ?_; intro F G hn hG; have hol : o.length ≤ Flat.lim := Nat.le_trans ho8 (by simp [Flat.lim])
 refine srp 1000 [0,1,3,64,65,85,86,108,109,123,124,125] ?_; refine sq ?_; refine srp 2000 [0,1,3,9,10,64,65,85,86,108,109,123,124,125] ?_; refine k_block ?_; refine srp 3000 [0,1,3,9,10,12,13,64,65,85,86,108,109,123,124,125] ?_; refine ce ?_; refine srp 5000 [0,1,3,9,21,22,23,64,65,85,86,108,109,123,124,125] ?_; refine ce ?_; refine k_skip ?_; refine k_nil ?_; show AK _ _ _ _ _ _; refine src 9000 ?_; refine oc id (hK) ?_; refine oe 9100 ?_; refine onp [0,1,3,9,46,64,65,85,86,108,109,123,124,125] ?_; refine sq ?_; refine srp 10000 [0,1,3,9,51,64,65,85,86,108,109,123,124,125] ?_; refine ce ?_; refine k_skip ?_; refine sq ?_; refine rg 12000 ?_ (h := by simp [*, srow]; exact is_rfl _)
 refine pr [0,1,3,9,55,64,65,85,86,108,109,123,124,125] ?_; refine sq ?_; refine srp 13000 [0,1,3,9,56,64,65,85,86,108,109,123,124,125] ?_; refine k_block ?_; refine srp 15000 [0,1,3,9,56,64,65,66,67,85,86,108,109,123,124,125] ?_; refine ce ?_; refine srp 17000 [0,1,3,9,56,64,72,73,74,85,86,108,109,123,124,125] ?_; refine ct ?_; refine dr ?_; refine de 18000 ?_; refine dc id (spec111 S A1 nd o hol [e] (by simp [Bnd]) w1) ?_
 refine de 18100 ?_; refine dc id (spec112 S A1 nd (exsW o [e] w1) ((inferE o e).1 == 1) 11) ?_; refine dn ?_; refine k_nil ?_; show AK _ _ _ _ _ _; refine sq ?_; refine dr ?_; refine de 25000 ?_; refine dc id (spec112 S A1 nd (unlessF (exsW o [e] w1) ((inferE o e).1 == 1) 11) (decide (((o).length : Int) ≤ 8)) 2) ?_; refine dn ?_; refine pr [4,5,6,7,124,125] ?_; refine srp 26000 [4,5] ?_; refine k_ret ?_; show retQ _ _ _ _ _ _ _; simp [*]
attribute [local simp] Pl.av in
theorem spec59_7 (S A : List (List Int)) (nd : Nat) (m : Int) (kids : List Pl) (ex : List E) (cols wth : List Int) (agg rds : Int) (o1 o2 : List Int) (ho1 : o1.length ≤ 8) (ho2 : o2.length ≤ 8) (hc : cols.length ≤ Bnd) (hw : wth.length ≤ Bnd) (w w1 : Int) (A1 : List (List Int)) (hK : Flat.Sp Tryz.prog 151 [.ptr 0 0, (Pl.mk 7 m kids ex cols wth agg rds).av] [(.var 0, .n 3), (.cell 0 0, .av (vv (.int .i64 (w)))), (.cell 0 1, .av (.p (.ps (S.map srow)))), (.cell 0 2, .av (.sl 1 (A).length 0 (nd))), (.arr 1, .arr 67 1 ((A).map srow) 0)] (.p (.ps ([srow o1, srow o2]))) [(.var 0, .n 3), (.cell 0 0, .av (vv (.int .i64 (w1)))), (.cell 0 1, .av (.p (.ps (S.map srow)))), (.cell 0 2, .av (.sl 1 (A1).length 0 (nd))), (.arr 1, .arr 67 1 ((A1).map srow) 0)]) (hw1 : (w1 != 0) = false)  : Flat.Sp Tryz.prog 67 [.ptr 0 0, (Pl.mk 7 m kids ex cols wth agg rds).av] [(.var 0, .n 3), (.cell 0 0, .av (vv (.int .i64 (w)))), (.cell 0 1, .av (.p (.ps (S.map srow)))), (.cell 0 2, .av (.sl 1 (A).length 0 (nd))), (.arr 1, .arr 67 1 ((A).map srow) 0)] (.p (.ps ((o1 ++ o2).map trow))) [(.var 0, .n 3), (.cell 0 0, .av (vv (.int .i64 (unlessF (unlessF (atJ o2 wth (atJ o1 cols w1).2).2 ((atJ o1 cols w1).1 == (atJ o2 wth (atJ o1 cols w1).2).1) 11) (decide (((o1 ++ o2).length : Int) ≤ 8)) 2)))), (.cell 0 1, .av (.p (.ps (S.map srow)))), (.cell 0 2, .av (.sl 1 (A1).length 0 (nd))), (.arr 1, .arr 67 1 ((A1).map srow) 0)] := by
 refine sk Tryz.func67 ?_; intro F G hn hG; have hla := atJ_len o1 cols w1; have hlb := atJ_len o2 wth (atJ o1 cols w1).2; have ht1 : ((atJ o1 cols w1).1.map trow).take (atJ o1 cols w1).1.length = (atJ o1 cols w1).1.map trow := List.take_of_length_le (by simp)
 have ht2 : ((atJ o2 wth (atJ o1 cols w1).2).1.map trow).take (atJ o2 wth (atJ o1 cols w1).2).1.length = (atJ o2 wth (atJ o1 cols w1).2).1.map trow := List.take_of_length_le (by simp)
 refine srp 1000 [0,1,3,64,65,85,86,108,109,123,124,125] ?_; refine sq ?_; refine srp 2000 [0,1,3,9,10,64,65,85,86,108,109,123,124,125] ?_; refine k_block ?_; refine srp 3000 [0,1,3,9,10,12,13,64,65,85,86,108,109,123,124,125] ?_; refine ce ?_; refine srp 5000 [0,1,3,9,21,22,23,64,65,85,86,108,109,123,124,125] ?_; refine ce ?_; refine k_skip ?_; refine k_nil ?_; show AK _ _ _ _ _ _; refine src 9000 ?_; refine oc id (hK) ?_; refine oe 9100 ?_; refine onp [0,1,3,9,46,64,65,85,86,108,109,123,124,125] ?_; refine sq ?_; refine srp 10000 [0,1,3,9,51,64,65,85,86,108,109,123,124,125] ?_; refine ce ?_; refine k_skip ?_; refine sq ?_; refine rg 12000 ?_ (h := by simp [*, srow]; exact is_rfl _)
 refine pr [0,1,3,9,55,64,65,85,86,108,109,123,124,125] ?_; refine sq ?_; refine srp 13000 [0,1,3,9,56,64,65,85,86,108,109,123,124,125] ?_; refine k_block ?_; refine srp 15000 [0,1,3,9,56,64,65,66,67,85,86,108,109,123,124,125] ?_; refine ce ?_; refine srp 17000 [0,1,3,9,56,64,72,73,74,85,86,108,109,123,124,125] ?_; refine ce ?_; refine srp 19000 [0,1,3,9,56,64,86,87,88,108,109,123,124,125] ?_; refine ct ?_; refine sq ?_; refine dr ?_; refine de 20000 ?_ (h := by simp [*, srow]; exact is_rfl _)
 refine dc (fun k => if k = 900 then 20500 else k) (spec113 S A1 nd o1 cols hc w1) ?_ (hg := by simp [*, srow]) (hf := by simp [*, srow]; exact is_rfl _) (hx := by simp [*, srow]; exact is_rfl _) (hargs := by simp [*, srow]) (hB := by simp [*, srow]) (hL := by simp [*, srow]) (hd := by simp [*, srow]; exact is_rfl _)
 refine de 20100 ?_ (h := by simp [*, srow]; exact is_rfl _)
 refine dc (fun k => if k = 900 then 20600 else k) (spec113 S A1 nd o2 wth hw (atJ o1 cols w1).2) ?_ (hg := by simp [*, srow]) (hf := by simp [*, srow]; exact is_rfl _) (hx := by simp [*, srow]; exact is_rfl _) (hargs := by simp [*, srow]) (hB := by simp [*, srow]) (hL := by simp [*, srow]) (hd := by simp [*, srow]; exact is_rfl _)
 refine de 20200 ?_ (h := by simp [*, srow]; exact is_rfl _)
 refine dn ?_; refine pr [0,1,4,9,102,108,109,111,117,123,124,125] ?_; refine fz 20500 ?_; refine fz 20600 ?_; refine sq ?_; refine dr ?_; refine de 21000 ?_; refine dc id (spec114 (atJ o1 cols w1).1 (atJ o2 wth (atJ o1 cols w1).2).1 (Bnd_lim (Nat.le_trans hla hc))) ?_; refine dc id (spec112 S A1 nd (atJ o2 wth (atJ o1 cols w1).2).2 ((atJ o1 cols w1).1 == (atJ o2 wth (atJ o1 cols w1).2).1) 11) ?_; refine dn ?_; refine pr [0,1,4,7,109,111,117,123,124,125] ?_; refine rc 22000 ?_ (h := by simp [*, srow]; exact is_rfl _)
 refine oc id (spec115 o1 o2 ho1 ho2) ?_ (hg := by simp [*, srow]) (hf := by simp [*, srow]; exact is_rfl _) (hx := by simp [*, srow]; exact is_rfl _) (hargs := by simp [*, srow]) (hB := by simp [*, srow]) (hL := by simp [*, srow]) (hd := by simp [*, srow]; exact is_rfl _)
 refine oe 22100 ?_ (h := by simp [*, srow]; exact is_rfl _)
 refine on ?_; refine k_nil ?_; show AK _ _ _ _ _ _; refine sq ?_; refine dr ?_; refine de 25000 ?_; refine dc id (spec112 S A1 nd (unlessF (atJ o2 wth (atJ o1 cols w1).2).2 ((atJ o1 cols w1).1 == (atJ o2 wth (atJ o1 cols w1).2).1) 11) (decide (((o1 ++ o2).length : Int) ≤ 8)) 2) ?_; refine dn ?_; refine pr [4,5,6,7,124,125] ?_; refine srp 26000 [4,5] ?_; refine k_ret ?_; show retQ _ _ _ _ _ _ _; simp [*]
attribute [local simp] Pl.av in
theorem spec59_8 (S A : List (List Int)) (nd : Nat) (m : Int) (kids : List Pl) (ex : List E) (cols wth : List Int) (agg rds : Int) (o : List Int) (ho8 : o.length ≤ 8) (hc : cols.length ≤ Bnd) (w w1 : Int) (A1 : List (List Int)) (hK : Flat.Sp Tryz.prog 151 [.ptr 0 0, (Pl.mk 8 m kids ex cols wth agg rds).av] [(.var 0, .n 3), (.cell 0 0, .av (vv (.int .i64 (w)))), (.cell 0 1, .av (.p (.ps (S.map srow)))), (.cell 0 2, .av (.sl 1 (A).length 0 (nd))), (.arr 1, .arr 67 1 ((A).map srow) 0)] (.p (.ps ([srow o]))) [(.var 0, .n 3), (.cell 0 0, .av (vv (.int .i64 (w1)))), (.cell 0 1, .av (.p (.ps (S.map srow)))), (.cell 0 2, .av (.sl 1 (A1).length 0 (nd))), (.arr 1, .arr 67 1 ((A1).map srow) 0)]) (hw1 : (w1 != 0) = false)  : Flat.Sp Tryz.prog 67 [.ptr 0 0, (Pl.mk 8 m kids ex cols wth agg rds).av] [(.var 0, .n 3), (.cell 0 0, .av (vv (.int .i64 (w)))), (.cell 0 1, .av (.p (.ps (S.map srow)))), (.cell 0 2, .av (.sl 1 (A).length 0 (nd))), (.arr 1, .arr 67 1 ((A).map srow) 0)] (.p (.ps (((redR o cols m agg w1).1).map trow))) [(.var 0, .n 3), (.cell 0 0, .av (vv (.int .i64 (unlessF ((redR o cols m agg w1).2) (decide ((((redR o cols m agg w1).1).length : Int) ≤ 8)) 2)))), (.cell 0 1, .av (.p (.ps (S.map srow)))), (.cell 0 2, .av (.sl 1 (A1).length 0 (nd))), (.arr 1, .arr 67 1 ((A1).map srow) 0)] := by
 refine sk Tryz.func67 ?_; intro F G hn hG; refine srp 1000 [0,1,3,64,65,85,86,108,109,123,124,125] ?_; refine sq ?_; refine srp 2000 [0,1,3,9,10,64,65,85,86,108,109,123,124,125] ?_; refine k_block ?_; refine srp 3000 [0,1,3,9,10,12,13,64,65,85,86,108,109,123,124,125] ?_; refine ce ?_; refine srp 5000 [0,1,3,9,21,22,23,64,65,85,86,108,109,123,124,125] ?_; refine ce ?_; refine k_skip ?_; refine k_nil ?_; show AK _ _ _ _ _ _; refine src 9000 ?_; refine oc id (hK) ?_; refine oe 9100 ?_; refine onp [0,1,3,9,46,64,65,85,86,108,109,123,124,125] ?_; refine sq ?_; refine srp 10000 [0,1,3,9,51,64,65,85,86,108,109,123,124,125] ?_; refine ce ?_; refine k_skip ?_; refine sq ?_; refine rg 12000 ?_ (h := by simp [*, srow]; exact is_rfl _)
 refine pr [0,1,3,9,55,64,65,85,86,108,109,123,124,125] ?_; refine sq ?_; refine srp 13000 [0,1,3,9,56,64,65,85,86,108,109,123,124,125] ?_; refine k_block ?_; refine srp 15000 [0,1,3,9,56,64,65,66,67,85,86,108,109,123,124,125] ?_; refine ce ?_; refine srp 17000 [0,1,3,9,56,64,72,73,74,85,86,108,109,123,124,125] ?_; refine ce ?_; refine srp 19000 [0,1,3,9,56,64,86,87,88,108,109,123,124,125] ?_; refine ce ?_; refine srp 23000 [0,1,3,7,57,64,111,112,113,123,124,125] ?_; refine ct ?_; refine rc 24000 ?_; refine oc id (spec116 S A1 nd 8 m kids ex cols wth agg rds hc o w1) ?_; refine oe 24100 ?_; refine on ?_; refine k_nil ?_; show AK _ _ _ _ _ _; refine sq ?_; refine dr ?_; refine de 25000 ?_; refine dc id (spec112 S A1 nd ((redR o cols m agg w1).2) (decide ((((redR o cols m agg w1).1).length : Int) ≤ 8)) 2) ?_; refine dn ?_; refine pr [4,5,6,7,124,125] ?_; refine srp 26000 [4,5] ?_; refine k_ret ?_; show retQ _ _ _ _ _ _ _; simp [*]
attribute [local simp] Pl.av in
theorem spec59_d (S A : List (List Int)) (nd : Nat) (k m : Int) (kids : List Pl) (ex : List E) (cols wth : List Int) (agg rds : Int) (o : List Int) (q : List (List Int)) (hql : (o :: q).length ≤ Flat.lim) (hq8 : ∀ s ∈ o :: q, s.length ≤ 8) (hk1 : (k == 1) = false) (hk2 : (k == 2) = false) (hk3 : (k == 3) = false) (hk4 : (k == 4) = false) (hk7 : (k == 7) = false) (hk8 : (k == 8) = false) (w w1 : Int) (A1 : List (List Int)) (hK : Flat.Sp Tryz.prog 151 [.ptr 0 0, (Pl.mk k m kids ex cols wth agg rds).av] [(.var 0, .n 3), (.cell 0 0, .av (vv (.int .i64 (w)))), (.cell 0 1, .av (.p (.ps (S.map srow)))), (.cell 0 2, .av (.sl 1 (A).length 0 (nd))), (.arr 1, .arr 67 1 ((A).map srow) 0)] (.p (.ps ((o :: q).map srow))) [(.var 0, .n 3), (.cell 0 0, .av (vv (.int .i64 (w1)))), (.cell 0 1, .av (.p (.ps (S.map srow)))), (.cell 0 2, .av (.sl 1 (A1).length 0 (nd))), (.arr 1, .arr 67 1 ((A1).map srow) 0)]) (hw1 : (w1 != 0) = false)  : Flat.Sp Tryz.prog 67 [.ptr 0 0, (Pl.mk k m kids ex cols wth agg rds).av] [(.var 0, .n 3), (.cell 0 0, .av (vv (.int .i64 (w)))), (.cell 0 1, .av (.p (.ps (S.map srow)))), (.cell 0 2, .av (.sl 1 (A).length 0 (nd))), (.arr 1, .arr 67 1 ((A).map srow) 0)] (.p (.ps ((o).map trow))) [(.var 0, .n 3), (.cell 0 0, .av (vv (.int .i64 (unlessF (unlessF w1 (!((o :: q).any (neS o))) 11) (decide (((o).length : Int) ≤ 8)) 2)))), (.cell 0 1, .av (.p (.ps (S.map srow)))), (.cell 0 2, .av (.sl 1 (A1).length 0 (nd))), (.arr 1, .arr 67 1 ((A1).map srow) 0)] := by
 refine sk Tryz.func67 ?_; intro F G hn hG; refine srp 1000 [0,1,3,64,65,85,86,108,109,123,124,125] ?_; refine sq ?_; refine srp 2000 [0,1,3,9,10,64,65,85,86,108,109,123,124,125] ?_; refine k_block ?_; refine srp 3000 [0,1,3,9,10,12,13,64,65,85,86,108,109,123,124,125] ?_; refine ce ?_; refine srp 5000 [0,1,3,9,21,22,23,64,65,85,86,108,109,123,124,125] ?_; refine ce ?_; refine k_skip ?_; refine k_nil ?_; show AK _ _ _ _ _ _; refine src 9000 ?_; refine oc id (hK) ?_; refine oe 9100 ?_; refine onp [0,1,3,9,46,64,65,85,86,108,109,123,124,125] ?_; refine sq ?_; refine srp 10000 [0,1,3,9,51,64,65,85,86,108,109,123,124,125] ?_; refine ce ?_; refine k_skip ?_; refine sq ?_; refine rg 12000 ?_ (h := by simp [*, srow]; exact is_rfl _)
 refine pr [0,1,3,9,55,64,65,85,86,108,109,123,124,125] ?_; refine sq ?_; refine srp 13000 [0,1,3,9,56,64,65,85,86,108,109,123,124,125] ?_; refine k_block ?_; refine srp 15000 [0,1,3,9,56,64,65,66,67,85,86,108,109,123,124,125] ?_; refine ce ?_; refine srp 17000 [0,1,3,9,56,64,72,73,74,85,86,108,109,123,124,125] ?_; refine ce ?_; refine srp 19000 [0,1,3,9,56,64,86,87,88,108,109,123,124,125] ?_; refine ce ?_; refine srp 23000 [0,1,3,7,57,64,111,112,113,123,124,125] ?_; refine ce ?_; refine dr ?_; refine de 14000 ?_; refine dk [12003] (fun _ => 12003) (spec62b (o :: q) o hql hq8) ?_
 refine de 14100 ?_; refine dc id (spec112 S A1 nd w1 (!((o :: q).any (neS o))) 11) ?_; refine dn ?_; refine k_nil ?_; show AK _ _ _ _ _ _; refine sq ?_; refine dr ?_; refine de 25000 ?_; refine dc id (spec112 S A1 nd (unlessF w1 (!((o :: q).any (neS o))) 11) (decide (((o).length : Int) ≤ 8)) 2) ?_; refine dn ?_; refine pr [4,5,6,7,124,125] ?_; refine srp 26000 [4,5] ?_; refine k_ret ?_; show retQ _ _ _ _ _ _ _; simp [*]
end
section
theorem formed_shape {k m : Int} {nk : Nat} {ex : List E} {cols wth : List Int} {agg rds : Int} (h : formedP k m nk ex cols wth agg rds = true) : okP1 k nk = true ∧ (k = 4 → ex.length = 1) := by
 have h2 : okP2 k m nk ex cols wth agg rds = true := by
   unfold formedP at h; split at h
   · exact (Bool.and_eq_true _ _ ▸ h).1
   · split at h
     · exact (Bool.and_eq_true _ _ ▸ h).1
     · split at h
       · exact (Bool.and_eq_true _ _ ▸ h).1
       · exact h
 refine ⟨(Bool.and_eq_true _ _ ▸ h2).1, ?_⟩; rintro rfl; have : (okP2 4 m nk ex cols wth agg rds && ((ex.length : Int) == 1)) = true := h; simp only [Bool.and_eq_true, beq_iff_eq] at this; omega
theorem kinds {k : Int} {nk : Nat} (h : okP1 k nk = true) : ((k = 1 ∨ k = 2) ∧ nk = 0) ∨ ((k = 3 ∨ k = 4 ∨ k = 8) ∧ nk = 1) ∨ (k = 7 ∧ nk = 2) ∨ ((k == 1) = false ∧ (k == 2) = false ∧ (k == 3) = false ∧ (k == 4) = false ∧ (k == 7) = false ∧ (k == 8) = false ∧ 0 < nk ∧ ((k == 10) = true → nk = 2)) := by
 simp only [okP1, Bool.and_eq_true, decide_eq_true_eq] at h; obtain ⟨h1, h2, h3⟩ := h; have : k = 1 ∨ k = 2 ∨ k = 3 ∨ k = 4 ∨ k = 5 ∨ k = 6 ∨ k = 7 ∨ k = 8 ∨ k = 9 ∨ k = 10 := by omega
 rcases this with rfl | rfl | rfl | rfl | rfl | rfl | rfl | rfl | rfl | rfl <;> simp [manyP] at h3 ⊢ <;> omega
theorem one_of_len {α : Type} {l : List α} (h : l.length = 1) : ∃ x, l = [x] := List.length_eq_one_iff.1 h
theorem jdg_other (S : List (List Int)) {k : Int} (h1 : (k == 1) = false) (h2 : (k == 2) = false) (m : Int) (kids : List Pl) (ex : List E) (cols wth : List Int) (agg rds : Int) (nd : Nat) (w : Int) (A : List (List Int)) {l : List (List Int)} {w1 : Int} {A1 : List (List Int)} (hr : jdgK S k kids nd w A = (l, w1, A1)) :
   jdg S (.mk k m kids ex cols wth agg rds) nd w A = if w1 != 0 then ([], w1, A1) else ((finJ k m ex cols wth agg l w1).1, (finJ k m ex cols wth agg l w1).2, A1) := by
 rw [jdg]; simp only [h1, h2, Bool.false_eq_true, if_false]; unfold jdgK at hr; rw [hr]
def JSp (S : List (List Int)) (p : Pl) (d : Nat) : Prop := ∀ (nd : Nat) (w : Int) (A : List (List Int)), nd < d → nd ≤ A.length → A.length ≤ 16 → Sh A nd w → Flat.Sp Tryz.prog 67 [.ptr 0 0, p.av] [(.var 0, .n 3), (.cell 0 0, .av (vv (.int .i64 (w)))), (.cell 0 1, .av (.p (.ps (S.map srow)))), (.cell 0 2, .av (.sl 1 (A).length 0 (nd))), (.arr 1, .arr 67 1 ((A).map srow) 0)] (.p (.ps ((jdg S p nd w A).1.map trow))) [(.var 0, .n 3), (.cell 0 0, .av (vv (.int .i64 ((jdg S p nd w A).2.1)))), (.cell 0 1, .av (.p (.ps (S.map srow)))), (.cell 0 2, .av (.sl 1 ((jdg S p nd w A).2.2).length 0 (nd))), (.arr 1, .arr 67 1 (((jdg S p nd w A).2.2).map srow) 0)]
theorem spec59 (S : List (List Int)) (hS : ∀ s ∈ S, s.length ≤ 8) : ∀ (p : Pl), p.bnd → ∀ d, p.good d → JSp S p d := by
 refine Pl.ind fun k m kids ex cols wth agg rds ih hb d hg nd w A hnd hnA hA hSh => ?_
 rw [Pl.good] at hg; obtain ⟨hd, hf, hex, hgl⟩ := hg; rw [Pl.bnd] at hb; obtain ⟨hbk, hbe, hbc, hbw, hbl⟩ := hb; obtain ⟨hok, he4⟩ := formed_shape hf; have ih' : ∀ x ∈ kids, JSp S x (d + 1) := fun x hx => ih x hx (Pl.bndL_mem hbl x hx) (d + 1) (Pl.goodL_mem hgl x hx)
 have hK2 : (k == 10) = true → kids.length = 2 := by
   intro h10; obtain rfl : k = 10 := eq_of_beq h10; have := (kinds hok); simp at this; exact this.2
 have hK := spec110 S A nd k m kids ex cols wth agg rds hK2 hbk hS d hd hgl hnd hnA hA w hSh ih'; have hrow := jdgK_rows S k nd kids w A; have hLO := jdgK_ok hS (k := k) hd hgl hnd hnA hA hSh; obtain ⟨l, w1, A1, hr⟩ : ∃ l w1 A1, jdgK S k kids nd w A = (l, w1, A1) := ⟨_, _, _, rfl⟩; rw [hr] at hK hrow hLO; simp only at hK hrow; rcases kinds hok with ⟨rfl | rfl, hn⟩ | ⟨h348, hn⟩ | ⟨rfl, hn⟩ | ⟨h1, h2, h3, h4, h7, h8, hn, -⟩
 · have : jdg S (.mk 1 m kids ex cols wth agg rds) nd w A = (oneJ S m, oneW S m w, A) := by rw [jdg]; rfl
   rw [this]; exact spec59_1 S A nd m kids ex cols wth agg rds w
 · cases hm : decide (m < 0) with
   | true =>
     have : jdg S (.mk 2 m kids ex cols wth agg rds) nd w A = ([], unlessF w false 1, A) := by rw [jdg, hm]; rfl
     rw [this]; exact spec59_2n S A nd m kids ex cols wth agg rds w hm
   | false =>
     have : jdg S (.mk 2 m kids ex cols wth agg rds) nd w A = (oneJ (A.take nd) (varI nd m), oneW (A.take nd) (varI nd m) w, A) := by rw [jdg, hm]; rfl
     rw [this]; exact spec59_2 S A nd m kids ex cols wth agg rds w hnA hm
 · have h1 : (k == 1) = false := by rcases h348 with rfl | rfl | rfl <;> rfl
   have h2 : (k == 2) = false := by rcases h348 with rfl | rfl | rfl <;> rfl
   rw [jdg_other S h1 h2 m kids ex cols wth agg rds nd w A hr]
   cases hw : (w1 != 0) with
   | true => exact spec59_err S A nd k m kids ex cols wth agg rds l h1 h2 w w1 A1 hK hw
   | false =>
     obtain ⟨o, rfl⟩ := one_of_len (hrow.trans hn); have h8 := (hLO (by simpa using hw)).2
     have ho := h8 o (by simp)
     simp only [Bool.false_eq_true, if_false]; rcases h348 with rfl | rfl | rfl
     · exact spec59_3 S A nd m kids ex cols wth agg rds o ho hbe w w1 A1 hK hw
     · obtain ⟨e, rfl⟩ := one_of_len (he4 rfl)
       exact spec59_4 S A nd m kids e cols wth agg rds o ho w w1 A1 hK hw
     · exact spec59_8 S A nd m kids ex cols wth agg rds o ho hbc w w1 A1 hK hw
 · rw [jdg_other S rfl rfl m kids ex cols wth agg rds nd w A hr]
   cases hw : (w1 != 0) with
   | true => exact spec59_err S A nd 7 m kids ex cols wth agg rds l rfl rfl w w1 A1 hK hw
   | false =>
     obtain ⟨o1, o2, rfl⟩ := Flat.two_of_length (hrow.trans hn); have h8 := (hLO (by simpa using hw)).2
     simp only [Bool.false_eq_true, if_false]; exact spec59_7 S A nd m kids ex cols wth agg rds o1 o2 (h8 o1 (by simp)) (h8 o2 (by simp)) hbc hbw w w1 A1 hK hw
 · rw [jdg_other S h1 h2 m kids ex cols wth agg rds nd w A hr]
   cases hw : (w1 != 0) with
   | true => exact spec59_err S A nd k m kids ex cols wth agg rds l h1 h2 w w1 A1 hK hw
   | false =>
     obtain ⟨o, q, rfl⟩ : ∃ o q, l = o :: q := by
       cases l with
       | nil => simp at hrow; omega
       | cons o q => exact ⟨o, q, rfl⟩
     have hl8 := (hLO (by simpa using hw)).2
     simp only [Bool.false_eq_true, if_false]
     have hfin : finJ k m ex cols wth agg (o :: q) w1 = (o, unlessF (unlessF w1 (!((o :: q).any (neS o))) 11) (decide ((o.length : Int) ≤ 8)) 2) := by
       simp only [finJ, finR, h3, h4, h7, h8, Bool.false_eq_true, if_false]; rfl
     rw [hfin]; exact spec59_d S A nd k m kids ex cols wth agg rds o q (by rw [hrow]; exact Bnd_lim hbk) hl8 h1 h2 h3 h4 h7 h8 w w1 A1 hK hw
end
end Go.Proofs
end
section
set_option linter.unusedVariables false
set_option linter.unusedSimpArgs false
namespace Go.Proofs
open Go.Flat
theorem inferP_zero {ss : List (List Int)} {p : Pl} (h : (inferP ss p).2 = 0) : checkSch ss = 0 ∧ checkP p = 0 ∧ (jdg ss p 0 0 []).2.1 = 0 ∧ (inferP ss p).1 = (jdg ss p 0 0 []).1 := by
 unfold inferP at h ⊢; split at h
 · rename_i h1; simp only at h; simp [h] at h1
 · rename_i h1
   rw [if_neg h1]; split at h
   · rename_i h2; simp only at h; simp [h] at h2
   · rename_i h2
     rw [if_neg h2]; split at h
     · rename_i h3; simp only at h; simp [h] at h3
     · rename_i h3
       rw [if_neg h3]; exact ⟨by simpa using h1, by simpa using h2, by simpa using h3, rfl⟩
end Go.Proofs
end
section
namespace Go.Proofs
open Go.Flat
set_option maxRecDepth 100000
set_option linter.unusedVariables false
set_option linter.unusedSimpArgs false
attribute [local simp] Bool.and_assoc Bool.or_assoc evalG evalX efD skF guardG guardL isCall stepL evalOp ev evs lk tmpsL app AV.ok fresh vv putCells insV ins del putL place Go.Flat.look fillC fillR getCells loadF storeF binF scalarBin intBin strBin isShift shiftBin unF lenF maxF minF rowsF appendF builtinF idxF natOf sliceP sliceF optEv Flat.cut overwrite toPV toPVs constAV scalarC scalarCs AV.cells TI.isAgg allSome andAll scalarEq buildable Go.Flat.lim retQ resL resAll resOne PartOf noTmp closedIn refs refs.refsL isSomeV hasB ids leA leA.leL renA renA.renL callB refsAll backL dropIds renS LiesAt injB ownB freshB memN locId insAll leA_refl leL_refl okS frzS frzA frzA.frzL evalD feet fine updCells cellsFrom memP footRf footWf noTmpU updIds opOps opIds idsA footR footW guardTs opTs dstTs callR callW renLoc renC inBlockQ thenQ Value.oneCell' IntKind.bits IntKind.signed
section
attribute [local simp] callWk without
attribute [local simp] Pl.av inferP in
theorem spec29_mk (k m : Int) (kids : List Pl) (ex : List E) (cols wth : List Int) (agg rds : Int) (hb : (Pl.mk k m kids ex cols wth agg rds).bnd) (ss : List (List Int)) : Flat.Sp Tryz.prog 21 [(Pl.mk k m kids ex cols wth agg rds).av, .p (.ps (ss.map srow))] [] (.tup [.p (.ps ((inferP ss (Pl.mk k m kids ex cols wth agg rds)).1.map trow)), vv (.int .i64 (inferP ss (Pl.mk k m kids ex cols wth agg rds)).2)]) [] := by
 refine sk Tryz.func21 ?_; intro F G hn hG; refine srp 1000 [1,3,4,39] ?_; refine sq ?_; refine src 2000 ?_; refine oc id (spec30 ss) ?_; refine oe 2100 ?_; refine onp [1,3,4,10,12,39] ?_; refine srp 3000 [1,3,4,10,13,39] ?_; refine cd ?_ ?_
 · intro h13_1
   have h13_1 : (checkSch ss != 0) = true := by simpa using h13_1
   refine srp 4000 [1,3,4,6,7,10,15,39] ?_; refine k_ret ?_; show retQ _ _ _ _ _ _ _; simp [*]
 · intro h13_1
   have h13_1 : (checkSch ss != 0) = false := by simpa using h13_1
   have hsc := h13_1; refine k_skip ?_; refine sq ?_; refine src 5000 ?_; refine oc id (spec32 k m kids ex cols wth agg rds hb) ?_; refine oe 5100 ?_; refine onp [1,3,4,6,7,10,17,39] ?_; refine srp 6000 [1,3,4,6,7,10,18,39] ?_; refine cd ?_ ?_
   · intro h18_2
     have h18_2 : (checkP (Pl.mk k m kids ex cols wth agg rds) != 0) = true := by simpa using h18_2
     refine srp 7000 [1,3,4,6,8,10,20,39] ?_; refine k_ret ?_; show retQ _ _ _ _ _ _ _; simp [*]
   · intro h18_2
     have h18_2 : (checkP (Pl.mk k m kids ex cols wth agg rds) != 0) = false := by simpa using h18_2
     have hpc := h18_2; refine k_skip ?_; refine srp 8000 [2,3,4,6,8,10,23,39] ?_; refine ow (.cell 8002 2) 8900 67 1 ?_; refine src 9000 ?_; refine oc (fun k => if k = 0 then 8002 else if k = 1 then 8900 else k) (spec59 ss (checkSch_ok (by simpa using hsc)).2 (Pl.mk k m kids ex cols wth agg rds) hb 1 (checkP_good (by simpa using hpc)) 0 0 [] (by decide) (by decide) (by decide) (fun _ s hs => by simp at hs)) ?_
     refine oe 9100 ?_; refine onp [4,6,8,10,26,39] ?_; refine sq ?_; refine srp 10000 [4,6,8,10,31,39] ?_; refine cd ?_ ?_
     · intro h31_3
       have h31_3 : ((jdg ss (Pl.mk k m kids ex cols wth agg rds) 0 0 []).2.1 != 0) = true := by simpa using h31_3
       refine sq ?_; refine dr ?_; refine de 11000 ?_; refine dn ?_; refine pr [4,6,9,10,37,39] ?_; refine k_ret ?_; show retQ _ _ _ _ _ _ _; simp [*]
     · intro h31_3
       have h31_3 : ((jdg ss (Pl.mk k m kids ex cols wth agg rds) 0 0 []).2.1 != 0) = false := by simpa using h31_3
       have hl8 : (jdg ss (Pl.mk k m kids ex cols wth agg rds) 0 0 []).1.length ≤ Bnd := Nat.le_trans (jdg_ok (checkSch_ok (by simpa using hsc)).2 (Pl.mk k m kids ex cols wth agg rds) 1 (checkP_good (by simpa using hpc)) 0 0 [] (by decide) (by decide) (by decide) (fun _ s hs => by simp at hs) (by simpa using h31_3)).2 (by simp [Bnd])
       refine k_skip ?_; refine src 12000 ?_; refine oc id (spec60 (jdg ss (Pl.mk k m kids ex cols wth agg rds) 0 0 []).1 hl8) ?_; refine oe 12100 ?_; refine onp [4,6] ?_; refine k_ret ?_; show retQ _ _ _ _ _ _ _; simp [*]
theorem spec29 (p : Pl) (hb : p.bnd) (ss : List (List Int)) : Flat.Sp Tryz.prog 21 [p.av, .p (.ps (ss.map srow))] [] (.tup [.p (.ps ((inferP ss p).1.map trow)), vv (.int .i64 (inferP ss p).2)]) [] := by
 obtain ⟨k, m, kids, ex, cols, wth, agg, rds⟩ := p; exact spec29_mk k m kids ex cols wth agg rds hb ss
end
section
attribute [local simp] PV.up toPH toPHs
def badK (l : List Ct) : Bool := chkK l != 0
def badR (s : List Int) (c : Ct) : Bool := !((c.r.map tOf) == s)
def Sml (l : List Ct) : Prop := l.length ≤ Cap ∧ ∀ c ∈ l, c.r.length ≤ Bnd
def badAt (srcs : List (List Ct)) (ss : List (List Int)) (i : Nat) : Bool := match srcs[i]?, ss[i]? with
 | some l, some s => l.any (badR s)
 | _, _ => false
def haveR (srcs : List (List Ct)) (ss : List (List Int)) : Int :=
 if checkSch ss != 0 then checkSch ss else if srcs.any badK then 4 else if (srcs.length : Int) != ss.length then 11 else if (List.range srcs.length).any (badAt srcs ss) then 11 else 0
theorem zs133 (l : List Ct) (hl : Sml l) : Flat.Sp Tryz.prog 133 [.p (.ps (l.map Ct.row))] [] (vv (.bool (badK l))) [] := by
 refine sk Tryz.func133 ?_; intro F G hn hG; refine srp 1000 [0,1,2,6] ?_; refine src 2000 ?_; refine oc id (zs23 l hl.1 hl.2) ?_; refine oe 2100 ?_; refine onp [2,3] ?_; refine k_ret ?_; show retQ _ _ _ _ _ _ _; simp [*, badK]
attribute [local simp] lrowk in
theorem zs219 (ls : List (List Ct)) (hlen : ls.length ≤ Flat.lim) (hls : ∀ l ∈ ls, Sml l) : Flat.Sp Tryz.prog 219 [.p (.ps (ls.map lrowk)), .fn (.func 133) []] [] (vv (.int .i64 (firstP badK ls 0))) [] := by
 refine sk Tryz.func219 ?_; intro F G hn hG; refine srp 1000 [0,2,4,19] ?_; refine sq ?_; refine srp 2000 [0,2,4,6,7,19] ?_; refine k_block ?_; refine k_loop (fun n l => ∃ i, i + n = ls.length ∧ (firstP badK ls 0 = firstP badK (ls.drop i) i) ∧ l = [(.tmp 0, .av (.p (.ps (ls.map lrowk)))), (.tmp 1, .av (.fn (.func 133) [])), (.tmp 7, .av (vv (.int .i64 ls.length))), (.tmp 8, .av (vv (.int .i64 i)))]) (ls.length) hG ⟨_, ⟨by simp, by simp, by simp⟩, 0, by simp, rfl, rfl⟩ ?_
 rintro n _ ⟨i, hin, hfa, rfl⟩; have hwi : i < Flat.lim → IntKind.i64.wrap ((i : Int) + 1) = (i : Int) + 1 := wrap_succ; refine srp 3000 [0,2,4,6,7,19] ?_; refine sq ?_; refine cd ?_ ?_
 · intro h9_1
   have hlt : i < ls.length := by simpa using h9_1
   obtain ⟨x, hxe⟩ : ∃ x, ls[i] = x := ⟨_, rfl⟩; have hx : ls[i]? = some x := by simp [hlt, hxe]
   have hfd := firstP_drop (p := badK) hx; have hwi := hwi (by omega)
   refine k_skip ?_; refine sq ?_; refine k_block ?_; refine srp 4000 [0,2,4,6,7,19] ?_; refine src 5000 ?_; refine oc id (zs133 x (hls x (List.mem_of_getElem? hx))) ?_; refine onp [0,2,4,6,7,19] ?_; refine cd ?_ ?_
   · intro h16_2
     have hr : badK x = true := by simpa using h16_2
     refine srp 6000 [0,2,4,6,7,19] ?_; refine k_ret ?_; show retQ _ _ _ _ _ _ _; simp [*]
   · intro h16_2
     have hr : badK x = false := by simpa using h16_2
     refine k_skip ?_; refine k_nil ?_; show AK _ _ _ _ _ _; refine rg 7000 ?_; refine k_nil ?_; refine ⟨n - 1, by omega, _, ⟨?_, ?_, ?_⟩, i + 1, by omega, by rw [hfa, hfd, hr, if_neg (by simp)], rfl⟩ <;> simp [*]
 · intro h9_1
   have hge : ls.length ≤ i := by simpa using h9_1
   have hfe : firstP badK (ls.drop i) i = -1 := by rw [List.drop_eq_nil_of_le hge]; rfl
   refine k_exit ?_; show AK _ _ _ _ _ _; refine srp 8000 [4,5] ?_; refine k_ret ?_; show retQ _ _ _ _ _ _ _; simp [*]
attribute [local simp] firstP_any in
theorem zs132 (ls : List (List Ct)) (hlen : ls.length ≤ Flat.lim) (hls : ∀ l ∈ ls, Sml l) : Flat.Sp Tryz.prog 132 [.p (.ps (ls.map lrowk)), .fn (.func 133) []] [] (vv (.bool (ls.any badK))) [] := by
 refine sk Tryz.func132 ?_; intro F G hn hG; refine srp 1000 [0,2,4,9] ?_; refine src 2000 ?_; refine oc id (zs219 ls hlen hls) ?_; refine oe 2100 ?_; refine onp [4,5] ?_; refine k_ret ?_; show retQ _ _ _ _ _ _ _; simp [*]
attribute [local simp] Ct.av Ct.row srow badR in
theorem zs135 (c : Ct) (hc : c.r.length ≤ Flat.lim) (ss : List (List Int)) (i : Nat) (s : List Int) (hi : ss[i]? = some s)  : Flat.Sp Tryz.prog 135 [c.av, .ptr 0 0, .ptr 1 0] [(.var 0, .n 1), (.cell 0 0, .av (.p (.ps (ss.map srow)))), (.var 1, .n 1), (.cell 1 0, .av (vv (.int .i64 i)))] (vv (.bool (badR s c))) [(.var 0, .n 1), (.cell 0 0, .av (.p (.ps (ss.map srow)))), (.var 1, .n 1), (.cell 1 0, .av (vv (.int .i64 i)))] := by
 refine sk Tryz.func135 ?_; intro F G hn hG; have h27 : Flat.Sp Tryz.prog 22 [.p (.ps (c.r.map Val.row))] [] (.p (.ps ((c.r.map tOf).map trow))) [] := by rw [List.map_map]; exact spec27 c.r hc
 obtain ⟨hil, his⟩ := List.getElem?_eq_some_iff.1 hi; have hcl : (c.r.map tOf).length ≤ Flat.lim := by simpa using hc
 obtain ⟨tt, htt⟩ : ∃ tt, c.r.map tOf = tt := ⟨_, rfl⟩; rw [htt] at h27 hcl; refine srp 1000 [1,14] ?_; refine sq ?_; refine dr ?_; refine de 2000 ?_; refine dc id (h27) ?_; refine de 2100 ?_; refine dc id (spec114 tt s hcl) ?_; refine de 2200 ?_; refine dn ?_; refine pr [4,5] ?_; refine k_ret ?_; show retQ _ _ _ _ _ _ _; simp [*]
attribute [local simp] Ct.row Ct.av in
theorem zs220h (cs : List Ct) (hlen : cs.length ≤ Flat.lim) (hcs : ∀ c ∈ cs, c.r.length ≤ Flat.lim) (ss : List (List Int)) (j : Nat) (s : List Int) (hi : ss[j]? = some s)  : Flat.Sp Tryz.prog 220 [.p (.ps (cs.map Ct.row)), .fn (.func 135) [.ptr 0 0, .ptr 1 0]] [(.var 0, .n 1), (.cell 0 0, .av (.p (.ps (ss.map srow)))), (.var 1, .n 1), (.cell 1 0, .av (vv (.int .i64 j)))] (vv (.int .i64 (firstP (badR s) cs 0))) [(.var 0, .n 1), (.cell 0 0, .av (.p (.ps (ss.map srow)))), (.var 1, .n 1), (.cell 1 0, .av (vv (.int .i64 j)))] := by
 refine sk Tryz.func220 ?_; intro F G hn hG; refine srp 1000 [0,2,4,19] ?_; refine sq ?_; refine srp 2000 [0,2,4,6,7,19] ?_; refine k_block ?_; refine k_loop (fun n l => ∃ i, i + n = cs.length ∧ (firstP (badR s) cs 0 = firstP (badR s) (cs.drop i) i) ∧ l = [(.tmp 0, .av (.p (.ps (cs.map Ct.row)))), (.tmp 1, .av (.fn (.func 135) [.ptr 0 0, .ptr 1 0])), (.tmp 7, .av (vv (.int .i64 cs.length))), (.tmp 8, .av (vv (.int .i64 i))), (.var 0, .n 1), (.cell 0 0, .av (.p (.ps (ss.map srow)))), (.var 1, .n 1), (.cell 1 0, .av (vv (.int .i64 j)))]) (cs.length) hG ⟨_, ⟨by simp, by simp, by simp⟩, 0, by simp, rfl, rfl⟩ ?_
 rintro n _ ⟨i, hin, hfa, rfl⟩; have hwi : i < Flat.lim → IntKind.i64.wrap ((i : Int) + 1) = (i : Int) + 1 := wrap_succ; refine srp 3000 [0,2,4,6,7,19] ?_; refine sq ?_; refine cd ?_ ?_
 · intro h9_1
   have hlt : i < cs.length := by simpa using h9_1
   obtain ⟨x, hxe⟩ : ∃ x, cs[i] = x := ⟨_, rfl⟩; have hx : cs[i]? = some x := by simp [hlt, hxe]
   have hfd := firstP_drop (p := (badR s)) hx; have hwi := hwi (by omega)
   refine k_skip ?_; refine sq ?_; refine k_block ?_; refine srp 4000 [0,2,4,6,7,19] ?_; refine src 5000 ?_; refine oc id (zs135 x (hcs x (List.mem_of_getElem? hx)) ss j s hi) ?_; refine onp [0,2,4,6,7,19] ?_; refine cd ?_ ?_
   · intro h16_2
     have hr : (badR s) x = true := by simpa using h16_2
     refine srp 6000 [0,2,4,6,7,19] ?_; refine k_ret ?_; show retQ _ _ _ _ _ _ _; simp [*]
   · intro h16_2
     have hr : (badR s) x = false := by simpa using h16_2
     refine k_skip ?_; refine k_nil ?_; show AK _ _ _ _ _ _; refine rg 7000 ?_; refine k_nil ?_; refine ⟨n - 1, by omega, _, ⟨?_, ?_, ?_⟩, i + 1, by omega, by rw [hfa, hfd, hr, if_neg (by simp)], rfl⟩ <;> simp [*]
 · intro h9_1
   have hge : cs.length ≤ i := by simpa using h9_1
   have hfe : firstP (badR s) (cs.drop i) i = -1 := by rw [List.drop_eq_nil_of_le hge]; rfl
   refine k_exit ?_; show AK _ _ _ _ _ _; refine srp 8000 [4,5] ?_; refine k_ret ?_; show retQ _ _ _ _ _ _ _; simp [*]
attribute [local simp] firstP_any in
theorem zs134h (cs : List Ct) (hlen : cs.length ≤ Flat.lim) (hcs : ∀ c ∈ cs, c.r.length ≤ Flat.lim) (ss : List (List Int)) (j : Nat) (s : List Int) (hi : ss[j]? = some s)  : Flat.Sp Tryz.prog 134 [.p (.ps (cs.map Ct.row)), .fn (.func 135) [.ptr 0 0, .ptr 1 0]] [(.var 0, .n 1), (.cell 0 0, .av (.p (.ps (ss.map srow)))), (.var 1, .n 1), (.cell 1 0, .av (vv (.int .i64 j)))] (vv (.bool (cs.any (badR s)))) [(.var 0, .n 1), (.cell 0 0, .av (.p (.ps (ss.map srow)))), (.var 1, .n 1), (.cell 1 0, .av (vv (.int .i64 j)))] := by
 refine sk Tryz.func134 ?_; intro F G hn hG; refine srp 1000 [0,2,4,9] ?_; refine src 2000 ?_; refine oc (id) (zs220h cs hlen hcs ss j s hi) ?_; refine oe 2100 ?_; refine onp [4,5] ?_; refine k_ret ?_; show retQ _ _ _ _ _ _ _; simp [*]
theorem badAt_at {srcs : List (List Ct)} {ss : List (List Int)} {i : Nat} {l : List Ct} {s : List Int} (h : srcs[i]? = some l) (k : ss[i]? = some s) : badAt srcs ss i = l.any (badR s) := by unfold badAt; rw [h, k]
theorem bad_any {srcs : List (List Ct)} {ss : List (List Int)} {i : Nat} (hi : i < srcs.length) (h : badAt srcs ss i = true) : (List.range srcs.length).any (badAt srcs ss) = true := List.any_eq_true.2 ⟨i, List.mem_range.2 hi, h⟩
theorem bad_none {srcs : List (List Ct)} {ss : List (List Int)} (h : ∀ q, q < srcs.length → badAt srcs ss q = false) : (List.range srcs.length).any (badAt srcs ss) = false := by
 rw [Bool.eq_false_iff]; intro hh; obtain ⟨i, h1, h2⟩ := List.any_eq_true.1 hh; rw [h i (List.mem_range.1 h1)] at h2; cases h2
attribute [local simp] lrowk in
theorem zs63 (srcs : List (List Ct)) (hsl : srcs.length ≤ Cap) (hls : ∀ l ∈ srcs, Sml l) (ss : List (List Int)) : Flat.Sp Tryz.prog 63 [.p (.ps (srcs.map lrowk)), .p (.ps (ss.map srow))] [] (vv (.int .i64 (haveR srcs ss))) [] := by
 refine sk Tryz.func63 ?_; intro F G hn hG; have hcap : Cap = 1073741824 := rfl; have hlim : srcs.length ≤ Flat.lim := by simp only [Flat.lim]; omega
 refine srp 1000 [0,1,3,31] ?_; refine sq ?_; refine src 2000 ?_; refine oc id (spec30 ss) ?_; refine oe 2100 ?_; refine onp [0,1,3,8,10,31] ?_; refine srp 3000 [0,1,3,8,11,31] ?_; refine cd ?_ ?_
 · intro h11_1
   have hfin : (haveR srcs ss) = checkSch ss := by unfold haveR; exact if_pos h11_1
   refine srp 4000 [0,1,3,5,6,8,13,31] ?_; refine k_ret ?_; show retQ _ _ _ _ _ _ _; simp [*]
 · intro h11_1
   have hf1 : (haveR srcs ss) = if srcs.any badK then 4 else if (srcs.length : Int) != ss.length then 11 else if (List.range srcs.length).any (badAt srcs ss) then 11 else 0 := by unfold haveR; exact if_neg (by rw [h11_1]; decide)
   refine k_skip ?_; refine sq ?_; refine src 5000 ?_; refine oc id (zs132 srcs hlim hls) ?_; refine onp [0,1,3,5,6,8,14,31] ?_; refine cd ?_ ?_
   · intro h14_2
     have hfin : (haveR srcs ss) = 4 := by rw [hf1]; exact if_pos h14_2
     clear hf1; refine srp 6000 [0,1,3,5,6,8,15,31] ?_; refine k_ret ?_; show retQ _ _ _ _ _ _ _; simp [*]
   · intro h14_2
     have hf2 : (haveR srcs ss) = if (srcs.length : Int) != ss.length then 11 else if (List.range srcs.length).any (badAt srcs ss) then 11 else 0 := by rw [hf1]; exact if_neg (by rw [h14_2]; decide)
     clear hf1; refine k_skip ?_; refine sq ?_; refine srp 7000 [0,1,3,5,6,8,19,31] ?_; refine cd ?_ ?_
     · intro h19_3
       have hfin : (haveR srcs ss) = 11 := by rw [hf2]; exact if_pos h19_3
       clear hf2; refine srp 8000 [0,1,3,5,6,8,20,31] ?_; refine k_ret ?_; show retQ _ _ _ _ _ _ _; simp [*]
     · intro h19_3
       have hf3 : (haveR srcs ss) = if (List.range srcs.length).any (badAt srcs ss) then 11 else 0 := by rw [hf2]; exact if_neg (by rw [h19_3]; decide)
       have hle : ss.length = srcs.length := by have := h19_3; simp at this; omega
       clear hf2; clear h19_3; refine k_skip ?_; refine sq ?_; refine srp 9000 [3,5,6,8,20,31] ?_; refine k_block ?_; refine k_loop (fun n l => ∃ i, i + n = srcs.length ∧ (∀ q, q < i → badAt srcs ss q = false) ∧ l = [(.tmp 3, .av (.ptr 1000 0)), (.tmp 20, .av (.p (.ps (srcs.map lrowk)))), (.tmp 21, .av (vv (.int .i64 srcs.length))), (.tmp 22, .av (vv (.int .i64 i))), (.var 1000, .n 1), (.cell 1000 0, .av (.p (.ps (ss.map srow))))]) (srcs.length) hG ⟨_, ⟨by simp, by simp, by simp⟩, 0, by simp, by intro q hq; omega, rfl⟩ ?_
       rintro n _ ⟨i, hin, hfa, rfl⟩; have hcm := hfa; refine srp 10000 [3,5,6,8,20,31] ?_; refine sq ?_; refine cd ?_ ?_
       · intro h23_4
         have hlt : i < srcs.length := by simpa using h23_4
         obtain ⟨x, hxe⟩ : ∃ x, srcs[i] = x := ⟨_, rfl⟩; have hx : srcs[i]? = some x := by simp [hlt, hxe]
         have hw := wrap_succ (show i < Flat.lim by omega)
         have hxm := hls x (List.mem_of_getElem? hx); have hxl : x.length ≤ Flat.lim := Nat.le_trans hxm.1 (by decide)
         have hxr : ∀ c ∈ x, c.r.length ≤ Flat.lim := fun c hc => Nat.le_trans (hxm.2 c hc) (by decide)
         have hil : i < ss.length := by omega
         obtain ⟨s, hse⟩ : ∃ s, ss[i] = s := ⟨_, rfl⟩; have hsi : ss[i]? = some s := by simp [hil, hse]
         have hba := badAt_at hx hsi; refine k_skip ?_; refine sq ?_; refine k_block ?_; refine srp 11000 [3,5,6,8,20,31] ?_; refine src 12000 ?_; refine oc (fun k => if k = 0 then 1000 else 11003) (zs134h x hxl hxr ss i s hsi) ?_
         refine onp [3,5,6,8,20,31] ?_; refine cd ?_ ?_
         · intro h29_5
           have hfin : (haveR srcs ss) = 11 := by rw [hf3, bad_any hlt (by rw [hba]; exact h29_5)]; rfl
           clear hf3 hba; refine srp 13000 [3,5,6,8,20,31] ?_; refine k_ret ?_; show retQ _ _ _ _ _ _ _; simp [*]
         · intro h29_5
           have hnext : ∀ q, q < i + 1 → badAt srcs ss q = false := fun q hq => by rcases Nat.lt_succ_iff_lt_or_eq.1 hq with h | rfl; exact hcm q h; rw [hba]; exact h29_5
           clear hba; refine k_skip ?_; refine k_nil ?_; show AK _ _ _ _ _ _; refine rg 14000 ?_; refine k_nil ?_; refine ⟨n - 1, by omega, _, ⟨?_, ?_, ?_⟩, i + 1, by omega, hnext, rfl⟩ <;> simp [*]
       · intro h23_4
         have hge : srcs.length ≤ i := by simpa using h23_4
         have hfin : (haveR srcs ss) = 0 := by rw [hf3, bad_none fun q hq => hcm q (by omega)]; rfl
         clear hf3; refine k_exit ?_; show AK _ _ _ _ _ _; refine srp 15000 [4,5] ?_; refine k_ret ?_; show retQ _ _ _ _ _ _ _; simp [*]
end
end Go.Proofs
end
section
set_option linter.unusedVariables false
set_option linter.unusedSimpArgs false
namespace Go.Proofs
open Go.Flat
theorem pcs_sms : ∀ (n : Nat) (r o : List Up) (f : Fa), r.length ≤ n → Up.sms r → Up.sms o → Up.sms (pcs o f r).1 ∧ (pcs o f r).1.length ≤ o.length + r.length
 | _, [], o, f, _, _, h => by rw [pcs_nil]; exact ⟨h, by simp⟩
 | 0, x :: r, o, f, hn, _, _ => by simp at hn
 | n + 1, x :: r, o, f, hn, hr, ho => by
   rw [pcs]
   have hs : Up.sms (consR [x :: r.take (alk x r)]).1 := cons_sms fun l hl => by
     rw [List.mem_singleton] at hl; rw [hl]; intro u hu; rcases List.mem_cons.1 hu with rfl | hu
     · exact hr _ (by simp)
     · exact hr u (List.mem_cons_of_mem _ (List.mem_of_mem_take hu))
   have hl := cons_len [x :: r.take (alk x r)]; rw [cat_one] at hl
   have ho2 : Up.sms (o ++ (consR [x :: r.take (alk x r)]).1) := fun u hu => by
     rcases List.mem_append.1 hu with hu | hu
     · exact ho u hu
     · exact hs u hu
   obtain ⟨i1, i2⟩ := pcs_sms n (r.drop (alk x r)) _ (if (consR [x :: r.take (alk x r)]).2 != 0 then noteR f x.t else f) (by simp only [List.length_drop]; simp only [List.length_cons] at hn; omega) (fun u hu => hr u (List.mem_cons_of_mem _ (List.mem_of_mem_drop hu))) ho2
   refine ⟨i1, Nat.le_trans i2 ?_⟩; have := alk_le x r; simp only [List.length_append, List.length_drop, List.length_cons, List.length_take] at hl ⊢; omega
theorem done_sms {f : Fa} {us : List Up} (h : Up.sms us) : Up.sms (finR3 (doneR f us)).1 ∧ (finR3 (doneR f us)).1.length ≤ us.length := by
 show Up.sms (doneR f us).1 ∧ (doneR f us).1.length ≤ us.length; unfold doneR; split
 · have hperm : (isrt (ltU cmpU) us).Perm us := isrt_perm _
   have := pcs_sms _ (isrt (ltU cmpU) us) [] f (Nat.le_refl _) (fun u hu => h u (hperm.mem_iff.1 hu)) (fun u hu => by simp at hu)
   rw [isrt_length] at this; exact ⟨this.1, by simpa using this.2⟩
 · refine ⟨cons_sms fun l hl => by rw [List.mem_singleton] at hl; rw [hl]; exact h, ?_⟩
   have := cons_len [us]; rw [cat_one] at this; exact this
theorem doR_sms {k : Int} {ex : List E} (he : ex.length ≤ Bnd) {us : List Up} (h : Up.sms us) : Up.sms (doR k ex us).1 ∧ (doR k ex us).1.length ≤ us.length := by
 have h0 : Up.sms ([] : List Up) := fun v hv => by simp at hv
 unfold doR; split
 · exact ⟨h0, Nat.zero_le _⟩
 · split
   · have h1 := mad_ok k he h us.length (Nat.le_refl _)
     rw [List.take_length] at h1; obtain ⟨i1, i2⟩ := done_sms (f := (madL k ex us).2) h1.1; exact ⟨i1, by omega⟩
   · exact ⟨h0, Nat.zero_le _⟩
end Go.Proofs
end
section
set_option linter.unusedVariables false
set_option linter.unusedSimpArgs false

end
section
namespace Go.Proofs
open Go.Flat
set_option maxRecDepth 100000
set_option linter.unusedVariables false
set_option linter.unusedSimpArgs false
attribute [local simp] Bool.and_assoc Bool.or_assoc evalG evalX efD skF guardG guardL isCall stepL evalOp ev evs lk tmpsL app AV.ok fresh vv putCells insV ins del putL place Go.Flat.look fillC fillR getCells loadF storeF binF scalarBin intBin strBin isShift shiftBin unF lenF maxF minF rowsF appendF builtinF idxF natOf sliceP sliceF optEv Flat.cut overwrite toPV toPVs constAV scalarC scalarCs AV.cells TI.isAgg allSome andAll scalarEq buildable Go.Flat.lim retQ resL resAll resOne PartOf noTmp closedIn refs refs.refsL isSomeV hasB ids leA leA.leL renA renA.renL callB refsAll backL dropIds renS LiesAt injB ownB freshB memN locId insAll leA_refl leL_refl okS frzS frzA frzA.frzL evalD feet fine updCells cellsFrom memP footRf footWf noTmpU updIds opOps opIds idsA footR footW guardTs opTs dstTs callR callW renLoc renC inBlockQ thenQ Value.oneCell' IntKind.bits IntKind.signed
section
attribute [local simp] Up.row Up.av Tm.av Tm.zero Pl.av irow lv0 lv1 lv2 lvA lvB lvV Val.row in
set_option maxHeartbeats 2000000 in
theorem spec43  : Flat.Sp Tryz.prog 32 [] [] (vv (.bool true)) [] := by
 refine sk Tryz.func32 ?_; intro F G hn hG; have s1 : Up.sms [lv0] := fun u hu => lvs u (by simp at hu; simp [hu])
 have hA : Flat.Sp Tryz.prog 33 [(Pl.mk 6 0 [] [] [] [] 0 0).av, .p (.ps [lv0.row])] [] (.tup [.p (.ps [lvA.row]), Tm.zero.av, vv (.int .i64 0)]) [] := by have h := spec44 6 0 [] [] [] [] 0 0 (Nat.zero_le _) [lv0] (by decide) s1; rw [liv_a] at h; exact h
 have hF : Flat.Sp Tryz.prog 33 [(Pl.mk 0 0 [] [] [] [] 0 0).av, .p (.ps [lv0.row])] [] (.tup [.p (.ps []), Tm.zero.av, vv (.int .i64 4)]) [] := by have h := spec44 0 0 [] [] [] [] 0 0 (Nat.zero_le _) [lv0] (by decide) s1; rw [liv_f] at h; exact h
 have hB : Flat.Sp Tryz.prog 81 [.p (.ps [irow 0]), .p (.ps [lv0.row])] [] (.tup [.p (.ps [lvB.row]), vv (.int .i64 0)]) [] := by have h := spec47 [0] (by decide) [lv0] (by decide) s1; rw [liv_b] at h; exact h
 have hC : Flat.Sp Tryz.prog 82 [vv (.int .i64 0), vv (.int .i64 3), .p (.ps [lv0.row])] [] (.tup [.p (.ps [lv0.row, lv1.row]), Tm.zero.av, vv (.int .i64 0)]) [] := by have h := spec49_0 3 [lv0] (by decide) s1 (by rw [ref_of liv_chk0 (by decide)]; rfl); rw [liv_c] at h; exact h
 have hD := spec79 (by rw [ref_of liv_chk01 (by decide)]; rfl) [lv2] liv_d
 have hE : Flat.Sp Tryz.prog 84 [vv (.int .i64 0), .p (.ps [lv0.row, lv1.row])] [] (.tup [.p (.ps []), Tm.zero.av, vv (.int .i64 0)]) [] := by have h := spec51_0 [lv0, lv1] (by decide) lvs (by rw [ref_of liv_chk01 (by decide)]; rfl); rw [liv_e] at h; exact h
 refine srp 1000 [0,15,16,131] ?_; refine src 2000 ?_; refine oc id (spec78 1) ?_; refine oe 2100 ?_; refine onp [0,15,16,18,21,131] ?_; refine src 3000 ?_; refine oc id (hA) ?_; refine oe 3100 ?_; refine onp [0,3,4,15,16,18,28,131] ?_; refine src 4000 ?_; refine oc id (hB) ?_; refine oe 4100 ?_; refine onp [0,3,4,15,16,18,34,131] ?_; refine src 5000 ?_; refine oc id (hC) ?_; refine oe 5100 ?_; refine onp [0,3,4,8,9,15,16,18,40,131] ?_; refine src 6000 ?_; refine oc id (hD) ?_; refine oe 6100 ?_; refine onp [0,3,4,8,9,15,16,18,45,131] ?_; refine src 7000 ?_; refine oc id (hE) ?_; refine oe 7100 ?_; refine onp [0,3,4,8,9,13,14,15,16,18,51,131] ?_; refine src 8000 ?_; refine oc id (hF) ?_; refine oe 8100 ?_; refine onp [0,1,2,3,4,8,9,13,14,15,17,18,58,131] ?_; refine src 9000 ?_; iterate 5 (first | refine gp 9450 ?_ | refine os ?_ | refine gt 9450 ?_)
 refine oe 9500 ?_; iterate 2 (first | refine gp 9650 ?_ | refine os ?_ | refine gt 9650 ?_)
 refine oe 9700 ?_; iterate 3 (first | refine gp 9950 ?_ | refine os ?_ | refine gt 9950 ?_)
 refine oe 10000 ?_; iterate 8 (first | refine gp 10750 ?_ | refine os ?_ | refine gt 10750 ?_)
 refine oe 10800 ?_; iterate 2 (first | refine gp 10950 ?_ | refine os ?_ | refine gt 10950 ?_)
 refine oe 11000 ?_; iterate 3 (first | refine gp 11250 ?_ | refine os ?_ | refine gt 11250 ?_)
 refine oe 11300 ?_; iterate 7 (first | refine gp 11950 ?_ | refine os ?_ | refine gt 11950 ?_)
 refine oe 12000 ?_; iterate 2 (first | refine gp 12150 ?_ | refine os ?_ | refine gt 12150 ?_)
 refine oe 12200 ?_; iterate 3 (first | refine gp 12450 ?_ | refine os ?_ | refine gt 12450 ?_)
 refine oe 12500 ?_; iterate 2 (first | refine gp 12650 ?_ | refine os ?_ | refine gt 12650 ?_)
 refine oe 12700 ?_; iterate 3 (first | refine gp 12950 ?_ | refine os ?_ | refine gt 12950 ?_)
 refine oe 13000 ?_; iterate 2 (first | refine gp 13150 ?_ | refine os ?_ | refine gt 13150 ?_)
 refine oe 13200 ?_; iterate 2 (first | refine gp 13350 ?_ | refine os ?_ | refine gt 13350 ?_)
 refine oe 13400 ?_; refine onp [0,1] ?_; refine k_ret ?_; show retQ _ _ _ _ _ _ _; simp [*]
end
section
theorem cnt_sms {cs : List Ct} {B : Nat} (h : ∀ c ∈ cs, c.r.length ≤ B) : (∀ c ∈ (cntR cs).1, c.r.length ≤ B) ∧ (cntR cs).1.length ≤ cs.length := by
 rw [cntR]; have hperm : (isrt (ltU cmpK) cs).Perm cs := isrt_perm _; split
 · exact ⟨by simp, by simp⟩
 · refine ⟨fun c hc => ?_, ?_⟩
   · obtain ⟨g, hg, he⟩ := List.mem_filterMap.1 hc
     split at he <;> simp only [Option.some.injEq, reduceCtorEq] at he
     subst he; exact h g.1 (hperm.mem_iff.1 (grp_mem _ _ _ g hg))
   · have h1 := gout_len (put := Ct.put) (gs := grp cmpK Ct.n (isrt (ltU cmpK) cs))
     have h2 := grp_len (c := cmpK) (nm := Ct.n) (l := isrt (ltU cmpK) cs) (isrt (ltU cmpK) cs).length; rw [List.take_length, isrt_length] at h2; exact Nat.le_trans h1 h2
end
section
attribute [local simp] PV.up toPH toPHs
def tkW (w v : Int) : Int := if w == 0 then v else w
def oneErr (k : Int) (ex : List E) (l : List Ct) : Int := orI (l.map fun c => (oneM k ex c).2)
def oneAll (k : Int) (ex : List E) (l : List Ct) : List Ct := l.flatMap fun c => (oneM k ex c).1
def eachR (k : Int) (ex : List E) (l : List Ct) : List Ct × Int := if oneErr k ex l != 0 then ([], oneErr k ex l) else mrgR [oneAll k ex l]
theorem oneAll_snoc {k : Int} {ex : List E} {l : List Ct} {i : Nat} {x : Ct} (h : l[i]? = some x) : oneAll k ex (l.take (i + 1)) = oneAll k ex (l.take i) ++ (oneM k ex x).1 := by
 simp [oneAll, List.take_add_one, h, List.flatMap_append]
theorem oneAll_len (k : Int) (ex : List E) : ∀ l : List Ct, (oneAll k ex l).length ≤ l.length
 | [] => by simp [oneAll]
 | c :: r => by
   have := oneM_len k ex c; have := oneAll_len k ex r
   simp only [oneAll, List.flatMap_cons, List.length_append, List.length_cons] at *
   omega
theorem oneM_sml {k : Int} {ex : List E} {c : Ct} (he : ex.length ≤ Bnd) (hc : c.r.length ≤ Bnd) : ∀ x ∈ (oneM k ex c).1, x.r.length ≤ Bnd := by
 unfold oneM
 repeat' split
 · intro x hx; simp at hx; subst hx; exact hc
 · intro x hx; simp at hx
 · intro x hx; simp at hx; subst hx; exact Nat.le_trans (evR_len ex c.r) he
 · intro x hx; simp at hx
 · intro x hx; simp at hx; subst hx; exact hc
theorem oneAll_sml {k : Int} {ex : List E} {l : List Ct} (he : ex.length ≤ Bnd) (hl : Sml l) : Sml (oneAll k ex l) := by
 refine ⟨Nat.le_trans (oneAll_len k ex l) hl.1, fun x hx => ?_⟩
 obtain ⟨c, hc, hx⟩ := List.mem_flatMap.1 hx; exact oneM_sml he (hl.2 c hc) x hx
theorem catk_one (l : List Ct) : catk [l] = l := by simp [catk]
theorem mrg_sml {l : List Ct} (hl : Sml l) : Sml (mrgR [l]).1 := by
 unfold mrgR; rw [catk_one]; split
 · exact ⟨by simp, by simp⟩
 · have := cnt_sms (cs := l) hl.2
   exact ⟨Nat.le_trans this.2 hl.1, this.1⟩
theorem zs27_one (l : List Ct) (hl : Sml l) : Flat.Sp Tryz.prog 27 [.p (.ps [lrowk l])] [] (.tup [.p (.ps ((mrgR [l]).1.map Ct.row)), vv (.int .i64 (mrgR [l]).2)]) [] := by
 have := zs27 [l] (by simp [Cap]) (by rw [catk_one]; exact hl.1) (by rw [catk_one]; exact hl.2)
 simpa using this
attribute [local simp] lrowk tkW in
theorem zs138_0 (w : Int) (S : List (List Ct)) (l : List Ct) (y : Int) : Flat.Sp Tryz.prog 138 [.ptr 0 0, .p (.ps (l.map Ct.row)), vv (.int .i64 y)] [(.var 0, .n 3), (.cell 0 0, .av (vv (.int .i64 (w)))), (.cell 0 1, .av (.p (.ps (S.map lrowk)))), (.cell 0 2, .av (.psf []))] (.p (.ps (l.map Ct.row))) [(.var 0, .n 3), (.cell 0 0, .av (vv (.int .i64 (tkW w y)))), (.cell 0 1, .av (.p (.ps (S.map lrowk)))), (.cell 0 2, .av (.psf []))] := by
 refine sk Tryz.func138 ?_; intro F G hn hG; refine srp 1000 [0,3,6,17] ?_; refine sq ?_; refine srp 2000 [0,3,6,7,11,17] ?_; refine cd ?_ ?_
 · intro h11_1
   refine rgp 3000 [1,2,6,7,16,17] ?_; refine srp 4000 [6,7] ?_; refine k_ret ?_; show retQ _ _ _ _ _ _ _; simp [*]
 · intro h11_1
   refine k_skip ?_; refine srp 4000 [6,7] ?_; refine k_ret ?_; show retQ _ _ _ _ _ _ _; simp [*]
attribute [local simp] Ct.av Ct.row in
theorem zs143 (k m : Int) (kids : List Pl) (ex : List E) (cols wth : List Int) (agg rds : Int) (he : ex.length ≤ Bnd) (hk4 : (k == 6) = false → (k == 3) = false → ex.length = 1) (c : Ct) (hc : c.r.length ≤ Flat.lim) : Flat.Sp Tryz.prog 143 [c.av, .ptr 0 0] [(.var 0, .n 8), (.cell 0 0, .av (vv (.int .u8 k))), (.cell 0 1, .av (vv (.int .i64 m))), (.cell 0 2, .av (.p (.ps (kids.map Pl.row)))), (.cell 0 3, .av (.p (.ps (ex.map E.row)))), (.cell 0 4, .av (.p (.ps (cols.map irow)))), (.cell 0 5, .av (.p (.ps (wth.map irow)))), (.cell 0 6, .av (vv (.int .u8 agg))), (.cell 0 7, .av (vv (.int .i64 rds)))] (.tup [.p (.ps ((oneM k ex c).1.map Ct.row)), vv (.int .i64 (oneM k ex c).2)]) [(.var 0, .n 8), (.cell 0 0, .av (vv (.int .u8 k))), (.cell 0 1, .av (vv (.int .i64 m))), (.cell 0 2, .av (.p (.ps (kids.map Pl.row)))), (.cell 0 3, .av (.p (.ps (ex.map E.row)))), (.cell 0 4, .av (.p (.ps (cols.map irow)))), (.cell 0 5, .av (.p (.ps (wth.map irow)))), (.cell 0 6, .av (vv (.int .u8 agg))), (.cell 0 7, .av (vv (.int .i64 rds)))] := by
 refine sk Tryz.func143 ?_; intro F G hn hG; have h144 : Flat.Sp Tryz.prog 144 [(Pl.mk k m kids ex cols wth agg rds).av, .agg [.p (.ps (c.r.map Val.row)), vv (.int .i64 c.n)]] [] _ [] := spec139 k m kids ex cols wth agg rds he hk4 c hc; simp only [Pl.av] at h144; refine srp 1000 [1,10] ?_; refine src 2000 ?_; refine oc id (h144) ?_; refine oe 2100 ?_; refine onp [3,5] ?_; refine k_ret ?_; show retQ _ _ _ _ _ _ _; simp [*]
attribute [local simp] lrowk Ct.row Ct.av in
set_option maxHeartbeats 2000000 in
theorem zs142_0 (S : List (List Ct)) (k m : Int) (kids : List Pl) (ex : List E) (cols wth : List Int) (agg rds : Int) (he : ex.length ≤ Bnd) (hk4 : (k == 6) = false → (k == 3) = false → ex.length = 1) (cs : List Ct) (hl : Sml cs) : Flat.Sp Tryz.prog 142 [.ptr 0 0, .p (.ps (cs.map Ct.row)), .fn (.func 143) [.ptr 1 0]] [(.var 0, .n 3), (.cell 0 0, .av (vv (.int .i64 (0)))), (.cell 0 1, .av (.p (.ps (S.map lrowk)))), (.cell 0 2, .av (.psf [])), (.var 1, .n 8), (.cell 1 0, .av (vv (.int .u8 k))), (.cell 1 1, .av (vv (.int .i64 m))), (.cell 1 2, .av (.p (.ps (kids.map Pl.row)))), (.cell 1 3, .av (.p (.ps (ex.map E.row)))), (.cell 1 4, .av (.p (.ps (cols.map irow)))), (.cell 1 5, .av (.p (.ps (wth.map irow)))), (.cell 1 6, .av (vv (.int .u8 agg))), (.cell 1 7, .av (vv (.int .i64 rds)))] (.p (.ps ((eachR k ex cs).1.map Ct.row))) [(.var 0, .n 3), (.cell 0 0, .av (vv (.int .i64 ((eachR k ex cs).2)))), (.cell 0 1, .av (.p (.ps (S.map lrowk)))), (.cell 0 2, .av (.psf [])), (.var 1, .n 8), (.cell 1 0, .av (vv (.int .u8 k))), (.cell 1 1, .av (vv (.int .i64 m))), (.cell 1 2, .av (.p (.ps (kids.map Pl.row)))), (.cell 1 3, .av (.p (.ps (ex.map E.row)))), (.cell 1 4, .av (.p (.ps (cols.map irow)))), (.cell 1 5, .av (.p (.ps (wth.map irow)))), (.cell 1 6, .av (vv (.int .u8 agg))), (.cell 1 7, .av (vv (.int .i64 rds)))] := by
 refine sk Tryz.func142 ?_; intro F G hn hG; have hcap : Cap = 1073741824 := rfl; have hll := hl.1; have hlim : cs.length ≤ Flat.lim := by simp only [Flat.lim]; omega
 have h27 : Flat.Sp Tryz.prog 27 [.p (.ps [[.ps ((oneAll k ex cs).map Ct.row)]])] [] (.tup [.p (.ps ((mrgR [oneAll k ex cs]).1.map Ct.row)), vv (.int .i64 (mrgR [oneAll k ex cs]).2)]) [] := zs27_one _ (oneAll_sml he hl); have h142 : (eachR k ex cs) = if oneErr k ex cs != 0 then ([], oneErr k ex cs) else mrgR [oneAll k ex cs] := rfl
 refine srp 1000 [0,3,6,8,9,40] ?_; refine srp 2000 [0,3,6,8,9,40] ?_; refine sq ?_; refine srp 3000 [0,1,2,3,6,8,9,40] ?_; refine k_block ?_; refine ow (.tmp 7) 900 71 2 ?_; refine k_loop (fun n l => ∃ i, i + n = cs.length ∧ (orI ((cs.map fun c => (oneM k ex c).2).drop i) = oneErr k ex cs) ∧ l = [(.tmp 0, .av (.ptr 0 0)), (.tmp 2, .av (.fn (.func 143) [.ptr 1 0])), (.tmp 7, .av (.sl 900 (oneAll k ex (cs.take i)).length 0 (oneAll k ex (cs.take i)).length)), (.tmp 11, .av (.p (.ps (cs.map Ct.row)))), (.tmp 12, .av (vv (.int .i64 cs.length))), (.tmp 13, .av (vv (.int .i64 i))), (.arr 900, .arr 71 2 ((oneAll k ex (cs.take i)).map Ct.row) 0), (.var 0, .n 3), (.cell 0 0, .av (vv (.int .i64 (0)))), (.cell 0 1, .av (.p (.ps (S.map lrowk)))), (.cell 0 2, .av (.psf [])), (.var 1, .n 8), (.cell 1 0, .av (vv (.int .u8 k))), (.cell 1 1, .av (vv (.int .i64 m))), (.cell 1 2, .av (.p (.ps (kids.map Pl.row)))), (.cell 1 3, .av (.p (.ps (ex.map E.row)))), (.cell 1 4, .av (.p (.ps (cols.map irow)))), (.cell 1 5, .av (.p (.ps (wth.map irow)))), (.cell 1 6, .av (vv (.int .u8 agg))), (.cell 1 7, .av (vv (.int .i64 rds)))]) (cs.length) hG ⟨_, ⟨by simp [oneAll], by simp, by simp⟩, 0, by simp, rfl, rfl⟩ ?_
 rintro n _ ⟨i, hin, hfa, rfl⟩; have hcm := hfa; have hol : (oneAll k ex (cs.take i)).length ≤ i := by have := oneAll_len k ex (cs.take i); simp at this; omega
 refine srp 4000 [0,1,2,3,6,8,9,40] ?_; refine sq ?_; refine cd ?_ ?_
 · intro h14_1
   have hlt : i < cs.length := by simpa using h14_1
   obtain ⟨x, hxe⟩ : ∃ x, cs[i] = x := ⟨_, rfl⟩; have hx : cs[i]? = some x := by simp [hlt, hxe]
   have hw := wrap_succ (show i < Flat.lim by omega)
   have hxr : x.r.length ≤ Flat.lim := Nat.le_trans (hl.2 x (List.mem_of_getElem? hx)) (by decide)
   rw [orI_drop (show (cs.map fun c => (oneM k ex c).2)[i]? = some (oneM k ex x).2 by simp [hx])] at hcm
   have ho1 := oneM_len k ex x; have hb1 : ((oneAll k ex (cs.take i)).length + (oneM k ex x).1.length) * 32 ≤ 140737488355328 := by omega
   have hb2 : (oneAll k ex (cs.take i)).length + (oneM k ex x).1.length ≤ 140737488355328 := by omega
   refine k_skip ?_; refine sq ?_; refine k_block ?_; refine srp 5000 [0,1,2,3,6,8,9,40] ?_; refine src 6000 ?_; refine oc (fun _ => 1) ((show Flat.Sp Tryz.prog 143 [.agg [.p (.ps (x.r.map Val.row)), vv (.int .i64 x.n)], .ptr 0 0] _ _ _ from zs143 k m kids ex cols wth agg rds he hk4 x hxr)) ?_
   refine oe 6100 ?_; refine oc (id) (zs138_0 0 S (oneM k ex x).1 (oneM k ex x).2) ?_; refine oe 6200 ?_; refine onp [0,1,2,3,6,8,9,40] ?_; refine sq ?_; refine sq ?_; refine rg 7000 ?_ (h := by simp [*, tkW]; exact is_rfl _)
   refine pr [0,1,2,3,6,8,9,40] ?_; refine cd ?_ ?_
   · intro h28_2
     have h2 : ((oneM k ex x).2 != 0) = true := by simpa [tkW] using h28_2
     rw [h2] at hcm; have hfin : (eachR k ex cs) = ([], (oneM k ex x).2) := by rw [h142, ← hcm]; simp only [if_true, h2]
     clear h142 hcm; refine srp 8000 [0,1,2,3,6,8,9,40] ?_; refine k_ret ?_; show retQ _ _ _ _ _ _ _; simp [*, tkW]
   · intro h28_2
     have h2 : ((oneM k ex x).2 != 0) = false := by simpa [tkW] using h28_2
     rw [h2] at hcm; have hnext : orI ((cs.map fun c => (oneM k ex c).2).drop (i + 1)) = oneErr k ex cs := by simpa using hcm
     have hz0 : (oneM k ex x).2 = 0 := by simpa using h2
     clear hcm; refine k_skip ?_; refine rg 9000 ?_; refine k_nil ?_; show AK _ _ _ _ _ _; refine rg 10000 ?_; refine k_nil ?_; refine ⟨n - 1, by omega, _, ⟨?_, ?_, ?_⟩, i + 1, by omega, hnext, rfl⟩ <;> simp [*, oneAll_snoc hx]
 · intro h14_1
   have hge : cs.length ≤ i := by simpa using h14_1
   obtain rfl : i = cs.length := by omega
   have htk : cs.take cs.length = cs := List.take_length; rw [List.drop_eq_nil_of_le (by simp)] at hcm
   have hfin : (eachR k ex cs) = mrgR [oneAll k ex cs] := by rw [h142, ← hcm]; rfl
   clear h142 hcm; have hta : ((oneAll k ex cs).map Ct.row).take (oneAll k ex cs).length = (oneAll k ex cs).map Ct.row := List.take_of_length_le (by simp)
   refine fz 900 ?_; refine k_exit ?_; show AK _ _ _ _ _ _; refine src 11000 ?_ (h := by simp [*, tkW]; exact is_rfl _)
   refine oc id (h27) ?_ (hg := by simp [*, tkW]) (hf := by simp [*, tkW]; exact is_rfl _) (hx := by simp [*, tkW]; exact is_rfl _) (hargs := by simp [*, tkW]) (hB := by simp [*, tkW]) (hL := by simp [*, tkW]) (hd := by simp [*, tkW]; exact is_rfl _)
   refine oe 11100 ?_ (h := by simp [*, tkW]; exact is_rfl _)
   refine oc (id) (zs138_0 0 S (mrgR [oneAll k ex cs]).1 (mrgR [oneAll k ex cs]).2) ?_ (hg := by simp [*, tkW]) (hf := by simp [*, tkW]; exact is_rfl _) (hx := by simp [*, tkW]; exact is_rfl _) (hargs := by simp [*, tkW]) (hB := by simp [*, tkW]) (hL := by simp [*, tkW]) (hd := by simp [*, tkW]; exact is_rfl _)
   refine oe 11200 ?_ (h := by simp [*, tkW]; exact is_rfl _)
   refine onp [6,7] ?_; refine k_ret ?_; show retQ _ _ _ _ _ _ _; simp [*, tkW]
end
section
attribute [local simp] PV.up toPH toPHs
attribute [local simp] Pl.row_eq Pl.av
attribute [local simp] lrowk in
theorem zs64_src0 (w : Int) (S : List (List Ct)) (q : Nat) (s : List Ct) (hq : S[q]? = some s) (kids : List Pl) (ex : List E) (cols wth : List Int) (agg rds : Int) : Flat.Sp Tryz.prog 64 [.ptr 0 0, (Pl.mk 1 (q : Int) kids ex cols wth agg rds).av] [(.var 0, .n 3), (.cell 0 0, .av (vv (.int .i64 (w)))), (.cell 0 1, .av (.p (.ps (S.map lrowk)))), (.cell 0 2, .av (.psf []))] (.p (.ps (s.map Ct.row))) [(.var 0, .n 3), (.cell 0 0, .av (vv (.int .i64 (w)))), (.cell 0 1, .av (.p (.ps (S.map lrowk)))), (.cell 0 2, .av (.psf []))] := by
 refine sk Tryz.func64 ?_; intro F G hn hG; obtain ⟨hql, hqe⟩ := List.getElem?_eq_some_iff.1 hq; refine srp 1000 [0,1,3,112] ?_; refine sq ?_; refine srp 2000 [0,1,3,8,9,112] ?_; refine k_block ?_; refine srp 3000 [0,1,3,8,9,11,12,112] ?_; refine ct ?_; refine sq ?_; refine dr ?_; refine de 4000 ?_; refine dn ?_; refine pr [0,1,3,8,42,112] ?_; refine k_ret ?_; show retQ _ _ _ _ _ _ _; simp [*]
attribute [local simp] lrowk in
theorem zs64_lin0 (S : List (List Ct)) (k : Int) (m : Int) (ex : List E) (cols wth : List Int) (agg rds : Int) (xk xn : Int) (xq : List Pl) (xe : List E) (xc xw : List Int) (xa xr : Int) (h1 : (k == 1) = false) (h2 : (k == 2) = false) (h10 : (k == 10) = false) (h5 : (k == 5) = false) (h7 : (k == 7) = false) (h8 : (k == 8) = false) (h9 : (k == 9) = false) (he : ex.length ≤ Bnd) (hk4 : (k == 6) = false → (k == 3) = false → ex.length = 1) (a : List Ct) (ha : Sml a) (hx : Flat.Sp Tryz.prog 64 [.ptr 0 0, (Pl.mk xk xn xq xe xc xw xa xr).av] [(.var 0, .n 3), (.cell 0 0, .av (vv (.int .i64 (0)))), (.cell 0 1, .av (.p (.ps (S.map lrowk)))), (.cell 0 2, .av (.psf []))] (.p (.ps (a.map Ct.row))) [(.var 0, .n 3), (.cell 0 0, .av (vv (.int .i64 (0)))), (.cell 0 1, .av (.p (.ps (S.map lrowk)))), (.cell 0 2, .av (.psf []))]) : Flat.Sp Tryz.prog 64 [.ptr 0 0, (Pl.mk k m [(Pl.mk xk xn xq xe xc xw xa xr)] ex cols wth agg rds).av] [(.var 0, .n 3), (.cell 0 0, .av (vv (.int .i64 (0)))), (.cell 0 1, .av (.p (.ps (S.map lrowk)))), (.cell 0 2, .av (.psf []))] (.p (.ps ((eachR k ex a).1.map Ct.row))) [(.var 0, .n 3), (.cell 0 0, .av (vv (.int .i64 ((eachR k ex a).2)))), (.cell 0 1, .av (.p (.ps (S.map lrowk)))), (.cell 0 2, .av (.psf []))] := by
 refine sk Tryz.func64 ?_; intro F G hn hG; refine srp 1000 [0,1,3,112] ?_; refine sq ?_; refine srp 2000 [0,1,3,8,9,112] ?_; refine k_block ?_; refine srp 3000 [0,1,3,8,9,11,12,112] ?_; refine ce ?_; refine srp 5000 [0,1,3,8,9,10,20,21,22,112] ?_; refine ce ?_; refine srp 7000 [0,1,3,8,37,38,39,112] ?_; refine ce ?_; refine k_skip ?_; refine k_nil ?_; show AK _ _ _ _ _ _; refine srp 9000 [0,1,3,8,46,112] ?_; refine sq ?_; refine srp 10000 [0,1,3,8,47,112] ?_; refine k_block ?_; refine k_rounds 2 ?_; show AK _ _ _ _ _ _; refine srp 11000 [0,1,3,8,47,112] ?_; refine sq ?_; refine ct ?_; refine k_skip ?_; refine sq ?_; refine k_block ?_; refine srp 12000 [0,1,3,8,47,112] ?_; refine rc 13000 ?_; refine oc (id) (hx) ?_; refine oe 13100 ?_; refine on ?_; refine k_nil ?_; show AK _ _ _ _ _ _; refine rg 14000 ?_; refine k_nil ?_; show AK _ _ _ _ _ _; refine srp 1011000 [0,1,3,8,47,112] ?_; refine sq ?_; refine ce ?_; refine k_exit ?_; show AK _ _ _ _ _ _; refine sq ?_; refine srp 15000 [0,1,3,6,65,112] ?_; refine ce ?_; refine k_skip ?_; refine sq ?_; refine srp 17000 [0,1,3,6,67,112] ?_; refine k_block ?_; refine srp 18000 [0,1,3,6,67,69,70,112] ?_; refine ce ?_; refine srp 20000 [0,1,3,6,67,68,76,77,78,112] ?_; refine ce ?_; refine srp 22000 [0,1,3,6,67,68,87,88,89,112] ?_; refine ce ?_; refine srp 24000 [0,1,3,6,95,96,97,112] ?_; refine ce ?_; refine k_skip ?_; refine k_nil ?_; show AK _ _ _ _ _ _; refine src 26000 ?_; refine oc (fun k => if k = 1 then 1000 else k) ((show Flat.Sp Tryz.prog 142 _ [(.var 0, .n 3), (.cell 0 0, .av (vv (.int .i64 (0)))), (.cell 0 1, .av (.p (.ps (S.map lrowk)))), (.cell 0 2, .av (.psf [])), (.var 1, .n 8), (.cell 1 0, .av (vv (.int .u8 k))), (.cell 1 1, .av (vv (.int .i64 m))), (.cell 1 2, .av (.p (.ps ([(Pl.mk xk xn xq xe xc xw xa xr)].map Pl.row)))), (.cell 1 3, .av (.p (.ps (ex.map E.row)))), (.cell 1 4, .av (.p (.ps (cols.map irow)))), (.cell 1 5, .av (.p (.ps (wth.map irow)))), (.cell 1 6, .av (vv (.int .u8 agg))), (.cell 1 7, .av (vv (.int .i64 rds)))] _ _ from zs142_0 S k m [(Pl.mk xk xn xq xe xc xw xa xr)] ex cols wth agg rds he hk4 a ha)) ?_
 refine oe 26100 ?_; refine onp [4,5] ?_; refine k_ret ?_; show retQ _ _ _ _ _ _ _; simp [*]
end
section
attribute [local simp] PV.up toPH toPHs
def lrowv (l : List Val) : List PV := [.ps (l.map Val.row)]
@[simp] theorem lrowv_len (l : List Val) : (lrowv l).length = 1 := rfl
def catv (ls : List (List Val)) : List Val := ls.flatten
def joinR (rs : List (List Val)) : List Val × Int := if orI (rs.map checkRow) != 0 then ([], orI (rs.map checkRow)) else if decide ((8 : Int) < (catv rs).length) then ([], 2) else (catv rs, 0)
def onceC (rs : List (List Val)) : Ct := ⟨(joinR rs).1, 1⟩
end
end Go.Proofs
end
section
set_option linter.unusedVariables false
set_option linter.unusedSimpArgs false

end
