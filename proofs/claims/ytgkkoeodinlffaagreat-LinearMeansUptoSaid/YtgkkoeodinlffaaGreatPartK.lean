/-
  Contracts: sums of counts. (and 3 texts more)
-/
import Derived.Test.YtgkkoeodinlffaaGreatPartJ
section
namespace Go.Proofs
open Go.Flat
set_option maxRecDepth 100000
set_option linter.unusedVariables false
set_option linter.unusedSimpArgs false
attribute [local simp] Bool.and_assoc Bool.or_assoc evalG evalX efD skF guardG guardL isCall stepL evalOp ev evs lk tmpsL app AV.ok fresh vv putCells insV ins del putL place Go.Flat.look fillC fillR getCells loadF storeF binF scalarBin intBin strBin isShift shiftBin unF lenF maxF minF rowsF appendF builtinF idxF natOf sliceP sliceF optEv Flat.cut overwrite toPV toPVs constAV scalarC scalarCs AV.cells TI.isAgg allSome andAll scalarEq buildable Go.Flat.lim retQ resL resAll resOne PartOf noTmp closedIn refs refs.refsL isSomeV hasB ids leA leA.leL renA renA.renL callB refsAll backL dropIds renS LiesAt injB ownB freshB memN locId insAll leA_refl leL_refl okS frzS frzA frzA.frzL evalD feet fine updCells cellsFrom memP footRf footWf noTmpU updIds opOps opIds idsA footR footW guardTs opTs dstTs callR callW renLoc renC inBlockQ thenQ Value.oneCell' IntKind.bits IntKind.signed
section
def Ct.grow (g : Ct × List Int) : List PV := [.v (.int .u64 (tsum g.2).1), .v (.int .u64 (tsum g.2).2)] ++ g.1.row
@[simp] theorem Ct.grow_len (g : Ct × List Int) : (Ct.grow g).length = 4 := rfl
def Ct.put (c : Ct) (n : Int) : Ct := ⟨c.r, n⟩
def cmpK (x y : Ct) : Int := rowsC x.r y.r
attribute [local simp] cmpK Ct.av Ct.row in
theorem spec154 (x y : Ct) (h1 : x.r.length ≤ Flat.lim) (h2 : y.r.length ≤ Flat.lim) : Flat.Sp Tryz.prog 160 [x.av, y.av] [] (vv (.int .i64 (cmpK x y))) [] := by
 refine sk Tryz.func160 ?_; intro F G hn hG; refine srp 1000 [2,10] ?_; refine src 2000 ?_; refine oc id (spec147 x.r y.r h1 h2) ?_; refine oe 2100 ?_; refine onp [4,5] ?_; refine k_ret ?_; show retQ _ _ _ _ _ _ _; simp [*]
attribute [local simp] Ct.av Ct.row in
theorem spec155 (c : Ct) : Flat.Sp Tryz.prog 161 [c.av] [] (vv (.int .i64 c.n)) [] := by
 refine sk Tryz.func161 ?_; intro F G hn hG; refine srp 1000 [1,5] ?_; refine srp 2000 [2,3] ?_; refine k_ret ?_; show retQ _ _ _ _ _ _ _; simp [*]
attribute [local simp] Ct.av Ct.row Ct.put in
theorem spec156 (c : Ct) (hc : c.r.length ≤ Bnd) (n : Int) : Flat.Sp Tryz.prog 162 [c.av, vv (.int .i64 n)] [] ((c.put n).av) [] := by
 refine sk Tryz.func162 ?_; intro F G hn hG; refine srp 1000 [1,3,4,10] ?_; refine src 2000 ?_; refine oc id (spec148 c.r hc) ?_; refine oe 2100 ?_; refine onp [4,5] ?_; refine k_ret ?_; show retQ _ _ _ _ _ _ _; simp [*]
attribute [local simp] tfit in
theorem spec144gc (x : Ct) (p : Int × Int) : Flat.Sp Tryz.prog 126 [.ptr 0 0] [(.var 0, .n 4), (.cell 0 0, .av (vv (.int .u64 p.1))), (.cell 0 1, .av (vv (.int .u64 p.2))), (.cell 0 2, .av (.p (.ps (x.r.map Val.row)))), (.cell 0 3, .av (.p (.v (.int .i64 x.n))))] (.tup [vv (.int .i64 (tfit p).1), vv (.int .i64 (tfit p).2)]) [(.var 0, .n 4), (.cell 0 0, .av (vv (.int .u64 p.1))), (.cell 0 1, .av (vv (.int .u64 p.2))), (.cell 0 2, .av (.p (.ps (x.r.map Val.row)))), (.cell 0 3, .av (.p (.v (.int .i64 x.n))))] := by
 refine sk Tryz.func126 ?_; intro F G hn hG; refine srp 1000 [0,1,2,21] ?_; refine sq ?_; refine sq ?_; refine dr ?_; refine de 2000 ?_; refine dn ?_; refine pr [0,1,2,4,15,21] ?_; refine cd ?_ ?_
 · intro h15_1
   have h15_1 : tfits p = false := by simpa [tfits, IntKind.bits] using h15_1
   refine srp 3000 [0,1,2,4,16,21] ?_; refine k_ret ?_; show retQ _ _ _ _ _ _ _; simp [*]
 · intro h15_1
   have h15_1 : tfits p = true := by simpa [tfits, IntKind.bits] using h15_1
   refine k_skip ?_; refine srp 4000 [2,4] ?_; refine k_ret ?_; show retQ _ _ _ _ _ _ _; simp [*]
attribute [local simp] Ct.grow Ct.row tadd tsum_snoc in
theorem spec143ec (gs : List (Ct × List Int)) (L k : Nat) (hL : gs.length = L) (g : Ct × List Int) (hk : gs[k]? = some g) (n : Int) : Flat.Sp Tryz.prog 125 [.eptr 0 L k 0, vv (.int .i64 n)] [(.arr 0, .arr 380 4 (gs.map Ct.grow) 0)] (.tup []) [(.arr 0, .arr 380 4 ((gs.set k (g.1, g.2 ++ [n])).map Ct.grow) 0)] := by
 refine sk Tryz.func125 ?_; intro F G hn hG; have hU := wrapU_in n; have hU2 := wrapU_in (n.fdiv 9223372036854775808); obtain ⟨q1, q2, q3, q4⟩ := tsum_in g.2; have hkl := (List.getElem?_eq_some_iff.1 hk).1; have hk2 : ∀ h : k < gs.length, gs[k]'h = g := fun h => (List.getElem?_eq_some_iff.1 hk).2
 have hkL : k < L := by omega
 refine srp 1000 [0,2,4,30,31,33] ?_; refine src 2000 ?_; refine o_ext hn (vs := [.int .u64 (tsum g.2).2, .int .u64 (IntKind.u64.wrap n), .int .u64 0]) (rs := [.int .u64 (((tsum g.2).2 + IntKind.u64.wrap n + 0) % 18446744073709551616), .int .u64 (((tsum g.2).2 + IntKind.u64.wrap n + 0) / 18446744073709551616)]) rfl (by simp [*]) (by simp [*]; exact is_rfl _) (by simp [*]; exact is_rfl _) (fun w => ext187 _ _ _ q3 hU.1 (by omega) (by omega) w) (by simp [*]) (by simp [*]; exact is_rfl _) ?_
 refine oe 2100 ?_; refine onp [0,2,4,5,18,30,31,33] ?_; refine rc 3000 ?_; refine o_ext hn (vs := [.int .u64 (tsum g.2).1, .int .u64 (IntKind.u64.wrap (n.fdiv 9223372036854775808)), .int .u64 (((tsum g.2).2 + IntKind.u64.wrap n) / 18446744073709551616)]) (rs := [.int .u64 (((tsum g.2).1 + IntKind.u64.wrap (n.fdiv 9223372036854775808) + ((tsum g.2).2 + IntKind.u64.wrap n) / 18446744073709551616) % 18446744073709551616), .int .u64 (((tsum g.2).1 + IntKind.u64.wrap (n.fdiv 9223372036854775808) + ((tsum g.2).2 + IntKind.u64.wrap n) / 18446744073709551616) / 18446744073709551616)]) rfl (by simp [*]) (by simp [*]; exact is_rfl _) (by simp [*]; exact is_rfl _) (fun w => ext187 _ _ _ q1 hU2.1 (by omega) (by omega) w) (by simp [*]) (by simp [*]; exact is_rfl _) ?_
 refine oe 3100 ?_; refine on ?_; refine k_nil ?_; show retQ _ _ _ _ _ _ _; simp [*]
attribute [local simp] Ct.grow Ct.row Ct.av in
set_option maxHeartbeats 1000000 in
theorem spec153 (c : Ct → Ct → Int) (ho : Ord (ltU c)) (us : List Ct) (hus : us.length ≤ Cap) (hc : ∀ x ∈ us, ∀ y ∈ us, Flat.Sp Tryz.prog 160 [x.av, y.av] [] (vv (.int .i64 (c x y))) []) (hnm : ∀ x ∈ us, Flat.Sp Tryz.prog 161 [x.av] [] (vv (.int .i64 (Ct.n x))) []) (hput : ∀ x ∈ us, ∀ n : Int, Flat.Sp Tryz.prog 162 [x.av, vv (.int .i64 n)] [] (Ct.put x n).av [])  : Flat.Sp Tryz.prog 159 [.sl 0 us.length 0 us.length, .fn (.func 160) [], .fn (.func 161) [], .fn (.func 162) []] [(.arr 0, .arr 71 2 (us.map Ct.row) 0)] (.tup [.p (.ps ((if gerr (grp c Ct.n (isrt (ltU c) us)) != 0 then [] else gout Ct.put (grp c Ct.n (isrt (ltU c) us))).map Ct.row)), vv (.int .i64 (gerr (grp c Ct.n (isrt (ltU c) us))))]) [(.arr 0, .arr 71 2 ((isrt (ltU c) us).map Ct.row) 0)] := by
 refine sk Tryz.func159 ?_; intro F G hn hG; simp only [Cap] at hus; obtain ⟨S, hS⟩ : ∃ S, isrt (ltU c) us = S := ⟨_, rfl⟩; have hSl : S.length = us.length := by rw [← hS, isrt_length]
 have hSm : ∀ x ∈ S, x ∈ us := fun x hx => (isrt_perm (lt := (ltU c)) us).mem_iff.1 (by rw [hS]; exact hx)
 rw [hS]; refine srp 1000 [0,4,8,11,12,15,16,21,22,58,59,86] ?_; refine src 2000 ?_; refine oc id (spec191 c ho us (by simp only [Flat.lim]; omega) hc) ?_
 refine onp [0,4,8,11,12,15,16,19,22,58,59,86] ?_; refine srp 3000 [0,4,8,11,12,15,16,19,22,58,59,86] ?_; refine ow (.tmp 10) 900 380 4 ?_; refine sq ?_; refine srp 4000 [1,4,8,11,12,15,16,19,22,58,59,86] ?_; refine k_block ?_; refine k_loop (fun n l => ∃ i, i + n = us.length ∧ (True) ∧ l = [(.tmp 1, .av (.fn (.func 160) [])), (.tmp 2, .av (.fn (.func 161) [])), (.tmp 3, .av (.fn (.func 162) [])), (.tmp 10, .av (.sl 900 (grp c Ct.n (S.take i)).length 0 (grp c Ct.n (S.take i)).length)), (.tmp 22, .av (.sl 0 us.length 0 us.length)), (.tmp 23, .av (vv (.int .i64 us.length))), (.tmp 24, .av (vv (.int .i64 i))), (.arr 0, .arr 71 2 (S.map Ct.row) 0), (.arr 900, .arr 380 4 ((grp c Ct.n (S.take i)).map Ct.grow) 0)]) (us.length) hG ⟨_, ⟨by simp [grp, *], by simp, by simp⟩, 0, by simp, trivial, rfl⟩ ?_
 rintro n _ ⟨i, hin, hfa, rfl⟩; obtain ⟨gs, hgs⟩ : ∃ gs, (grp c Ct.n (S.take i)) = gs := ⟨_, rfl⟩; have hgl : gs.length ≤ i := by rw [← hgs]; exact grp_len i
 have hgm : ∀ r ∈ gs, r.1 ∈ us := by rw [← hgs]; exact fun r hr => hSm _ (List.mem_of_mem_take (grp_mem c Ct.n _ r hr))
 refine srp 5000 [1,4,8,11,12,15,16,19,22,58,59,86] ?_; refine sq ?_; refine cd ?_ ?_
 · intro h25_1
   have hlt : i < us.length := by simpa using h25_1
   obtain ⟨x0, hxe⟩ : ∃ x0, us[i] = x0 := ⟨_, rfl⟩; have hx : us[i]? = some x0 := by simp [hlt, hxe]
   clear hx hxe x0; obtain ⟨x, hxe⟩ : ∃ x, S[i]'(by omega) = x := ⟨_, rfl⟩
   have hx : S[i]? = some x := by rw [List.getElem?_eq_getElem (by omega), hxe]
   have hx2 : ∀ h : i < S.length, S[i]'h = x := fun h => (List.getElem?_eq_some_iff.1 hx).2
   have hw := wrap_succ (show i < Flat.lim by simp only [Flat.lim]; omega)
   have hxm := hSm x (List.mem_of_getElem? hx); have hiS : i < S.length := by omega
   have hgt := grp_take (c := c) (nm := Ct.n) hx; rw [hgs] at hgt; have hb1 : (gs.length + 1) * 48 ≤ 140737488355328 := by omega
   have hb2 : gs.length + 1 ≤ 140737488355328 := by omega
   refine k_skip ?_; refine sq ?_; refine k_block ?_; refine srp 6000 [1,4,8,11,12,15,16,19,22,58,59,86] ?_; refine sq ?_; refine srp 7000 [1,4,8,11,12,15,16,19,22,58,59,86] ?_; refine sq ?_; refine cv [(.tmp 43, vv (.bool ((((gs.length : Nat) : Int) == 0) || (c (gs.getD (gs.length - 1) (Ct.zero, [])).1 x != 0))))] ?_ ?_
   · skip
     rcases h0 : ((((gs.length : Nat) : Int) == 0) : Bool) with _ | _
     · skip
       have hgl0 : ¬ gs.length = 0 := by have := h0; simp at this; intro e; exact this (List.length_eq_zero_iff.1 e)
       obtain ⟨k, hk⟩ : ∃ k, k + 1 = gs.length := ⟨gs.length - 1, by omega⟩
       obtain ⟨r, hr⟩ : ∃ r, gs[k]? = some r := ⟨_, List.getElem?_eq_getElem (by omega)⟩
       have hr2 : ∀ h : k < gs.length, gs[k]'h = r := fun h => (List.getElem?_eq_some_iff.1 hr).2
       have hkl : k < gs.length := by omega
       have hwk := wsub hk (by simp only [Flat.lim]; omega)
       simp only [Int.natCast_one] at hwk; have hrm : r.1 ∈ us := hgm r (List.mem_of_getElem? hr); have hgd : gs.getD (gs.length - 1) (Ct.zero, []) = r := by rw [show gs.length - 1 = k by omega, List.getD_eq_getElem?_getD, hr]; rfl
       have hgd2 : gs[gs.length - 1]?.getD (Ct.zero, []) = r := by rw [show gs.length - 1 = k by omega, hr]; rfl
       refine dr ?_; refine de 8000 ?_; iterate 8 (first | refine dp 8750 ?_ | refine ds ?_ | refine dt 8750 ?_)
       refine dc id (hc r.1 hrm x hxm) ?_; first | refine dp 8950 ?_ | refine ds ?_ | refine dt 8950 ?_
       refine de 9000 ?_; refine dn ?_; refine k_nil ?_; refine ⟨rfl, ?_, ?_, ?_⟩ <;> simp [*]
     · skip
       refine dr ?_; refine de 1008000 ?_; iterate 8 (first | refine dp 1008750 ?_ | refine ds ?_ | refine dt 1008750 ?_)
       refine ds ?_; first | refine dp 1008950 ?_ | refine ds ?_ | refine dt 1008950 ?_
       refine de 1009000 ?_; refine dn ?_; refine k_nil ?_; refine ⟨rfl, ?_, ?_, ?_⟩ <;> simp [*]
   refine pr [1,4,8,11,12,15,16,19,22,58,59,86] ?_; refine cd ?_ ?_
   · intro h43_2
     have h43_2 : ((((gs.length : Nat) : Int) == 0) || (c (gs.getD (gs.length - 1) (Ct.zero, [])).1 x != 0)) = true := h43_2; have hor : gs.length = 0 ∨ ∃ r, gs[gs.length - 1]? = some r ∧ c r.1 x ≠ 0 := push_of h43_2; rw [gstep_push hor] at hgt; have h143 := spec143ec (gs ++ [(x, [])]) (gs.length + 1) gs.length (by simp) (x, []) (by simp) (Ct.n x)
     have hwk := wrap_nat (n := gs.length) (by simp only [Flat.lim]; omega)
     have hgsn : ((gs.length : Int) + 1 - 1) = (gs.length : Int) := by omega
     have hlt9 : (gs.length : Int) < (gs.length : Int) + 1 := by omega
     refine rgp 9000 [1,4,8,11,12,15,16,19,22,58,59,86] ?_; refine dr ?_; refine de 10000 ?_; refine dc id (hnm x hxm) ?_; refine dc (fun _ => 900) (h143) ?_
     refine dn ?_; refine k_nil ?_; show AK _ _ _ _ _ _; refine rg 11000 ?_; refine k_nil ?_; refine ⟨n - 1, by omega, _, ⟨?_, ?_, ?_⟩, i + 1, by omega, trivial, rfl⟩ <;> simp [*, *]
   · intro h43_2
     have h43_2 : ((((gs.length : Nat) : Int) == 0) || (c (gs.getD (gs.length - 1) (Ct.zero, [])).1 x != 0)) = false := h43_2; obtain ⟨hgl0, r, hr0, hcr⟩ := same_of h43_2; rw [gstep_same hr0 hcr] at hgt; obtain ⟨k, hk⟩ : ∃ k, k + 1 = gs.length := ⟨gs.length - 1, by omega⟩
     have hkk : gs.length - 1 = k := by omega
     rw [hkk] at hgt hr0; have hkl : k < gs.length := by omega
     have hr2 : ∀ h : k < gs.length, gs[k]'h = r := fun h => (List.getElem?_eq_some_iff.1 hr0).2
     have hwk := wsub hk (by simp only [Flat.lim]; omega)
     simp only [Int.natCast_one] at hwk; have h143 := spec143ec gs gs.length k rfl r hr0 (Ct.n x); refine k_skip ?_; refine dr ?_; refine de 10000 ?_; refine dc id (hnm x hxm) ?_; refine dc (fun _ => 900) (h143) ?_
     refine dn ?_; refine k_nil ?_; show AK _ _ _ _ _ _; refine rg 11000 ?_; refine k_nil ?_; refine ⟨n - 1, by omega, _, ⟨?_, ?_, ?_⟩, i + 1, by omega, trivial, rfl⟩ <;> simp [*, *]
 · intro h25_1
   have hge : us.length ≤ i := by simpa using h25_1
   obtain rfl : i = us.length := by omega
   have hgs : grp c Ct.n S = gs := by rw [← hgs, ← hSl, List.take_length]
   rw [hgs]; have hSt : S.take us.length = S := by rw [← hSl, List.take_length]
   refine k_exit ?_; show AK _ _ _ _ _ _; refine srp 12000 [3,4,8,11,14,15,16,19,60,86] ?_; refine ow (.tmp 14) 901 71 2 ?_; refine sq ?_; refine srp 13000 [3,4,8,10,14,15,16,19,60,86] ?_; refine k_block ?_; refine k_loop (fun n l => ∃ i, i + n = gs.length ∧ (orI ((gs.map fun g => (gfit g).2).drop i) = gerr gs) ∧ l = [(.tmp 3, .av (.fn (.func 162) [])), (.tmp 14, .av (.sl 901 (gout Ct.put (gs.take i)).length 0 (gout Ct.put (gs.take i)).length)), (.tmp 60, .av (.sl 900 gs.length 0 gs.length)), (.tmp 61, .av (vv (.int .i64 gs.length))), (.tmp 62, .av (vv (.int .i64 i))), (.arr 0, .arr 71 2 (S.map Ct.row) 0), (.arr 900, .arr 380 4 (gs.map Ct.grow) 0), (.arr 901, .arr 71 2 ((gout Ct.put (gs.take i)).map Ct.row) 0)]) (gs.length) hG ⟨_, ⟨by simp [gout, *], by simp, by simp⟩, 0, by simp, rfl, rfl⟩ ?_
   rintro n _ ⟨i, hin, hfa, rfl⟩; have hcm := hfa; have hol : (gout Ct.put (gs.take i)).length ≤ i := by have := gout_len (put := Ct.put) (gs := gs.take i); simp only [List.length_take] at this; omega
   refine srp 14000 [3,4,8,10,14,15,16,19,60,86] ?_; refine sq ?_; refine cd ?_ ?_
   · intro h63_3
     have hlt : i < gs.length := by simpa using h63_3
     obtain ⟨g, hxe⟩ : ∃ g, gs[i] = g := ⟨_, rfl⟩; have hx : gs[i]? = some g := by simp [hlt, hxe]
     have hw := wrap_succ (show i < Flat.lim by simp only [Flat.lim]; omega)
     have hgt := gout_take (put := Ct.put) hx; have hgm2 : g.1 ∈ us := hgm g (List.mem_of_getElem? hx); rw [orI_drop (show (gs.map fun g => (gfit g).2)[i]? = some (gfit g).2 by simp [hx])] at hcm
     have hgx2 : ∀ h : i < gs.length, gs[i]'h = g := fun h => (List.getElem?_eq_some_iff.1 hx).2
     have hgm := hgm2; have hb1 : ((gout Ct.put (gs.take i)).length + 1) * 32 ≤ 140737488355328 := by omega
     have hb2 : (gout Ct.put (gs.take i)).length + 1 ≤ 140737488355328 := by omega
     refine k_skip ?_; refine sq ?_; refine k_block ?_; refine srp 15000 [3,4,8,10,14,15,16,19,60,86] ?_; refine src 16000 ?_; refine oc (fun _ => 15002) (spec144gc g.1 (tsum g.2)) ?_
     refine oe 16100 ?_; refine onp [3,4,8,10,14,15,16,19,60,86] ?_; refine sq ?_; refine srp 17000 [3,4,8,10,14,15,16,19,60,86] ?_; refine cd ?_ ?_
     · intro h72_4
       have h2 : ((gfit g).2 != 0) = true := h72_4; rw [h2] at hcm; have hfin : gerr gs = (tfit (tsum g.2)).2 := by simpa [gfit] using hcm.symm
       have h2 : ((tfit (tsum g.2)).2 == 0) = false := by simpa [gfit] using h2
       refine srp 18000 [3,4,8,10,14,15,16,19,60,86] ?_; refine k_ret ?_; show retQ _ _ _ _ _ _ _; simp [*]
     · intro h72_4
       have h2 : ((gfit g).2 != 0) = false := h72_4; rw [h2] at hcm; have hnext : orI ((gs.map fun g => (gfit g).2).drop (i + 1)) = gerr gs := by simpa using hcm
       refine k_skip ?_; refine srp 19000 [3,4,8,10,14,15,16,19,60,86] ?_; refine cd ?_ ?_
       · intro h75_5
         have h3 : ((gfit g).1 != 0) = true := h75_5; rw [h3] at hgt; have hgt : gout Ct.put (gs.take (i + 1)) = (gout Ct.put (gs.take i)) ++ [Ct.put g.1 (tfit (tsum g.2)).1] := hgt; have hgfe : gfit g = tfit (tsum g.2) := rfl; refine rc 20000 ?_; refine oc id (hput g.1 hgm (tfit (tsum g.2)).1) ?_; refine oe 20100 ?_; refine on ?_; refine k_nil ?_; show AK _ _ _ _ _ _; refine rg 21000 ?_; refine k_nil ?_; refine ⟨n - 1, by omega, _, ⟨?_, ?_, ?_⟩, i + 1, by omega, hnext, rfl⟩ <;> simp [*, *]
       · intro h75_5
         have h3 : ((gfit g).1 != 0) = false := h75_5; rw [h3] at hgt; have hgt : gout Ct.put (gs.take (i + 1)) = (gout Ct.put (gs.take i)) := by rw [hgt]; simp
         refine k_skip ?_; refine k_nil ?_; show AK _ _ _ _ _ _; refine rg 21000 ?_; refine k_nil ?_; refine ⟨n - 1, by omega, _, ⟨?_, ?_, ?_⟩, i + 1, by omega, hnext, rfl⟩ <;> simp [*, *]
   · intro h63_3
     have hge : gs.length ≤ i := by simpa using h63_3
     obtain rfl : i = gs.length := by omega
     rw [List.drop_eq_nil_of_le (by simp)] at hcm
     have hge0 : gerr gs = 0 := hcm.symm; have hgtk : gs.take gs.length = gs := List.take_length ..; have hgo : ((gout Ct.put gs).map Ct.row).take (gout Ct.put gs).length = (gout Ct.put gs).map Ct.row := List.take_of_length_le (by simp)
     refine k_exit ?_; show AK _ _ _ _ _ _; refine srp 22000 [8,10] ?_; refine fz 900 ?_; refine fz 901 ?_; refine k_ret ?_; show retQ _ _ _ _ _ _ _; simp [*]
end
section
def offC (n : Nat) (c : Int) : Bool := decide (c < 0) || decide ((n : Int) ≤ c)
def colV2 (row : List Val) (c : Int) : Val := row.getD c.toNat vZ
def colsR (row : List Val) (cols : List Int) : List Val × Int :=
 if checkRow row != 0 then ([], checkRow row) else if cols.any (offC row.length) then ([], 1) else if decide (8 < (cols.length : Int)) then ([], 2) else (cols.map (colV2 row), 0)
def badL (l r : Int) : Bool := decide (l < 0) || (decide (2 ≤ l) || (decide (r < 1) || decide (16 < r)))
def refR (l r : Int) (us : List Up) : Int := orI [chkUs us, if badL l r then 1 else 0]
structure MapTo (f : Up → Up) (us cur : List Up) (i : Nat) : Prop where
 len : cur.length = us.length
 lo : ∀ j u, j < i → us[j]? = some u → cur[j]? = some (f u)
 hi : ∀ j, i ≤ j → cur[j]? = us[j]?
theorem MapTo.start (f : Up → Up) (us : List Up) : MapTo f us us 0 := ⟨rfl, fun j u h => by omega, fun _ _ => rfl⟩
theorem MapTo.step {f : Up → Up} {us cur : List Up} {i : Nat} (h : MapTo f us cur i) {u : Up} (hu : us[i]? = some u) : MapTo f us (cur.set i (f u)) (i + 1) := by
 have hi := (List.getElem?_eq_some_iff.1 hu).1; refine ⟨by rw [List.length_set, h.len], fun j v hj hv => ?_, fun j hj => ?_⟩
 · by_cases e : j = i
   · subst e
     rw [hu] at hv; simp only [Option.some.injEq] at hv; subst hv; rw [List.getElem?_set_self (by rw [h.len]; exact hi)]
   · rw [List.getElem?_set_ne (by omega)]
     exact h.lo j v (by omega) hv
 · rw [List.getElem?_set_ne (by omega)]
   exact h.hi j (by omega)
theorem MapTo.done {f : Up → Up} {us cur : List Up} {i : Nat} (h : MapTo f us cur i) (hi : us.length ≤ i) : cur = us.map f := by
 apply List.ext_getElem?; intro j; rw [List.getElem?_map]
 cases hu : us[j]? with
 | some u => exact h.lo j u (by have := (List.getElem?_eq_some_iff.1 hu).1; omega) hu
 | none =>
   have := List.getElem?_eq_none_iff.1 hu; rw [List.getElem?_eq_none_iff.2 (by rw [h.len]; exact this)]
   rfl
theorem any_step {α : Type} {p : α → Bool} {l : List α} {i : Nat} {x : α} {b : Bool} (h : (l.drop i).any p = b) (hx : l[i]? = some x) : (p x || (l.drop (i + 1)).any p) = b := by rw [← any_take hx]; exact h
theorem off_in {n : Nat} {x : Int} (h : offC n x = false) : ∃ k : Nat, x = (k : Int) ∧ k < n := by
 simp only [offC, Bool.or_eq_false_iff, decide_eq_false_iff_not] at h; exact ⟨x.toNat, by omega, by omega⟩
attribute [local simp] irow Val.row in
theorem spec93 (row : List Val) (hrow : row.length ≤ Flat.lim) (cols : List Int) (hc : cols.length ≤ Bnd) : Flat.Sp Tryz.prog 173 [.p (.ps (row.map Val.row)), .p (.ps (cols.map irow))] [] (.tup [.p (.ps ((colsR row cols).1.map Val.row)), vv (.int .i64 (colsR row cols).2)]) [] := by
 refine sk Tryz.func173 ?_; intro F G hn hG; have hb : cols.length ≤ 1048576 := hc; obtain ⟨vs, hvs⟩ : ∃ vs, cols.map (colV2 row) = vs := ⟨_, rfl⟩; have hvl : vs.length = cols.length := by rw [← hvs, List.length_map]
 refine srp 1000 [0,2,4,8,9,41] ?_; refine sq ?_; refine src 2000 ?_; refine oc id (spec54 row hrow) ?_; refine oe 2100 ?_; refine onp [0,2,4,8,9,10,12,41] ?_; refine srp 3000 [0,2,4,8,9,10,13,41] ?_; refine cd ?_ ?_
 · intro h13_1
   have h1 : (checkRow row != 0) = true := h13_1; have hR : colsR row cols = ([], checkRow row) := by rw [colsR, h1]; rfl
   refine srp 4000 [0,2,4,6,7,8,9,10,15,41] ?_; refine k_ret ?_; show retQ _ _ _ _ _ _ _; simp [*]
 · intro h13_1
   have h1 : (checkRow row != 0) = false := h13_1; refine k_skip ?_; refine srp 5000 [0,2,4,6,7,8,9,10,15,41] ?_; refine ow (.tmp 7) 900 25 3 ?_; refine sq ?_; refine srp 6000 [0,1,4,6,7,8,9,10,15,41] ?_; refine k_block ?_; refine k_loop (fun n l => ∃ i, i + n = cols.length ∧ ((cols.drop i).any (offC row.length) = cols.any (offC row.length)) ∧ l = [(.tmp 0, .av (.p (.ps (row.map Val.row)))), (.tmp 7, .av (.sl 900 i 0 i)), (.tmp 15, .av (.p (.ps (cols.map irow)))), (.tmp 16, .av (vv (.int .i64 cols.length))), (.tmp 17, .av (vv (.int .i64 i))), (.arr 900, .arr 25 3 ((vs.map Val.row).take i) 0)]) (cols.length) hG ⟨_, ⟨by simp, by simp, by simp⟩, 0, by simp, rfl, rfl⟩ ?_
   rintro n _ ⟨i, hin, hfa, rfl⟩; have hcm := hfa; refine srp 7000 [0,1,4,6,7,8,9,10,15,41] ?_; refine sq ?_; refine cd ?_ ?_
   · intro h18_2
     have hlt : i < cols.length := by simpa using h18_2
     obtain ⟨x, hxe⟩ : ∃ x, cols[i] = x := ⟨_, rfl⟩; have hx : cols[i]? = some x := by simp [hlt, hxe]
     have hw := wrap_succ (show i < Flat.lim by simp only [Flat.lim]; omega)
     have hcm2 := any_step hcm hx; have hmi : min i cols.length = i := by omega
     have hb1 : (i + 1) * 32 ≤ 140737488355328 := by omega
     have hb2 : i + 1 ≤ 140737488355328 := by omega
     refine k_skip ?_; refine sq ?_; refine k_block ?_; refine srp 8000 [0,1,4,6,7,8,9,10,15,41] ?_; refine sq ?_; refine src 9000 ?_; iterate 4 (first | refine gp 9350 ?_ | refine os ?_ | refine gt 9350 ?_)
     refine oe 9400 ?_; refine onp [0,1,4,6,7,8,9,10,15,41] ?_; refine cd ?_ ?_
     · intro h28_3
       have h2 : offC row.length x = true := h28_3; rw [h2] at hcm2; have hR : colsR row cols = ([], 1) := by rw [colsR, h1, ← hcm2]; rfl
       refine srp 10000 [0,1,4,6,7,8,9,10,15,41] ?_; refine k_ret ?_; show retQ _ _ _ _ _ _ _; simp [*]
     · intro h28_3
       have h2 : offC row.length x = false := h28_3; rw [h2] at hcm2; have hnext : (cols.drop (i + 1)).any (offC row.length) = cols.any (offC row.length) := hcm2; obtain ⟨xn, rfl, hxn⟩ := off_in h2; obtain ⟨v, hv⟩ : ∃ v, row[xn]? = some v := ⟨_, List.getElem?_eq_getElem hxn⟩; have hv2 : ∀ h : xn < row.length, row[xn]'h = v := fun h => (List.getElem?_eq_some_iff.1 hv).2
       have hyx : vs[i]? = some v := by rw [← hvs]; simp [hx, colV2, hv]
       have htm := tmap_succ (f := Val.row) hyx; simp only [Val.row] at htm; refine k_skip ?_; refine rg 11000 ?_; refine k_nil ?_; show AK _ _ _ _ _ _; refine rg 12000 ?_; refine k_nil ?_; refine ⟨n - 1, by omega, _, ⟨?_, ?_, ?_⟩, i + 1, by omega, hnext, rfl⟩ <;> simp [*]
   · intro h18_2
     have hge : cols.length ≤ i := by simpa using h18_2
     obtain rfl : i = cols.length := by omega
     have hao : cols.any (offC row.length) = false := by rw [← hcm, List.drop_eq_nil_of_le (Nat.le_refl _)]; rfl
     have hfr : (vs.map Val.row).take cols.length = vs.map Val.row := List.take_of_length_le (by simp [hvl])
     refine k_exit ?_; show AK _ _ _ _ _ _; refine sq ?_; refine srp 13000 [4,6,7,8,39,41] ?_; refine cd ?_ ?_
     · intro h39_4
       have h3 : decide (8 < (cols.length : Int)) = true := by simpa using h39_4
       have hR : colsR row cols = ([], 2) := by rw [colsR, h1, hao, h3]; rfl
       refine srp 14000 [4,6,7,8,40,41] ?_; refine k_ret ?_; show retQ _ _ _ _ _ _ _; simp [*]
     · intro h39_4
       have h3 : decide (8 < (cols.length : Int)) = false := by simpa using h39_4
       have hR : colsR row cols = (vs, 0) := by rw [colsR, h1, hao, h3, hvs]; rfl
       refine k_skip ?_; refine srp 15000 [4,6] ?_; refine fz 900 ?_; refine k_ret ?_; show retQ _ _ _ _ _ _ _; simp [*]
attribute [local simp] irow refR in
theorem spec94 (l r : Int) (us : List Up) (hlen : us.length ≤ Flat.lim) (hsm : Up.sms us) : Flat.Sp Tryz.prog 174 [vv (.int .i64 l), vv (.int .i64 r), .p (.ps (us.map Up.row))] [] (vv (.int .i64 (refR l r us))) [] := by
 refine sk Tryz.func174 ?_; intro F G hn hG; refine srp 1000 [0,3,6,27] ?_; refine srp 2000 [0,3,6,27] ?_; refine sq ?_; refine src 3000 ?_; iterate 2 (first | refine gp 3150 ?_ | refine os ?_ | refine gt 3150 ?_)
 refine oe 3200 ?_; iterate 2 (first | refine gp 3350 ?_ | refine os ?_ | refine gt 3350 ?_)
 refine oe 3400 ?_; iterate 2 (first | refine gp 3550 ?_ | refine os ?_ | refine gt 3550 ?_)
 refine oe 3600 ?_; refine onp [2,3,6,8,21,27] ?_; refine cd ?_ ?_
 · intro h21_1
   have hb : badL l r = true := by simpa [badL, Bool.or_assoc] using h21_1
   refine rgp 4000 [2,3,6,8,22,27] ?_; refine src 5000 ?_; refine oc id (spec80 us hlen hsm) ?_; refine oe 5100 ?_; refine oc id (spec97 [chkUs us, if badL l r then 1 else 0] (by simp [Flat.lim])) ?_
   refine oe 5200 ?_; refine onp [6,7] ?_; refine k_ret ?_; show retQ _ _ _ _ _ _ _; simp [*]
 · intro h21_1
   have hb : badL l r = false := by simpa [badL, Bool.or_assoc] using h21_1
   refine k_skip ?_; refine src 5000 ?_; refine oc id (spec80 us hlen hsm) ?_; refine oe 5100 ?_; refine oc id (spec97 [chkUs us, if badL l r then 1 else 0] (by simp [Flat.lim])) ?_
   refine oe 5200 ?_; refine onp [6,7] ?_; refine k_ret ?_; show retQ _ _ _ _ _ _ _; simp [*]
def keyd (cols : List Int) (u : Up) : Up := ⟨(colsR u.r cols).1, u.r, u.t, u.d⟩
def arrErr (cols : List Int) (us : List Up) : Int := orI (us.map fun u => (colsR u.r cols).2)
def arrR (cols : List Int) (us : List Up) : List Up × Int :=
 if chkUs us != 0 then ([], chkUs us) else if arrErr cols us != 0 then ([], arrErr cols us) else consR [us.map (keyd cols)]
theorem colsR_len (row : List Val) (cols : List Int) : (colsR row cols).1.length ≤ cols.length := by
 unfold colsR
 repeat' split
 all_goals simp
attribute [local simp] Up.row lrow in
theorem spec47 (cols : List Int) (hc : cols.length ≤ Bnd) (us : List Up) (hus : us.length ≤ Cap) (hsm : Up.sms us) : Flat.Sp Tryz.prog 81 [.p (.ps (cols.map irow)), .p (.ps (us.map Up.row))] [] (.tup [.p (.ps ((arrR cols us).1.map Up.row)), vv (.int .i64 (arrR cols us).2)]) [] := by
 refine sk Tryz.func81 ?_; intro F G hn hG; have hcap : Cap ≤ Flat.lim := by decide
 have hcap2 : Cap = 1073741824 := rfl
 have hks : Up.sms (us.map (keyd cols)) := by
   intro u hu; obtain ⟨v, hv, rfl⟩ := List.mem_map.1 hu; exact ⟨Nat.le_trans (colsR_len v.r cols) hc, (hsm v hv).2⟩
 refine srp 1000 [0,2,4,47] ?_; refine sq ?_; refine src 2000 ?_; refine oc id (spec80 us (by omega) hsm) ?_
 refine oe 2100 ?_; refine onp [0,2,4,11,13,47] ?_; refine srp 3000 [0,2,4,11,14,47] ?_; refine cd ?_ ?_
 · intro h14_1
   have h1 : (chkUs us != 0) = true := h14_1; have hR : arrR cols us = ([], chkUs us) := by rw [arrR, h1]; rfl
   refine srp 4000 [0,2,4,6,7,11,16,47] ?_; refine k_ret ?_; show retQ _ _ _ _ _ _ _; simp [*]
 · intro h14_1
   have h1 : (chkUs us != 0) = false := h14_1; refine k_skip ?_; refine src 5000 ?_; refine oc (fun _ => 900) (spec92 us hus) ?_
   refine oe 5100 ?_; refine onp [0,1,4,6,7,11,18,47] ?_; refine sq ?_; refine srp 6000 [0,1,4,6,7,11,19,47] ?_; refine k_block ?_; refine k_loop (fun n l => ∃ (i : Nat) (cur : List Up), i + n = us.length ∧ (MapTo (keyd cols) us cur i ∧ orI ((us.map fun u => (colsR u.r cols).2).drop i) = arrErr cols us) ∧ l = [(.tmp 0, .av (.p (.ps (cols.map irow)))), (.tmp 7, .av (.sl 900 us.length 0 us.length)), (.tmp 19, .av (vv (.int .i64 us.length))), (.tmp 20, .av (vv (.int .i64 i))), (.arr 900, .arr 37 6 (cur.map Up.row) 0)]) (us.length) hG ⟨_, ⟨by simp, by simp, by simp⟩, 0, us, by simp, ⟨.start _ _, rfl⟩, rfl⟩ ?_
   rintro n _ ⟨i, cur, hin, ⟨hM, hcm⟩, rfl⟩; have hcl := hM.len; refine srp 7000 [0,1,4,6,7,11,19,47] ?_; refine sq ?_; refine cd ?_ ?_
   · intro h21_2
     have hlt : i < us.length := by simpa using h21_2
     obtain ⟨x, hxe⟩ : ∃ x, us[i] = x := ⟨_, rfl⟩; have hx : us[i]? = some x := by simp [hlt, hxe]
     have hw := wrap_succ (show i < Flat.lim by omega)
     have hxs := hsm x (List.mem_of_getElem? hx); have hcx : cur[i]? = some x := by rw [hM.hi i (Nat.le_refl _)]; exact hx
     have hcx2 : ∀ h : i < cur.length, cur[i]'h = x := fun h => (List.getElem?_eq_some_iff.1 hcx).2
     have hicl : i < cur.length := by omega
     rw [orI_drop (show (us.map fun u => (colsR u.r cols).2)[i]? = some (colsR x.r cols).2 by simp [hx])] at hcm
     refine k_skip ?_; refine sq ?_; refine k_block ?_; refine srp 8000 [0,1,4,6,7,11,19,47] ?_; refine src 9000 ?_; refine oc id (spec93 x.r (Up.sm_lim hxs).2 cols hc) ?_; refine oe 9100 ?_; refine onp [0,1,4,6,7,11,19,47] ?_; refine sq ?_; refine srp 10000 [0,1,4,6,7,11,19,47] ?_; refine cd ?_ ?_
     · intro h34_3
       have h2 : ((colsR x.r cols).2 != 0) = true := h34_3; rw [h2] at hcm; have hae : arrErr cols us = (colsR x.r cols).2 := by simpa using hcm.symm
       have hR : arrR cols us = ([], (colsR x.r cols).2) := by rw [arrR, h1, hae, h2]; rfl
       refine srp 11000 [0,1,4,6,7,11,19,47] ?_; refine k_ret ?_; show retQ _ _ _ _ _ _ _; simp [*]
     · intro h34_3
       have h2 : ((colsR x.r cols).2 != 0) = false := h34_3; rw [h2] at hcm; have hnext : orI ((us.map fun u => (colsR u.r cols).2).drop (i + 1)) = arrErr cols us := by simpa using hcm
       refine k_skip ?_; refine rg 12000 ?_; refine k_nil ?_; show AK _ _ _ _ _ _; refine rg 13000 ?_; refine k_nil ?_; refine ⟨n - 1, by omega, _, ⟨?_, ?_, ?_⟩, i + 1, cur.set i (keyd cols x), by omega, ⟨hM.step hx, hnext⟩, rfl⟩ <;> simp [*, keyd]
   · intro h21_2
     have hge : us.length ≤ i := by simpa using h21_2
     obtain rfl : i = us.length := by omega
     rw [List.drop_eq_nil_of_le (by simp)] at hcm
     have hae : arrErr cols us = 0 := hcm.symm; obtain rfl := hM.done (Nat.le_refl _); have hR : arrR cols us = consR [us.map (keyd cols)] := by rw [arrR, h1, hae]; rfl
     have hfr : (us.map (Up.row ∘ keyd cols)).take us.length = us.map (Up.row ∘ keyd cols) := List.take_of_length_le (by simp)
     refine fz 900 ?_; refine k_exit ?_; show AK _ _ _ _ _ _; refine src 14000 ?_; refine oc id (spec45 [us.map (keyd cols)] (by simp [Cap]) (by rw [cat_one]; simp; omega) (by intro l hl; rw [List.mem_singleton] at hl; rw [hl]; exact hks)) ?_
     refine oe 14100 ?_; refine onp [4,6] ?_; refine k_ret ?_; show retQ _ _ _ _ _ _ _; simp [*]
end
section
def bump (l : Int) (t : Tm) : Tm := if l == 0 then ⟨t.e, IntKind.u64.wrap (t.a + 1), t.b⟩ else ⟨t.e, t.a, IntKind.u64.wrap (t.b + 1)⟩
def nul (l : Int) (t : Tm) : Tm := if l == 0 then ⟨t.e, 0, t.b⟩ else ⟨t.e, t.a, 0⟩
def nxt (l : Int) (u : Up) : Up := ⟨u.k, u.r, bump l u.t, (timesR u.d (-1)).1⟩
def badX (l : Int) (u : Up) : Bool := (timesR u.d (-1)).2 != 0 || chkT (bump l u.t) != 0
def entS (l : Int) (a : List Up × Fa) (u : Up) : List Up × Fa := if badX l u then (a.1 ++ [u], noteR a.2 u.t) else (a.1 ++ [u] ++ [nxt l u], a.2)
def entL (l : Int) (us : List Up) : List Up × Fa := us.foldl (entS l) ([], (false, Tm.zero))
def finR3 (d : List Up × Fa) : List Up × Tm × Int := (d.1, if d.2.1 then d.2.2 else Tm.zero, if d.2.1 then 10 else 0)
def nulU (l : Int) (u : Up) : Up := ⟨u.k, u.r, nul l u.t, u.d⟩
theorem entL_snoc {l : Int} {us : List Up} {i : Nat} {x : Up} (h : us[i]? = some x) : entL l (us.take (i + 1)) = entS l (entL l (us.take i)) x := by
 rw [entL, entL, List.take_add_one, h, List.foldl_append]; rfl
theorem entS_sms {l : Int} {a : List Up × Fa} {u : Up} (h : Up.sms a.1) (hu : u.sm) : Up.sms (entS l a u).1 := by
 unfold entS; split
 · intro v hv
   rcases List.mem_append.1 hv with hv | hv
   · exact h v hv
   · rw [List.mem_singleton] at hv; rw [hv]; exact hu
 · intro v hv
   rcases List.mem_append.1 hv with hv | hv
   · rcases List.mem_append.1 hv with hv | hv
     · exact h v hv
     · rw [List.mem_singleton] at hv; rw [hv]; exact hu
   · rw [List.mem_singleton] at hv; rw [hv]; exact hu
theorem entS_len {l : Int} {a : List Up × Fa} {u : Up} : (entS l a u).1.length ≤ a.1.length + 2 := by
 unfold entS; split <;> simp
theorem ent_ok (l : Int) {us : List Up} (h : Up.sms us) : ∀ i : Nat, i ≤ us.length → Up.sms (entL l (us.take i)).1 ∧ (entL l (us.take i)).1.length ≤ 2 * i
 | 0, _ => ⟨fun u hu => by simp [entL] at hu, by simp [entL]⟩
 | i + 1, hi => by
   obtain ⟨h1, h2⟩ := ent_ok l h i (by omega)
   obtain ⟨x, hx⟩ : ∃ x, us[i]? = some x := ⟨_, List.getElem?_eq_getElem (by omega)⟩
   rw [entL_snoc hx]; exact ⟨entS_sms h1 (h x (List.mem_of_getElem? hx)), Nat.le_trans entS_len (by omega)⟩
attribute [local simp] Up.row Tm.av Tm.row finR3 Tm.zero bump in
theorem spec49_0 (r : Int) (us : List Up) (hus : us.length ≤ 4 * Bnd) (hsm : Up.sms us) (h0 : (refR 0 r us != 0) = false) : Flat.Sp Tryz.prog 82 [vv (.int .i64 0), vv (.int .i64 r), .p (.ps (us.map Up.row))] [] (.tup [.p (.ps ((finR3 (doneR (entL 0 us).2 (entL 0 us).1)).1.map Up.row)), (finR3 (doneR (entL 0 us).2 (entL 0 us).1)).2.1.av, vv (.int .i64 (finR3 (doneR (entL 0 us).2 (entL 0 us).1)).2.2)]) [] := by
 refine sk Tryz.func82 ?_; intro F G hn hG; have hcap : Cap ≤ Flat.lim := by decide
 have hcap2 : Cap = 1073741824 := rfl; have hus1 : us.length ≤ 4194304 := hus; have hz0 : entL 0 [] = ([], (false, ⟨0, 0, 0⟩)) := rfl; refine srp 1000 [0,3,6,11,12,35,36,68,69,72,73,79] ?_; refine sq ?_; refine src 2000 ?_; refine oc id (spec94 0 r us (by omega) hsm) ?_
 refine oe 2100 ?_; refine onp [0,1,2,3,6,11,12,16,20,35,36,68,69,72,73,79] ?_; refine srp 3000 [0,1,2,3,6,11,12,16,21,35,36,68,69,72,73,79] ?_; refine ce ?_; refine k_skip ?_; refine srp 5000 [0,1,2,3,6,9,10,11,12,16,26,35,36,68,69,72,73,79] ?_; refine ow (.cell 5001 4) 900 37 6 ?_; refine sq ?_; refine srp 6000 [0,1,6,9,10,11,12,16,26,35,36,68,69,72,73,79] ?_; refine k_block ?_; refine k_loop (fun n l => ∃ i, i + n = us.length ∧ (True) ∧ l = [(.tmp 0, .av (vv (.int .i64 0))), (.tmp 7, .av (.ptr 1001 0)), (.var 1001, .n 3), (.cell 1001 0, .av (vv (.int .u64 0))), (.cell 1001 1, .av (vv (.int .u64 0))), (.cell 1001 2, .av (vv (.int .u64 0))), (.tmp 10, .av (.ptr 5001 0)), (.tmp 26, .av (.p (.ps (us.map Up.row)))), (.tmp 27, .av (vv (.int .i64 us.length))), (.tmp 28, .av (vv (.int .i64 i))), (.var 5001, .n 5), (.cell 5001 0, .av (vv (.bool (entL 0 (us.take i)).2.1))), (.cell 5001 1, .av (vv (.int .u64 (entL 0 (us.take i)).2.2.e))), (.cell 5001 2, .av (vv (.int .u64 (entL 0 (us.take i)).2.2.a))), (.cell 5001 3, .av (vv (.int .u64 (entL 0 (us.take i)).2.2.b))), (.cell 5001 4, .av (.sl 900 (entL 0 (us.take i)).1.length 0 (entL 0 (us.take i)).1.length)), (.arr 900, .arr 37 6 ((entL 0 (us.take i)).1.map Up.row) 0)]) (us.length) hG ⟨_, ⟨by simp [*], by simp, by simp⟩, 0, by simp, trivial, rfl⟩ ?_
 rintro n _ ⟨i, hin, hfa, rfl⟩; obtain ⟨has, hal⟩ := ent_ok 0 hsm i (by omega)
 obtain ⟨a, ha⟩ : ∃ a, entL 0 (us.take i) = a := ⟨_, rfl⟩; rw [ha] at has hal; refine srp 7000 [0,1,6,9,10,11,12,16,26,35,36,68,69,72,73,79] ?_; refine sq ?_; refine cd ?_ ?_
 · intro h29_1
   have hlt : i < us.length := by simpa using h29_1
   obtain ⟨x, hxe⟩ : ∃ x, us[i] = x := ⟨_, rfl⟩; have hx : us[i]? = some x := by simp [hlt, hxe]
   have hw := wrap_succ (show i < Flat.lim by omega)
   have hes := entL_snoc (l := 0) hx; rw [ha] at hes; refine k_skip ?_; refine sq ?_; refine k_block ?_; refine srp 8000 [0,1,6,9,10,11,12,16,26,35,36,68,69,72,73,79] ?_; refine src 9000 ?_; refine oc (fun k => if k = 0 then 5001 else 900) (spec83 a.2 a.1 [x] (by simp; omega)) ?_
   refine onp [0,1,6,9,10,11,12,16,26,35,36,68,69,72,73,79] ?_; refine src 10000 ?_; refine oc id (spec95 x.d (-1)) ?_; refine oe 10100 ?_; refine onp [0,1,6,9,10,11,12,16,26,35,36,68,69,72,73,79] ?_; refine srp 11000 [0,1,6,9,10,11,12,16,26,35,36,68,69,72,73,79] ?_; refine srp 12000 [0,1,6,9,10,11,12,16,26,35,36,68,69,72,73,79] ?_; refine srp 13000 [0,1,6,9,10,11,12,16,26,35,36,68,69,72,73,79] ?_; refine sq ?_; refine src 14000 ?_; iterate 3 (first | refine gp 14250 ?_ | refine os ?_ | refine gt 14250 ?_)
   refine og (fun hg => spec96 (bump 0 x.t)) ?_
   first | refine gp 14450 ?_ | refine os ?_ | refine gt 14450 ?_
   refine oe 14500 ?_; refine onp [0,1,6,9,10,11,12,16,26,35,36,68,69,72,73,79] ?_; refine cd ?_ ?_
   · intro h62_2
     have hbx : badX 0 x = true := h62_2
     replace hes : entL 0 (us.take (i + 1)) = (a.1 ++ [x], noteR a.2 x.t) := by rw [hes, entS, hbx]; rfl
     refine sq ?_; refine dr ?_; refine de 15000 ?_; refine dc (fun k => if k = 0 then 5001 else 900) (spec82s (a.1 ++ [x]) a.2 x.t) ?_
     refine dn ?_; refine pr [0,1,6,9,10,11,12,16,26,35,36,68,69,72,73,79] ?_; refine k_exit ?_; show AK _ _ _ _ _ _; refine rg 17000 ?_; refine k_nil ?_; refine ⟨n - 1, by omega, _, ⟨?_, ?_, ?_⟩, i + 1, by omega, trivial, rfl⟩ <;> simp [*, *]
   · intro h62_2
     have hbx : badX 0 x = false := h62_2
     replace hes : entL 0 (us.take (i + 1)) = (a.1 ++ [x] ++ [(⟨x.k, x.r, bump 0 x.t, (timesR x.d (-1)).1⟩ : Up)], a.2) := by rw [hes, entS, hbx]; rfl
     refine k_skip ?_; refine rc 16000 ?_; refine oc (fun k => if k = 0 then 5001 else 900) (spec83 a.2 (a.1 ++ [x]) [(⟨x.k, x.r, bump 0 x.t, (timesR x.d (-1)).1⟩ : Up)] (by simp; omega)) ?_
     refine on ?_; refine k_nil ?_; show AK _ _ _ _ _ _; refine rg 17000 ?_; refine k_nil ?_; refine ⟨n - 1, by omega, _, ⟨?_, ?_, ?_⟩, i + 1, by omega, trivial, rfl⟩ <;> simp [*, *]
 · intro h29_1
   have hge : us.length ≤ i := by simpa using h29_1
   obtain rfl : i = us.length := by omega
   have htk : us.take us.length = us := List.take_length ..; rw [htk] at ha; have hfr : (a.1.map Up.row).take a.1.length = a.1.map Up.row := List.take_of_length_le (by simp)
   rw [ha]; refine fz 900 ?_; refine k_exit ?_; show AK _ _ _ _ _ _; refine src 18000 ?_; refine oc (fun _ => 5001) (spec84 a.2 a.1 (by omega) has) ?_
   refine oe 18100 ?_; refine onp [6,9] ?_; refine k_ret ?_; show retQ _ _ _ _ _ _ _; simp [*]
end
section
attribute [local simp] Up.row Tm.av finR3 Tm.zero nul in
theorem spec51_0 (us : List Up) (hus : us.length ≤ Cap) (hsm : Up.sms us) (h0 : (refR 0 1 us != 0) = false) : Flat.Sp Tryz.prog 84 [vv (.int .i64 0), .p (.ps (us.map Up.row))] [] (.tup [.p (.ps ((finR3 (doneR (false, Tm.zero) (us.map (nulU 0)))).1.map Up.row)), (finR3 (doneR (false, Tm.zero) (us.map (nulU 0)))).2.1.av, vv (.int .i64 (finR3 (doneR (false, Tm.zero) (us.map (nulU 0)))).2.2)]) [] := by
 refine sk Tryz.func84 ?_; intro F G hn hG; have hcap : Cap ≤ Flat.lim := by decide
 have hcap2 : Cap = 1073741824 := rfl
 have hks : Up.sms (us.map (nulU 0)) := by
   intro u hu; obtain ⟨v, hv, rfl⟩ := List.mem_map.1 hu; exact hsm v hv
 refine srp 1000 [0,2,4,45] ?_; refine sq ?_; refine src 2000 ?_; refine oc id (spec94 0 1 us (by omega) hsm) ?_
 refine oe 2100 ?_; refine onp [0,2,4,10,13,45] ?_; refine srp 3000 [0,2,4,10,14,45] ?_; refine ce ?_; refine k_skip ?_; refine src 5000 ?_; refine oc id (spec92 us hus) ?_; refine oe 5100 ?_; refine onp [0,1,4,7,8,10,21,45] ?_; refine sq ?_; refine srp 6000 [0,1,4,7,8,10,25,45] ?_; refine k_block ?_; refine k_loop (fun n l => ∃ (i : Nat) (cur : List Up), i + n = us.length ∧ MapTo (nulU 0) us cur i ∧ l = [(.tmp 0, .av (vv (.int .i64 0))), (.tmp 5, .av (.ptr 1001 0)), (.var 1001, .n 3), (.cell 1001 0, .av (vv (.int .u64 0))), (.cell 1001 1, .av (vv (.int .u64 0))), (.cell 1001 2, .av (vv (.int .u64 0))), (.tmp 8, .av (.ptr 5101 0)), (.tmp 25, .av (vv (.int .i64 us.length))), (.tmp 26, .av (vv (.int .i64 i))), (.var 5101, .n 5), (.cell 5101 0, .av (vv (.bool false))), (.cell 5101 1, .av (vv (.int .u64 0))), (.cell 5101 2, .av (vv (.int .u64 0))), (.cell 5101 3, .av (vv (.int .u64 0))), (.cell 5101 4, .av (.sl 4002 us.length 0 us.length)), (.arr 4002, .arr 37 6 (cur.map Up.row) 0)]) (us.length) hG ⟨_, ⟨by simp, by simp, by simp⟩, 0, us, by simp, .start _ _, rfl⟩ ?_
 rintro n _ ⟨i, cur, hin, hM, rfl⟩; have hcl := hM.len; refine srp 7000 [0,1,4,7,8,10,25,45] ?_; refine sq ?_; refine cd ?_ ?_
 · intro h27_1
   have hlt : i < us.length := by simpa using h27_1
   obtain ⟨x, hxe⟩ : ∃ x, us[i] = x := ⟨_, rfl⟩; have hx : us[i]? = some x := by simp [hlt, hxe]
   have hw := wrap_succ (show i < Flat.lim by omega)
   have hcx : cur[i]? = some x := by rw [hM.hi i (Nat.le_refl _)]; exact hx
   have hcx2 : ∀ h : i < cur.length, cur[i]'h = x := fun h => (List.getElem?_eq_some_iff.1 hcx).2
   have hicl : i < cur.length := by omega
   refine k_skip ?_; refine sq ?_; refine k_block ?_; refine srp 8000 [0,1,4,7,8,10,25,45] ?_; refine rg 9000 ?_; refine k_nil ?_; show AK _ _ _ _ _ _; refine rg 10000 ?_; refine k_nil ?_; refine ⟨n - 1, by omega, _, ⟨?_, ?_, ?_⟩, i + 1, cur.set i (nulU 0 x), by omega, hM.step hx, rfl⟩ <;> simp [*, nulU]
 · intro h27_1
   have hge : us.length ≤ i := by simpa using h27_1
   obtain rfl : i = us.length := by omega
   obtain rfl := hM.done (Nat.le_refl _); have hfr : (us.map (Up.row ∘ nulU 0)).take us.length = us.map (Up.row ∘ nulU 0) := List.take_of_length_le (by simp)
   refine fz 4002 ?_; refine k_exit ?_; show AK _ _ _ _ _ _; refine src 11000 ?_; refine oc (fun _ => 5101) (spec84 (false, Tm.zero) (us.map (nulU 0)) (by simp; omega) hks) ?_
   refine oe 11100 ?_; refine onp [4,7] ?_; refine k_ret ?_; show retQ _ _ _ _ _ _ _; simp [*]
end
end Go.Proofs
end
