/-
  Nothing is left here. (and 13 texts more)
-/
import Derived.Test.YtgkkoeodinlffaaGreatPartO
import Derived.Test.YtgkkoeodinlffaaGreatFlatP
import Derived.Test.YtgkkoeodinlffaaGreatPartG
section
set_option linter.unusedVariables false
set_option linter.unusedSimpArgs false

end
section
namespace Go.Proofs
open Go.Flat
set_option maxRecDepth 100000
set_option linter.unusedVariables false
set_option linter.unusedSimpArgs false
attribute [local simp] Bool.and_assoc Bool.or_assoc evalG evalX efD skF guardG guardL isCall stepL evalOp ev evs lk tmpsL app AV.ok fresh vv putCells insV ins del putL place Go.Flat.look fillC fillR getCells loadF storeF binF scalarBin intBin strBin isShift shiftBin unF lenF maxF minF rowsF appendF builtinF idxF natOf sliceP sliceF optEv Flat.cut overwrite toPV toPVs constAV scalarC scalarCs AV.cells TI.isAgg allSome andAll scalarEq buildable Go.Flat.lim retQ resL resAll resOne PartOf noTmp closedIn refs refs.refsL isSomeV hasB ids leA leA.leL renA renA.renL callB refsAll backL dropIds renS LiesAt injB ownB freshB memN locId insAll leA_refl leL_refl okS frzS frzA frzA.frzL evalD feet fine updCells cellsFrom memP footRf footWf noTmpU updIds opOps opIds idsA footR footW guardTs opTs dstTs callR callW renLoc renC inBlockQ thenQ Value.oneCell' IntKind.bits IntKind.signed PV.up toPH toPHs
section
attribute [local simp] famOK bigB
def onceL (cs : List Ct) : List Ct := cs.map fun c => onceC [c.r]
@[simp] theorem onceL_len (cs : List Ct) : (onceL cs).length = cs.length := by simp [onceL]
end
end Go.Proofs
end
section
set_option linter.unusedVariables false
set_option linter.unusedSimpArgs false

end
section
namespace Go.Proofs
open Go.Flat
set_option maxRecDepth 100000
set_option linter.unusedVariables false
set_option linter.unusedSimpArgs false
attribute [local simp] Bool.and_assoc Bool.or_assoc evalG evalX efD skF guardG guardL isCall stepL evalOp ev evs lk tmpsL app AV.ok fresh vv putCells insV ins del putL place Go.Flat.look fillC fillR getCells loadF storeF binF scalarBin intBin strBin isShift shiftBin unF lenF maxF minF rowsF appendF builtinF idxF natOf sliceP sliceF optEv Flat.cut overwrite toPV toPVs constAV scalarC scalarCs AV.cells TI.isAgg allSome andAll scalarEq buildable Go.Flat.lim retQ resL resAll resOne PartOf noTmp closedIn refs refs.refsL isSomeV hasB ids leA leA.leL renA renA.renL callB refsAll backL dropIds renS LiesAt injB ownB freshB memN locId insAll leA_refl leL_refl okS frzS frzA frzA.frzL evalD feet fine updCells cellsFrom memP footRf footWf noTmpU updIds opOps opIds idsA footR footW guardTs opTs dstTs callR callW renLoc renC inBlockQ thenQ Value.oneCell' IntKind.bits IntKind.signed PV.up toPH toPHs
section
attribute [local simp] famOK bigB Pl.row_eq Pl.av
attribute [local simp] lrowk in
theorem zs20_s (k m : Int) (kids : List Pl) (ex : List E) (cols wth : List Int) (agg rds : Int) (ss : List (List Int)) (S : List (List Ct)) (tt : List Int) (er hv : Int) (h21 : Flat.Sp Tryz.prog 21 [(Pl.mk k m kids ex cols wth agg rds).av, .p (.ps (ss.map srow))] [] (.tup [.p (.ps (tt.map trow)), vv (.int .i64 er)]) []) (h63 : Flat.Sp Tryz.prog 63 [.p (.ps (S.map lrowk)), .p (.ps (ss.map srow))] [] (vv (.int .i64 hv)) []) (a : List Ct) (e : Int) (ha : Sml a) (r : List Ct × Int) (hr1 : (er != 0) = true → r = ([], er)) (hr2 : (er != 0) = false → (hv != 0) = true → r = ([], hv)) (hr3 : (er != 0) = false → (hv != 0) = false → (e != 0) = true → r = ([], e)) (hr4 : (er != 0) = false → (hv != 0) = false → (e != 0) = false → r = mrgR [a]) (h64 : (er != 0) = false → (hv != 0) = false → Flat.Sp Tryz.prog 64 [.ptr 0 0, (Pl.mk k m kids ex cols wth agg rds).av] [(.var 0, .n 3), (.cell 0 0, .av (vv (.int .i64 (0)))), (.cell 0 1, .av (.p (.ps (S.map lrowk)))), (.cell 0 2, .av (.psf []))] (.p (.ps (a.map Ct.row))) [(.var 0, .n 3), (.cell 0 0, .av (vv (.int .i64 (e)))), (.cell 0 1, .av (.p (.ps (S.map lrowk)))), (.cell 0 2, .av (.psf []))]) : Flat.Sp Tryz.prog 20 [(Pl.mk k m kids ex cols wth agg rds).av, .p (.ps (S.map lrowk)), .p (.ps (ss.map srow))] [] (.tup [.p (.ps (r.1.map Ct.row)), vv (.int .i64 r.2)]) [] := by
 refine sk Tryz.func20 ?_; intro F G hn hG; have h27 : Flat.Sp Tryz.prog 27 [.p (.ps [[.ps (a.map Ct.row)]])] [] (.tup [.p (.ps ((mrgR [a]).1.map Ct.row)), vv (.int .i64 (mrgR [a]).2)]) [] := zs27_one a ha; simp only [Pl.av] at h21 h64; refine srp 1000 [1,4,6,8,9,48] ?_; refine sq ?_; refine src 2000 ?_; refine oc id (h21) ?_; refine oe 2100 ?_; refine onp [1,4,6,8,9,13,19,48] ?_; refine srp 3000 [1,4,6,8,9,13,20,48] ?_; refine cd ?_ ?_
 · intro h20_1
   have hfin := hr1 h20_1; refine srp 4000 [1,4,6,8,10,13,22,48] ?_; refine k_ret ?_; show retQ _ _ _ _ _ _ _; simp [*]
 · intro h20_1
   have he0 := h20_1; refine k_skip ?_; refine sq ?_; refine src 5000 ?_; refine oc id (h63) ?_; refine oe 5100 ?_; refine onp [1,2,3,4,6,8,10,13,25,48] ?_; refine srp 6000 [1,2,3,4,6,8,10,13,26,48] ?_; refine cd ?_ ?_
   · intro h26_2
     have hfin := hr2 he0 h26_2; refine srp 7000 [1,2,3,4,6,8,11,13,28,48] ?_; refine k_ret ?_; show retQ _ _ _ _ _ _ _; simp [*]
   · intro h26_2
     have h64b := h64 he0 h26_2; have hv0 := h26_2; refine k_skip ?_; refine srp 8000 [3,4,6,8,11,13,31,48] ?_; refine src 9000 ?_; refine oc (fun _ => 8002) (h64b) ?_
     refine oe 9100 ?_; refine onp [6,8,11,13,34,48] ?_; refine sq ?_; refine srp 10000 [6,8,11,13,38,48] ?_; refine cd ?_ ?_
     · intro h38_3
       have hfin := hr3 he0 hv0 h38_3; refine sq ?_; refine dr ?_; refine de 11000 ?_; refine dn ?_; refine pr [6,8,12,13,43,48] ?_; refine k_ret ?_; show retQ _ _ _ _ _ _ _; simp [*]
     · intro h38_3
       have hfin := hr4 he0 hv0 h38_3; refine k_skip ?_; refine src 12000 ?_; refine oc id (h27) ?_; refine oe 12100 ?_; refine onp [6,8] ?_; refine k_ret ?_; show retQ _ _ _ _ _ _ _; simp [*]
end
section
attribute [local simp] famOK bigB Pl.row_eq Pl.av
def l4 : Val := ⟨false, 4, ⟨#[]⟩⟩
def lX : Pl := .mk 1 0 [] [] [] [] 0 0
end
end Go.Proofs
end
section
set_option linter.unusedVariables false
set_option linter.unusedSimpArgs false
namespace Go.Proofs
open Go.Flat
def nfV (v : Val) : Val := ⟨v.t, v.kn, v.ks⟩
theorem nf_cmp {a b : Val} (h : a.cmp b = 0) : nfV a = nfV b := by
 obtain ⟨ta, na, sa⟩ := a; obtain ⟨tb, nb, sb⟩ := b; cases ta <;> cases tb <;> simp [Val.cmp, cmpI_eq, cmpS_list, nfV, Val.kn, Val.ks] at h ⊢
 · exact h
 · exact toList_inj h
theorem nf_right {v : Val} (h : v.right = true) : nfV v = v := by
 obtain ⟨t, n, s⟩ := v; cases t <;> simp [Val.right] at h <;> simp [nfV, Val.kn, Val.ks]
 · exact toList_inj (by rw [h, ByteArray.toList_eq])
 · exact h.1.symm
def nfR (r : List Val) : List Val := r.map nfV
theorem nfR_cmp : ∀ {a b : List Val}, rowsC a b = 0 → nfR a = nfR b
 | [], [], _ => rfl
 | [], _ :: _, h => by simp [rowsC, cmpBy] at h
 | _ :: _, [], h => by simp [rowsC, cmpBy] at h
 | x :: a, y :: b, h => by
   unfold rowsC at h; rw [cmpBy_cons] at h
   by_cases hx : x.cmp y = 0
   · rw [hx] at h
     simp only [bne_self_eq_false, Bool.false_eq_true, if_false] at h; simp only [nfR, List.map_cons]; rw [nf_cmp hx, show a.map nfV = b.map nfV from nfR_cmp (a := a) (b := b) h]
   · rw [if_pos (by simpa using hx)] at h
     exact absurd h hx
theorem nfR_right {r : List Val} (h : checkRow r = 0) : nfR r = r := by
 have hr := row_right h; unfold nfR; rw [List.map_congr_left fun v hv => nf_right (hr v hv), List.map_id']
theorem sumP_congr {α : Type} {P Q : α → Bool} {nm : α → Int} {l : List α} (h : ∀ x ∈ l, P x = Q x) : sumP P nm l = sumP Q nm l := by
 unfold sumP; rw [List.filter_congr h]
theorem piles_fit {cs : List Ct} (hg : ∀ c ∈ cs, i64 c.n) (hl : cs.length ≤ 4294967296) (h0 : (cntR cs).2 = 0) : ∀ g ∈ pilesK cs, gfit g = (g.2.sum, 0) := by
 have hperm : (isrt (ltU cmpK) cs).Perm cs := isrt_perm _; have hG : Grp cmpK Ct.n (isrt (ltU cmpK) cs) (pilesK cs) := grp_ok cmpK_ok.cmp Ct.n _ (isrt_line cmpK_ord _); intro g hg'
 have hns : (∀ n ∈ g.2, i64 n) ∧ g.2.length ≤ 4294967296 := by
   rw [hG.pile g hg']; refine ⟨fun n hn => ?_, ?_⟩
   · obtain ⟨x, hx, rfl⟩ := List.mem_map.1 hn
     exact hg x (hperm.mem_iff.1 (List.mem_filter.1 hx).1)
   · rw [alike, List.length_map]
     have := List.length_filter_le (fun x => decide (cmpK g.1 x = 0)) (isrt (ltU cmpK) cs)
     rw [isrt_length] at this; omega
 have e : gerr (pilesK cs) = 0 := h0; rw [gerr, orI_zero] at e; have h3 := e _ (List.mem_map.2 ⟨g, hg', rfl⟩); rw [gfit, fit_sum hns.1 hns.2] at h3 ⊢; split at h3
 · rename_i q; rw [if_pos q]
 · simp at h3
theorem cnt_out {cs : List Ct} (h0 : (cntR cs).2 = 0) : (cntR cs).1 = gout Ct.put (pilesK cs) := by
 have e : gerr (pilesK cs) = 0 := h0; show (if gerr (pilesK cs) != 0 then [] else gout Ct.put (pilesK cs)) = _
 rw [if_neg (by rw [e]; decide)]
theorem cnt_sum {L : List Ct} (hg : ∀ c ∈ L, i64 c.n) (hl : L.length ≤ 4294967296) (hr : ∀ c ∈ L, checkRow c.r = 0) (h0 : (cntR L).2 = 0) (P : List Val → Bool) :
   sumP (fun c => P c.r) Ct.n (cntR L).1 = sumP (fun c : Ct => P c.r) Ct.n L := by
 have A := cnt_ok hg hl; have e1 : sumP (fun c : Ct => P c.r) Ct.n L = sumP (fun c : Ct => P (nfR c.r)) Ct.n L := sumP_congr fun c hc => by rw [nfR_right (hr c hc)]
 have e2 : sumP (fun c : Ct => P c.r) Ct.n (cntR L).1 = sumP (fun c : Ct => P (nfR c.r)) Ct.n (cntR L).1 := sumP_congr fun c hc => by
   obtain ⟨-, ⟨v, hv, hvr⟩, -⟩ := A.mem c hc; rw [hvr, nfR_right (hr v hv)]
 rw [e1, e2, cnt_out h0, sum_out (P := fun c : Ct => P (nfR c.r)) (put := Ct.put) (nm := Ct.n) (fun x n => rfl) (fun x n => rfl) (piles_fit hg hl h0), pilesK, sumG_grp (fun x y h => by rw [nfR_cmp h]), sumP_perm (isrt_perm _)]
structure Col (L : List Ct) : Prop where
 st : L.Pairwise fun x y => ltC cmpK x y = true
 ok : ∀ c ∈ L, checkRow c.r = 0 ∧ c.n ≠ 0 ∧ i64 c.n
theorem TK_mem {L : List Ct} (hE : L.Pairwise fun x y => ltC cmpK x y = true) {u : Ct} (hu : u ∈ L) : TK L u = u.n := by
 induction L with
 | nil => simp at hu
 | cons x l ih =>
   obtain ⟨h1, h2⟩ := List.pairwise_cons.1 hE; unfold TK; rw [sumP_cons]; rcases List.mem_cons.1 hu with rfl | hm
   · have h0 : sumP (fun y => decide (cmpK u y = 0)) Ct.n l = 0 := by
       have : l.filter (fun y => decide (cmpK u y = 0)) = [] := by
         rw [List.filter_eq_nil_iff]; intro y hy
         simpa using cmpK_ok.cmp.ne_of_lt (h1 y hy)
       rw [sumP, this]; rfl
     rw [h0, cmpK_ok.cmp.refl]; simp
   · have hne := cmpK_ok.cmp.ne_of_gt (h1 u hm)
     have := ih h2 hm; unfold TK at this; rw [this]; simp [hne]
theorem colK_cnt {L : List Ct} (hc : Col L) (hl : L.length ≤ 4294967296) : cntR L = (L, 0) := by
 have A := cnt_ok (fun c h => (hc.ok c h).2.2) hl
 have h0 : (cntR L).2 = 0 := A.err.2 fun u hu => by rw [TK_mem hc.st hu]; exact (hc.ok u hu).2.2
 refine Prod.ext ?_ h0; refine strict_ext cmpK_ok.cmp _ _ A.st hc.st fun u => ⟨fun hu => ?_, fun hu => ?_⟩
 · obtain ⟨n1, ⟨v, hv, hvr⟩, n2⟩ := A.mem u hu
   have : TK L u = TK L v := TK_congr (by show rowsC u.r v.r = 0; rw [hvr]; exact rowsC_ok.refl _)
   rw [TK_mem hc.st hv] at this; have : u = v := by cases u; cases v; simp only [Ct.mk.injEq]; exact ⟨hvr, by simp only at n2 this; omega⟩
   rw [this]; exact hv
 · have hz : TK L u ≠ 0 := by rw [TK_mem hc.st hu]; exact (hc.ok u hu).2.1
   obtain ⟨w, hw, hwc⟩ := A.all h0 u hu hz; obtain ⟨m1, ⟨y, hy, hyr⟩, m2⟩ := A.mem w hw; have e := (cmpK_eq (by rw [hyr]; exact (hc.ok y hy).1) (hc.ok u hu).1).1 hwc
   have : w = u := by
     have hn : w.n = u.n := by rw [← m2, TK_congr hwc, TK_mem hc.st hu]
     cases w; cases u; simp only [Ct.mk.injEq]; exact ⟨e, hn⟩
   rw [← this]; exact hw
theorem cnt_col {L : List Ct} (hg : ∀ c ∈ L, i64 c.n) (hl : L.length ≤ 4294967296) (hr : ∀ c ∈ L, checkRow c.r = 0) (h0 : (cntR L).2 = 0) : Col (cntR L).1 := by
 have A := cnt_ok hg hl; refine ⟨A.st, fun u hu => ?_⟩
 obtain ⟨n1, ⟨v, hv, hvr⟩, n2⟩ := A.mem u hu; refine ⟨by rw [hvr]; exact hr v hv, n1, ?_⟩
 have := A.err.1 h0 v hv; rw [← n2, TK_congr (show cmpK u v = 0 from by show rowsC u.r v.r = 0; rw [hvr]; exact rowsC_ok.refl _)]
 exact this
theorem mrg_of {ls : List (List Ct)} (h : ∀ c ∈ catk ls, checkRow c.r = 0) : mrgR ls = cntR (catk ls) := by
 have : orI ((catk ls).map ckC) = 0 := orI_zero.2 fun x hx => by obtain ⟨c, hc, rfl⟩ := List.mem_map.1 hx; exact h c hc
 unfold mrgR; rw [if_neg (by rw [this]; decide)]
theorem mrg_ok {ls : List (List Ct)} (h : (mrgR ls).2 = 0) : (∀ c ∈ catk ls, checkRow c.r = 0) ∧ mrgR ls = cntR (catk ls) := by
 have h1 : ∀ c ∈ catk ls, checkRow c.r = 0 := by
   unfold mrgR at h; split at h
   · rename_i hh
     simp only at h; rw [h] at hh; simp at hh
   · rename_i hh
     have h0 : orI ((catk ls).map ckC) = 0 := by simpa using hh
     exact fun c hc => orI_zero.1 h0 _ (List.mem_map.2 ⟨c, hc, rfl⟩)
 exact ⟨h1, mrg_of h1⟩
theorem mrg_col {L : List Ct} (hc : Col L) (hl : L.length ≤ 4294967296) : mrgR [L] = (L, 0) := by
 rw [mrg_of (by rw [catk_one]; exact fun c h => (hc.ok c h).1), catk_one, colK_cnt hc hl]
theorem row_eight {r : List Val} (h : checkRow r = 0) : r.length ≤ 8 := by
 unfold checkRow at h; split at h
 · cases h
 · rename_i hb
   simp only [badRow, Bool.or_eq_true, decide_eq_true_eq, not_or] at hb; omega
theorem sameBy_refl {α : Type} {f : α → α → Bool} (h : ∀ x, f x x = true) : ∀ l : List α, sameBy f l l = true
 | [] => rfl
 | x :: l => by rw [sameBy, h x, sameBy_refl h l]; rfl
theorem sameK_refl (x : Ct) : sameK x x = true := by
 have : sameV x.r x.r = true := sameBy_refl (fun v => by simp [Val.eqB]) _
 simp [sameK, diffK, this]
end Go.Proofs
end
section
namespace Go.Proofs
open Go.Flat
set_option maxRecDepth 100000
set_option linter.unusedVariables false
set_option linter.unusedSimpArgs false
attribute [local simp] Bool.and_assoc Bool.or_assoc evalG evalX efD skF guardG guardL isCall stepL evalOp ev evs lk tmpsL app AV.ok fresh vv putCells insV ins del putL place Go.Flat.look fillC fillR getCells loadF storeF binF scalarBin intBin strBin isShift shiftBin unF lenF maxF minF rowsF appendF builtinF idxF natOf sliceP sliceF optEv Flat.cut overwrite toPV toPVs constAV scalarC scalarCs AV.cells TI.isAgg allSome andAll scalarEq buildable Go.Flat.lim retQ resL resAll resOne PartOf noTmp closedIn refs refs.refsL isSomeV hasB ids leA leA.leL renA renA.renL callB refsAll backL dropIds renS LiesAt injB ownB freshB memN locId insAll leA_refl leL_refl okS frzS frzA frzA.frzL evalD feet fine updCells cellsFrom memP footRf footWf noTmpU updIds opOps opIds idsA footR footW guardTs opTs dstTs callR callW renLoc renC inBlockQ thenQ Value.oneCell' IntKind.bits IntKind.signed PV.up toPH toPHs
section
attribute [local simp] Pl.row_eq Pl.av
theorem lX_row : lX.row = [.v (.int .u8 1), .v (.int .i64 0), .ps [], .ps [], .ps [], .ps [], .v (.int .u8 0), .v (.int .i64 0)] := by simp [lX]
end
section
def ofR (er hv e : Int) (a : List Ct) : List Ct × Int := if er != 0 then ([], er) else if hv != 0 then ([], hv) else if e != 0 then ([], e) else mrgR [a]
theorem zs20_r (p : Pl) (ss : List (List Int)) (S : List (List Ct)) (tt : List Int) (er hv : Int) (h21 : Flat.Sp Tryz.prog 21 [p.av, .p (.ps (ss.map srow))] [] (.tup [.p (.ps (tt.map trow)), vv (.int .i64 er)]) []) (h63 : Flat.Sp Tryz.prog 63 [.p (.ps (S.map lrowk)), .p (.ps (ss.map srow))] [] (vv (.int .i64 hv)) []) (a : List Ct) (e : Int) (ha : Sml a) (h64 : (er != 0) = false → (hv != 0) = false → Flat.Sp Tryz.prog 64 [.ptr 0 0, p.av] [(.var 0, .n 3), (.cell 0 0, .av (vv (.int .i64 (0)))), (.cell 0 1, .av (.p (.ps (S.map lrowk)))), (.cell 0 2, .av (.psf []))] (.p (.ps (a.map Ct.row))) [(.var 0, .n 3), (.cell 0 0, .av (vv (.int .i64 (e)))), (.cell 0 1, .av (.p (.ps (S.map lrowk)))), (.cell 0 2, .av (.psf []))]) :
   Flat.Sp Tryz.prog 20 [p.av, .p (.ps (S.map lrowk)), .p (.ps (ss.map srow))] [] (.tup [.p (.ps ((ofR er hv e a).1.map Ct.row)), vv (.int .i64 (ofR er hv e a).2)]) [] := by
 obtain ⟨k, m, kids, ex, cols, wth, agg, rds⟩ := p; refine zs20_s k m kids ex cols wth agg rds ss S tt er hv h21 h63 a e ha _ (fun h => ?_) (fun h h2 => ?_) (fun h h2 h3 => ?_) (fun h h2 h3 => ?_) h64
 · unfold ofR; rw [if_pos h]
 · unfold ofR; rw [if_neg (by rw [h]; decide), if_pos h2]
 · unfold ofR; rw [if_neg (by rw [h]; decide), if_neg (by rw [h2]; decide), if_pos h3]
 · unfold ofR; rw [if_neg (by rw [h]; decide), if_neg (by rw [h2]; decide), if_neg (by rw [h3]; decide)]
theorem src_l (l : List Ct) : Flat.Sp Tryz.prog 64 [.ptr 0 0, lX.av] [(.var 0, .n 3), (.cell 0 0, .av (vv (.int .i64 (0)))), (.cell 0 1, .av (.p (.ps ([l].map lrowk)))), (.cell 0 2, .av (.psf []))] (.p (.ps (l.map Ct.row))) [(.var 0, .n 3), (.cell 0 0, .av (vv (.int .i64 (0)))), (.cell 0 1, .av (.p (.ps ([l].map lrowk)))), (.cell 0 2, .av (.psf []))] := zs64_src0 0 [l] 0 l rfl [] [] [] [] 0 0
end
end Go.Proofs
end
section
set_option linter.unusedVariables false
set_option linter.unusedSimpArgs false

end
section
set_option linter.unusedVariables false
set_option linter.unusedSimpArgs false
namespace Go.Proofs
open Go.Flat
def sgK (k : Int) : Int := if k == 6 then -1 else 1
def selK (k : Int) (ex : List E) (P : List Val → Bool) (r : List Val) : Bool := if k == 6 then P r else if k == 3 then P (evR ex r).1 else !(((evR ex r).1.getD 0 vZ).n == 0) && P r
theorem one_sum {k : Int} {ex : List E} {c : Ct} (hg : i64 c.n) (h : (oneM k ex c).2 = 0) (P : List Val → Bool) : sumP (fun c => P c.r) Ct.n (oneM k ex c).1 = sgK k * (if selK k ex P c.r then c.n else 0) := by
 unfold oneM at h ⊢; unfold sgK selK
 by_cases h6 : (k == 6) = true
 · rw [if_pos h6] at h
   rw [if_pos h6, if_pos h6, if_pos h6]; have := times_neg hg h; rw [sumP_cons, sumP_nil]; simp only [this]; cases P c.r <;> simp
 · rw [if_neg h6] at h
   rw [if_neg h6, if_neg h6, if_neg h6]
   by_cases he : ((evR ex c.r).2 != 0) = true
   · rw [if_pos he] at h
     simp only at h; rw [h] at he; simp at he
   · rw [if_neg he]
     by_cases h3 : (k == 3) = true
     · rw [if_pos h3, if_pos h3, sumP_cons, sumP_nil]
       cases P (evR ex c.r).1 <;> simp
     · rw [if_neg h3, if_neg h3]
       by_cases hz : (((evR ex c.r).1.getD 0 vZ).n == 0) = true
       · rw [if_pos hz, hz]
         simp [sumP]
       · rw [if_neg hz, show (((evR ex c.r).1.getD 0 vZ).n == 0) = false by simpa using hz, sumP_cons, sumP_nil]
         cases P c.r <;> simp
theorem err_each {k : Int} {ex : List E} {L : List Ct} (h : oneErr k ex L = 0) : ∀ c ∈ L, (oneM k ex c).2 = 0 := fun c hc => orI_zero.1 h _ (List.mem_map.2 ⟨c, hc, rfl⟩)
theorem all_sum {k : Int} {ex : List E} : ∀ {L : List Ct}, (∀ c ∈ L, i64 c.n) → (∀ c ∈ L, (oneM k ex c).2 = 0) → ∀ P : List Val → Bool, sumP (fun c => P c.r) Ct.n (oneAll k ex L) = sgK k * sumP (fun c : Ct => selK k ex P c.r) Ct.n L
 | [], _, _, P => by simp [oneAll, sumP]
 | c :: L, hg, he, P => by
   have h1 := one_sum (hg c (by simp)) (he c (by simp)) P
   have h2 := all_sum (L := L) (fun x hx => hg x (by simp [hx])) (fun x hx => he x (by simp [hx])) P
   have e : oneAll k ex (c :: L) = (oneM k ex c).1 ++ oneAll k ex L := by simp [oneAll]
   rw [e, sumP_app, h1, h2, sumP_cons, Int.mul_add]
theorem oneM_i64 {k : Int} {ex : List E} {c : Ct} (hg : i64 c.n) : ∀ x ∈ (oneM k ex c).1, i64 x.n := by
 unfold oneM
 repeat' split
 · intro x hx; simp at hx; subst hx; exact times_i64 _ _
 · intro x hx; simp at hx
 · intro x hx; simp at hx; subst hx; exact hg
 · intro x hx; simp at hx
 · intro x hx; simp at hx; subst hx; exact hg
theorem oneAll_i64 {k : Int} {ex : List E} {L : List Ct} (hg : ∀ c ∈ L, i64 c.n) : ∀ x ∈ oneAll k ex L, i64 x.n := fun x hx => by
 obtain ⟨c, hc, hx⟩ := List.mem_flatMap.1 hx; exact oneM_i64 (hg c hc) x hx
theorem TK_P (cs : List Ct) (r : Ct) : TK cs r = sumP (fun c : Ct => decide (rowsC r.r c.r = 0)) Ct.n cs := rfl
theorem each_ok {k : Int} {ex : List E} {L : List Ct} (h : (eachR k ex L).2 = 0) : oneErr k ex L = 0 ∧ (∀ c ∈ oneAll k ex L, checkRow c.r = 0) ∧ (cntR (oneAll k ex L)).2 = 0 ∧ eachR k ex L = cntR (oneAll k ex L) := by
 have h0 : oneErr k ex L = 0 := by
   unfold eachR at h; split at h
   · exact h
   · rename_i hh; simpa using hh
 have e : eachR k ex L = mrgR [oneAll k ex L] := by unfold eachR; rw [if_neg (by rw [h0]; decide)]
 rw [e] at h; obtain ⟨h1, h2⟩ := mrg_ok h; rw [catk_one] at h1 h2; exact ⟨h0, h1, by rw [← h2]; exact h, by rw [e, h2]⟩
theorem bnd_ex : ∀ L : List Ct, ∃ B, ∀ c ∈ L, c.r.length ≤ B
 | [] => ⟨0, by simp⟩
 | c :: L => by
   obtain ⟨B, h⟩ := bnd_ex L; refine ⟨max B c.r.length, fun x hx => ?_⟩
   rcases List.mem_cons.1 hx with rfl | hx
   · omega
   · have := h x hx; omega
theorem cnt_len {L : List Ct} : (cntR L).1.length ≤ L.length := by
 obtain ⟨B, h⟩ := bnd_ex L; exact (cnt_sms h).2
end Go.Proofs
end
section
namespace Go.Proofs
open Go.Flat
set_option maxRecDepth 100000
set_option linter.unusedVariables false
set_option linter.unusedSimpArgs false
attribute [local simp] Bool.and_assoc Bool.or_assoc evalG evalX efD skF guardG guardL isCall stepL evalOp ev evs lk tmpsL app AV.ok fresh vv putCells insV ins del putL place Go.Flat.look fillC fillR getCells loadF storeF binF scalarBin intBin strBin isShift shiftBin unF lenF maxF minF rowsF appendF builtinF idxF natOf sliceP sliceF optEv Flat.cut overwrite toPV toPVs constAV scalarC scalarCs AV.cells TI.isAgg allSome andAll scalarEq buildable Go.Flat.lim retQ resL resAll resOne PartOf noTmp closedIn refs refs.refsL isSomeV hasB ids leA leA.leL renA renA.renL callB refsAll backL dropIds renS LiesAt injB ownB freshB memN locId insAll leA_refl leL_refl okS frzS frzA frzA.frzL evalD feet fine updCells cellsFrom memP footRf footWf noTmpU updIds opOps opIds idsA footR footW guardTs opTs dstTs callR callW renLoc renC inBlockQ thenQ Value.oneCell' IntKind.bits IntKind.signed PV.up toPH toPHs
section
attribute [local simp] Pl.row_eq Pl.av
theorem lin_of {k m : Int} {ex : List E} {cols wth : List Int} {agg rds : Int} (hk : k = 3 ∨ k = 4 ∨ k = 6) (hb : (Pl.mk k m [lX] ex cols wth agg rds).bnd) (ts : List Int) (a : List Ct) (ha : Sml a) :
   Flat.Sp Tryz.prog 20 [(Pl.mk k m [lX] ex cols wth agg rds).av, .p (.ps ([a].map lrowk)), .p (.ps ([ts].map srow))] [] (.tup [.p (.ps ((ofR (inferP [ts] (Pl.mk k m [lX] ex cols wth agg rds)).2 (haveR [a] [ts]) (eachR k ex a).2 (eachR k ex a).1).1.map Ct.row)), vv (.int .i64 (ofR (inferP [ts] (Pl.mk k m [lX] ex cols wth agg rds)).2 (haveR [a] [ts]) (eachR k ex a).2 (eachR k ex a).1).2)]) [] := by
 have hb0 := hb; rw [Pl.bnd] at hb
 have hsm : Sml (eachR k ex a).1 := by
   unfold eachR; split
   · exact ⟨by simp, by simp⟩
   · exact mrg_sml (oneAll_sml hb.2.1 ha)
 refine zs20_r _ [ts] [a] _ _ _ (spec29 _ hb0 [ts]) (zs63 [a] (by show 1 ≤ Cap; decide) (by intro x hx; simp at hx; rw [hx]; exact ha) [ts]) _ _ hsm fun he _ => ?_
 have h0 : (inferP [ts] (Pl.mk k m [lX] ex cols wth agg rds)).2 = 0 := by simpa using he
 have hg := Pl.good_gd _ 1 (checkP_good (inferP_zero h0).2.1); have hf := hg.1; rw [Pl.gd] at hf; have h4 := (formed_shape hf.1).2; have hsrc := src_l a; rcases hk with rfl | rfl | rfl
 · exact zs64_lin0 [a] 3 m ex cols wth agg rds 1 0 [] [] [] [] 0 0 rfl rfl rfl rfl rfl rfl rfl hb.2.1 (fun _ h => by cases h) a ha hsrc
 · exact zs64_lin0 [a] 4 m ex cols wth agg rds 1 0 [] [] [] [] 0 0 rfl rfl rfl rfl rfl rfl rfl hb.2.1 (fun _ _ => h4 rfl) a ha hsrc
 · exact zs64_lin0 [a] 6 m ex cols wth agg rds 1 0 [] [] [] [] 0 0 rfl rfl rfl rfl rfl rfl rfl hb.2.1 (fun h => by cases h) a ha hsrc
theorem ofR_zero {er hv e : Int} {a : List Ct} (h : (ofR er hv e a).2 = 0) : er = 0 ∧ hv = 0 ∧ e = 0 ∧ ofR er hv e a = mrgR [a] := by
 unfold ofR at h
 by_cases h1 : (er != 0) = true
 · rw [if_pos h1] at h; simp only at h; rw [h] at h1; simp at h1
 · rw [if_neg h1] at h
   by_cases h2 : (hv != 0) = true
   · rw [if_pos h2] at h; simp only at h; rw [h] at h2; simp at h2
   · rw [if_neg h2] at h
     by_cases h3 : (e != 0) = true
     · rw [if_pos h3] at h; simp only at h; rw [h] at h3; simp at h3
     · refine ⟨by simpa using h1, by simpa using h2, by simpa using h3, ?_⟩
       unfold ofR; rw [if_neg h1, if_neg h2, if_neg h3]
end
end Go.Proofs
end
section
set_option linter.unusedVariables false
set_option linter.unusedSimpArgs false
namespace Go.Proofs
open Go.Flat
theorem sumP_map {α β : Type} (P : β → Bool) (nm : β → Int) (f : α → β) : ∀ l : List α, sumP P nm (l.map f) = sumP (fun x => P (f x)) (fun x => nm (f x)) l
 | [] => rfl
 | x :: l => by rw [List.map_cons, sumP_cons, sumP_cons, sumP_map P nm f l]
theorem at_sum (Q : List Val → Bool) (t : Tm) : ∀ us : List Up, sumP (fun c : Ct => Q c.r) Ct.n (atL us t) = sumP (fun u : Up => aheadT u.t t && Q u.r) Up.d us
 | [] => rfl
 | u :: us => by
   rw [sumP_cons, ← at_sum Q t us, atL, atL, List.filter_cons]
   cases h : aheadT u.t t with
   | false => simp
   | true =>
     rw [if_pos rfl, List.map_cons, sumP_cons]; rfl
theorem oneU_sum {k : Int} {ex : List E} {u : Up} {t : Tm} (hk : k = 3 ∨ k = 4 ∨ k = 6) (h4 : k = 4 → ex.length = 1) (hg : i64 u.d) (h : (oneR k ex u).2 = true) (Q : List Val → Bool) :
   sumP (fun v : Up => aheadT v.t t && Q v.r) Up.d (oneR k ex u).1 = sgK k * (if aheadT u.t t && selK k ex Q u.r then u.d else 0) := by
 have h5 : ¬ (k == 5) = true := by rcases hk with rfl | rfl | rfl <;> decide
 have h44 : ¬ (k == 4 && (((ex.length : Nat) : Int) != 1)) = true := by
   rcases hk with rfl | rfl | rfl
   · simp
   · rw [h4 rfl]; decide
   · simp
 unfold oneR at h ⊢; rw [if_neg h5, if_neg h44] at h ⊢
 by_cases he : ((oneM k ex ⟨u.r, u.d⟩).2 != 0) = true
 · rw [if_pos he] at h; cases h
 · rw [if_neg he] at h ⊢
   by_cases hb : badC (oneM k ex ⟨u.r, u.d⟩).1 = true
   · rw [if_pos hb] at h; cases h
   · rw [if_neg hb]
     simp only; rw [sumP_map]; have h1 := one_sum (k := k) (ex := ex) (c := ⟨u.r, u.d⟩) hg (by simpa using he) Q
     show sumP (fun c : Ct => aheadT u.t t && Q c.r) (fun c => c.n) _ = _
     cases ha : aheadT u.t t with
     | false =>
       have h0 : ∀ l : List Ct, sumP (fun c : Ct => false && Q c.r) (fun c => c.n) l = 0 := fun l => by
         unfold sumP; rw [List.filter_eq_nil_iff.2 (by simp)]
         rfl
       rw [h0]; simp
     | true =>
       simp only [Bool.true_and]; exact h1
theorem mad_sum {k : Int} {ex : List E} {t : Tm} (hk : k = 3 ∨ k = 4 ∨ k = 6) (h4 : k = 4 → ex.length = 1) (Q : List Val → Bool) : ∀ {us : List Up}, gds us → (∀ u ∈ us, (oneR k ex u).2 = true) →
   sumP (fun v : Up => aheadT v.t t && Q v.r) Up.d (mad1 k ex us) = sgK k * sumP (fun u : Up => aheadT u.t t && selK k ex Q u.r) Up.d us
 | [], _, _ => by simp [mad1, sumP]
 | u :: us, hg, ho => by
   have h1 := oneU_sum hk h4 (t := t) (hg u (by simp)) (ho u (by simp)) Q
   have h2 := mad_sum hk h4 (t := t) Q (us := us) (fun x hx => hg x (by simp [hx])) (fun x hx => ho x (by simp [hx]))
   have e : mad1 k ex (u :: us) = (oneR k ex u).1 ++ mad1 k ex us := by simp [mad1]
   rw [e, sumP_app, h1, h2, sumP_cons, Int.mul_add]
theorem mad_sum5 {ex : List E} {t : Tm} (Q : List Val → Bool) : ∀ us : List Up, sumP (fun v : Up => aheadT v.t t && Q v.r) Up.d (mad1 5 ex us) = sumP (fun u : Up => aheadT u.t t && Q u.r) Up.d us
 | [] => by simp [mad1, sumP]
 | u :: us => by
   have h2 := mad_sum5 (ex := ex) (t := t) Q us; have e : mad1 5 ex (u :: us) = [u.bare] ++ mad1 5 ex us := by simp [mad1, oneR]
   rw [e, sumP_app, h2, sumP_cons, sumP_cons, sumP_nil, Int.add_zero]; rfl
theorem at_ok {us : List Up} {t : Tm} (h : (atR us t).2 = 0) : atE us t = 0 ∧ atR us t = cntR (atL us t) := by
 unfold atR at h ⊢
 by_cases h0 : (atE us t != 0) = true
 · rw [if_pos h0] at h; simp only at h; rw [h] at h0; simp at h0
 · rw [if_neg h0]
   exact ⟨by simpa using h0, rfl⟩
theorem at_rows {us : List Up} {t : Tm} (hr : rts us) (hg : gds us) : (∀ c ∈ atL us t, checkRow c.r = 0) ∧ (∀ c ∈ atL us t, i64 c.n) ∧ (atL us t).length ≤ us.length := by
 refine ⟨fun c hc => ?_, fun c hc => ?_, ?_⟩
 · obtain ⟨u, hu, rfl⟩ := List.mem_map.1 hc
   exact (chkU_parts (hr u (List.mem_filter.1 hu).1)).2.1
 · obtain ⟨u, hu, rfl⟩ := List.mem_map.1 hc
   exact hg u (List.mem_filter.1 hu).1
 · rw [atL, List.length_map]; exact List.length_filter_le ..
theorem invU (Q : List Val → Bool) (t : Tm) : ∀ x y : Up, cmpU x y = 0 → (aheadT x.t t && Q (nfR x.r)) = (aheadT y.t t && Q (nfR y.r)) := fun x y h => by
 obtain ⟨-, h2, h3⟩ := cmpU_parts h; rw [h3, nfR_cmp h2]
theorem made_sum {k : Int} {ex : List E} {us : List Up} {t : Tm} (hg : gds us) (hl : us.length ≤ 1048576) (h : (doR k ex us).2.2 = 0) (Q : List Val → Bool) :
   sumP (fun v : Up => aheadT v.t t && Q v.r) Up.d (doR k ex us).1 = sumP (fun v : Up => aheadT v.t t && Q v.r) Up.d (mad1 k ex us) ∧ rts (doR k ex us).1 ∧ gds (doR k ex us).1 ∧ (doR k ex us).1.length ≤ us.length := by
 obtain ⟨d1, d2, d3, d4, d5, d6⟩ := do_ok hg (by omega) h
 have hml := mad1_len k ex us; have hcat : cat [mad1 k ex us] = mad1 k ex us := by simp [cat]
 have C := cons_ok (ls := [mad1 k ex us]) (by rw [hcat]; exact d4) (by rw [hcat]; omega)
 rw [hcat] at C; obtain ⟨c1, c2, c3⟩ := C; obtain ⟨e1, e2, e3⟩ := c2 d5; rw [d6]
 have hr : rts (consR [mad1 k ex us]).1 := fun u hu => by
   obtain ⟨v, hv, q1, q2, q3⟩ := c3 u hu; have := chkU_parts (d3 v hv); exact chk_of (by rw [q1]; exact this.1) (by rw [q2]; exact this.2.1) (by rw [q3]; exact this.2.2)
 have hgd : gds (consR [mad1 k ex us]).1 := fun u hu => by
   obtain ⟨v, hv, q1, q2, q3⟩ := c3 u hu
   have hz : cmpU u v = 0 := by
     rw [cmpU, orI_zero]; intro x hx; simp only [List.mem_cons, List.not_mem_nil, or_false] at hx; rcases hx with rfl | rfl | rfl
     · rw [q1]; exact rowsC_ok.refl _
     · rw [q2]; exact rowsC_ok.refl _
     · rw [q3]; exact (cmpT_eq _ _).2 rfl
   have h1 := ((c1.1 d5).2) v hv; rw [← T_mem e1 hu, e2 u, T_congr hz]; exact h1
 have key : ∀ l : List Up, rts l → sumP (fun v : Up => aheadT v.t t && Q v.r) Up.d l = sumP (fun v : Up => aheadT v.t t && Q (nfR v.r)) Up.d l := fun l hl => sumP_congr fun v hv => by rw [nfR_right (chkU_parts (hl v hv)).2.1]
 have hlen := cons_len [mad1 k ex us]; rw [hcat] at hlen; exact ⟨by rw [key _ hr, key _ d3, e3 _ (invU Q t)], hr, hgd, by omega⟩
theorem means_lin {k : Int} {ex : List E} {us : List Up} {t : Tm} (hk : k = 3 ∨ k = 4 ∨ k = 6) (h4 : k = 4 → ex.length = 1) (hg : gds us) (hl : us.length ≤ 1048576) (h : (doR k ex us).2.2 = 0) (ha : (atR us t).2 = 0)
   (he : (eachR k ex (atR us t).1).2 = 0) (hgt : (atR (doR k ex us).1 t).2 = 0) : (atR (doR k ex us).1 t).1 = (eachR k ex (atR us t).1).1 := by
 obtain ⟨d1, d2, -, -, -, -⟩ := do_ok hg (by omega) h
 obtain ⟨-, a2⟩ := at_ok ha; obtain ⟨-, g2⟩ := at_ok hgt; obtain ⟨r1, r2, r3⟩ := at_rows (t := t) d1 hg; have hM := fun Q => made_sum (t := t) hg hl h Q
 obtain ⟨-, m2, m3, m4⟩ := hM fun _ => true
 obtain ⟨s1, s2, s3⟩ := at_rows (t := t) m2 m3; rw [a2] at he ha ⊢; obtain ⟨e1, e2, e3, e4⟩ := each_ok he; have hcol := cnt_col r2 (by omega) r1 ha
 have lz := cnt_len (L := atL us t); have lo := oneAll_len k ex (cntR (atL us t)).1; rw [g2, e4]; congr 1; refine cnt_ext s2 (oneAll_i64 fun c hc => (hcol.ok c hc).2.2) (by omega) (by omega) s1 e2 fun r => ?_
 rw [TK_P, TK_P, at_sum (fun row => decide (rowsC r.r row = 0)), (hM fun row => decide (rowsC r.r row = 0)).1, mad_sum hk h4 (fun row => decide (rowsC r.r row = 0)) hg d2]
 rw [all_sum (fun c hc => (hcol.ok c hc).2.2) (err_each e1) fun row => decide (rowsC r.r row = 0)]
 rw [cnt_sum r2 (by omega) r1 ha, at_sum]
theorem means_cat {ex : List E} {us : List Up} {t : Tm} (hg : gds us) (hl : us.length ≤ 1048576) (h : (doR 5 ex us).2.2 = 0) (ha : (atR us t).2 = 0) (hgt : (atR (doR 5 ex us).1 t).2 = 0) : (atR (doR 5 ex us).1 t).1 = (atR us t).1 := by
 obtain ⟨d1, d2, -, -, -, -⟩ := do_ok hg (by omega) h
 obtain ⟨-, a2⟩ := at_ok ha; obtain ⟨-, g2⟩ := at_ok hgt; obtain ⟨r1, r2, r3⟩ := at_rows (t := t) d1 hg; have hM := fun Q => made_sum (t := t) hg hl h Q
 obtain ⟨-, m2, m3, m4⟩ := hM fun _ => true
 obtain ⟨s1, s2, s3⟩ := at_rows (t := t) m2 m3; rw [g2, a2]; congr 1; refine cnt_ext s2 r2 (by omega) (by omega) s1 r1 fun r => ?_
 rw [TK_P, TK_P, at_sum (fun row => decide (rowsC r.r row = 0)), (hM fun row => decide (rowsC r.r row = 0)).1, mad_sum5 (fun row => decide (rowsC r.r row = 0)), at_sum (fun row => decide (rowsC r.r row = 0))]
end Go.Proofs
end
section
namespace Go.Proofs
open Go.Flat
set_option maxRecDepth 100000
set_option linter.unusedVariables false
set_option linter.unusedSimpArgs false
attribute [local simp] Bool.and_assoc Bool.or_assoc evalG evalX efD skF guardG guardL isCall stepL evalOp ev evs lk tmpsL app AV.ok fresh vv putCells insV ins del putL place Go.Flat.look fillC fillR getCells loadF storeF binF scalarBin intBin strBin isShift shiftBin unF lenF maxF minF rowsF appendF builtinF idxF natOf sliceP sliceF optEv Flat.cut overwrite toPV toPVs constAV scalarC scalarCs AV.cells TI.isAgg allSome andAll scalarEq buildable Go.Flat.lim retQ resL resAll resOne PartOf noTmp closedIn refs refs.refsL isSomeV hasB ids leA leA.leL renA renA.renL callB refsAll backL dropIds renS LiesAt injB ownB freshB memN locId insAll leA_refl leL_refl okS frzS frzA frzA.frzL evalD feet fine updCells cellsFrom memP footRf footWf noTmpU updIds opOps opIds idsA footR footW guardTs opTs dstTs callR callW renLoc renC inBlockQ thenQ Value.oneCell' IntKind.bits IntKind.signed PV.up toPH toPHs
section
attribute [local simp] famOK bigB Pl.row_eq Pl.av
attribute [local simp] lrowk tkW in
theorem zs64_cat1 (S : List (List Ct)) (m : Int) (ex : List E) (cols wth : List Int) (agg rds : Int) (xk xn : Int) (xq : List Pl) (xe : List E) (xc xw : List Int) (xa xr : Int) (a : List Ct) (ha : Sml a) (hx : Flat.Sp Tryz.prog 64 [.ptr 0 0, (Pl.mk xk xn xq xe xc xw xa xr).av] [(.var 0, .n 3), (.cell 0 0, .av (vv (.int .i64 (0)))), (.cell 0 1, .av (.p (.ps (S.map lrowk)))), (.cell 0 2, .av (.psf []))] (.p (.ps (a.map Ct.row))) [(.var 0, .n 3), (.cell 0 0, .av (vv (.int .i64 (0)))), (.cell 0 1, .av (.p (.ps (S.map lrowk)))), (.cell 0 2, .av (.psf []))]) : Flat.Sp Tryz.prog 64 [.ptr 0 0, (Pl.mk 5 m [(Pl.mk xk xn xq xe xc xw xa xr)] ex cols wth agg rds).av] [(.var 0, .n 3), (.cell 0 0, .av (vv (.int .i64 (0)))), (.cell 0 1, .av (.p (.ps (S.map lrowk)))), (.cell 0 2, .av (.psf []))] (.p (.ps ((mrgR [a]).1.map Ct.row))) [(.var 0, .n 3), (.cell 0 0, .av (vv (.int .i64 ((mrgR [a]).2)))), (.cell 0 1, .av (.p (.ps (S.map lrowk)))), (.cell 0 2, .av (.psf []))] := by
 refine sk Tryz.func64 ?_; intro F G hn hG; have h27 : Flat.Sp Tryz.prog 27 [.p (.ps [[.ps (a.map Ct.row)]])] [] (.tup [.p (.ps ((mrgR [a]).1.map Ct.row)), vv (.int .i64 (mrgR [a]).2)]) [] := zs27_one a ha; refine srp 1000 [0,1,3,112] ?_; refine sq ?_; refine srp 2000 [0,1,3,8,9,112] ?_; refine k_block ?_; refine srp 3000 [0,1,3,8,9,11,12,112] ?_; refine ce ?_; refine srp 5000 [0,1,3,8,9,10,20,21,22,112] ?_; refine ce ?_; refine srp 7000 [0,1,3,8,37,38,39,112] ?_; refine ce ?_; refine k_skip ?_; refine k_nil ?_; show AK _ _ _ _ _ _; refine srp 9000 [0,1,3,8,46,112] ?_; refine sq ?_; refine srp 10000 [0,1,3,8,47,112] ?_; refine k_block ?_; refine k_rounds 2 ?_; show AK _ _ _ _ _ _; refine srp 11000 [0,1,3,8,47,112] ?_; refine sq ?_; refine ct ?_; refine k_skip ?_; refine sq ?_; refine k_block ?_; refine srp 12000 [0,1,3,8,47,112] ?_; refine rc 13000 ?_; refine oc (id) (hx) ?_; refine oe 13100 ?_; refine on ?_; refine k_nil ?_; show AK _ _ _ _ _ _; refine rg 14000 ?_; refine k_nil ?_; show AK _ _ _ _ _ _; refine srp 1011000 [0,1,3,8,47,112] ?_; refine sq ?_; refine ce ?_; refine k_exit ?_; show AK _ _ _ _ _ _; refine sq ?_; refine srp 15000 [0,1,3,6,65,112] ?_; refine ce ?_; refine k_skip ?_; refine sq ?_; refine srp 17000 [0,1,3,6,67,112] ?_; refine k_block ?_; refine srp 18000 [0,1,3,6,67,69,70,112] ?_; refine ct ?_; refine sq ?_; refine fz 9003 ?_; refine rc 19000 ?_; refine oc id (h27) ?_; refine oe 19100 ?_; refine oc (id) (zs138_0 0 S (mrgR [a]).1 (mrgR [a]).2) ?_; refine oe 19200 ?_; refine onp [0,1,3,6,106,112] ?_; refine k_ret ?_; show retQ _ _ _ _ _ _ _; simp [*]
attribute [local simp] srow trow lrowk Tm.av in
set_option maxHeartbeats 2000000 in
theorem zs10 (k m : Int) (kids : List Pl) (ex : List E) (cols wth : List Int) (agg rds : Int) (us mk : List Up) (tm : Tm) (t : Tm) (ts : List Int) (w1 w2 w3 w4 : Int) (there want got : List Ct) (h43 : Flat.Sp Tryz.prog 32 [] [] (vv (.bool true)) []) (h1 : Flat.Sp Tryz.prog 33 [(Pl.mk k m kids ex cols wth agg rds).av, .p (.ps (us.map Up.row))] [] (.tup [.p (.ps (mk.map Up.row)), tm.av, vv (.int .i64 w1)]) []) (h2 : Flat.Sp Tryz.prog 29 [.p (.ps (us.map Up.row)), t.av] [] (.tup [.p (.ps (there.map Ct.row)), vv (.int .i64 w2)]) []) (h3 : w1 = 0 → w2 = 0 → kids = [] → Flat.Sp Tryz.prog 20 [(Pl.mk k m [lX] ex cols wth agg rds).av, .p (.ps [[.ps (there.map Ct.row)]]), .p (.ps [[.ps (ts.map trow)]])] [] (.tup [.p (.ps (want.map Ct.row)), vv (.int .i64 w3)]) []) (h4 : w1 = 0 → Flat.Sp Tryz.prog 29 [.p (.ps (mk.map Up.row)), t.av] [] (.tup [.p (.ps (got.map Ct.row)), vv (.int .i64 w4)]) []) (h5 : w1 = 0 → w2 = 0 → kids = [] → w3 = 0 → w4 = 0 → got = want ∧ want.length ≤ Cap ∧ ∀ c ∈ want, c.r.length ≤ Bnd) : Flat.Sp Tryz.prog 10 [(Pl.mk k m kids ex cols wth agg rds).av, .p (.ps (us.map Up.row)), t.av, .p (.ps (ts.map trow))] [] (vv (.bool true)) [] := by
 refine sk Tryz.func10 ?_; intro F G hn hG; simp only [Pl.av, lX_row, List.map_cons, List.map_nil, Tm.av] at h1 h2 h3 h4; refine srp 1000 [1,2,3,5,6,7,8,72] ?_; refine sq ?_; refine src 2000 ?_; refine oc id (h43) ?_; refine oe 2100 ?_; refine onp [1,2,3,5,6,7,8,18,19,72] ?_; refine ce ?_; refine k_skip ?_; refine src 4000 ?_; refine oc id (h1) ?_; refine oe 4100 ?_; refine onp [1,2,3,5,6,7,8,10,11,18,27,72] ?_; refine src 5000 ?_; refine oc id (h2) ?_; refine oe 5100 ?_; refine onp [3,5,6,7,8,10,11,18,33,72] ?_; refine sq ?_; refine sq ?_; refine cv [(.tmp 44, vv (.bool ((w1 != 0) || ((w2 != 0) || ((kids.length : Int) != 0)))))] ?_ ?_
 · skip
   rcases q0 : (w1 != 0 : Bool) with _ | _
   · skip
     rcases q1 : (w2 != 0 : Bool) with _ | _
     · skip
       refine rc 6000 ?_ (h := by simp [*, q0, q1]; exact is_rfl _)
       iterate 2 (first | refine gp 6150 ?_ (he := by intro hgg; (try simp only [Bool.and_eq_true] at hgg); simp [*, q0, q1]; exact is_rfl _) | refine os ?_ | refine gt 6150 ?_ (he := by simp [*, q0, q1]; exact is_rfl _))
       refine oe 6200 ?_ (h := by simp [*, q0, q1]; exact is_rfl _)
       iterate 4 (first | refine gp 6550 ?_ (he := by intro hgg; (try simp only [Bool.and_eq_true] at hgg); simp [*, q0, q1]; exact is_rfl _) | refine os ?_ | refine gt 6550 ?_ (he := by simp [*, q0, q1]; exact is_rfl _))
       refine oe 6600 ?_ (h := by simp [*, q0, q1]; exact is_rfl _)
       refine on ?_; refine k_nil ?_; refine ⟨rfl, ?_, ?_, ?_⟩ <;> simp [*, q0, q1]
     · skip
       refine rc 1006000 ?_ (h := by simp [*, q0, q1]; exact is_rfl _)
       iterate 2 (first | refine gp 1006150 ?_ (he := by intro hgg; (try simp only [Bool.and_eq_true] at hgg); simp [*, q0, q1]; exact is_rfl _) | refine os ?_ | refine gt 1006150 ?_ (he := by simp [*, q0, q1]; exact is_rfl _))
       refine oe 1006200 ?_ (h := by simp [*, q0, q1]; exact is_rfl _)
       iterate 4 (first | refine gp 1006550 ?_ (he := by intro hgg; (try simp only [Bool.and_eq_true] at hgg); simp [*, q0, q1]; exact is_rfl _) | refine os ?_ | refine gt 1006550 ?_ (he := by simp [*, q0, q1]; exact is_rfl _))
       refine oe 1006600 ?_ (h := by simp [*, q0, q1]; exact is_rfl _)
       refine on ?_; refine k_nil ?_; refine ⟨rfl, ?_, ?_, ?_⟩ <;> simp [*, q0, q1]
   · skip
     refine rc 2006000 ?_ (h := by simp [*, q0]; exact is_rfl _)
     iterate 2 (first | refine gp 2006150 ?_ (he := by intro hgg; (try simp only [Bool.and_eq_true] at hgg); simp [*, q0]; exact is_rfl _) | refine os ?_ | refine gt 2006150 ?_ (he := by simp [*, q0]; exact is_rfl _))
     refine oe 2006200 ?_ (h := by simp [*, q0]; exact is_rfl _)
     iterate 4 (first | refine gp 2006550 ?_ (he := by intro hgg; (try simp only [Bool.and_eq_true] at hgg); simp [*, q0]; exact is_rfl _) | refine os ?_ | refine gt 2006550 ?_ (he := by simp [*, q0]; exact is_rfl _))
     refine oe 2006600 ?_ (h := by simp [*, q0]; exact is_rfl _)
     refine on ?_; refine k_nil ?_; refine ⟨rfl, ?_, ?_, ?_⟩ <;> simp [*, q0]
 refine pr [3,5,6,7,8,10,12,13,14,18,44,72] ?_; refine cd ?_ ?_
 · intro h44_1
   clear h44_1 h3 h4 h5; refine srp 7000 [3,5,6,7,8,10,12,13,14,18,45,72] ?_; refine k_ret ?_; show retQ _ _ _ _ _ _ _; simp [*]
 · intro h44_1
   simp only [Bool.or_eq_false_iff, bne_eq_false_iff_eq] at h44_1; obtain ⟨z1, z2, zk⟩ := h44_1; have zk2 : kids = [] := List.length_eq_zero_iff.1 (by omega)
   have f3 := h3 z1 z2 zk2; have f4 := h4 z1; have h5b := h5 z1 z2 zk2; subst zk2; clear h3 h4 h5 zk; refine k_skip ?_; refine srp 8000 [3,5,6,7,8,10,12,13,14,18,48,72] ?_; refine src 9000 ?_; refine oc id (f3) ?_; refine oe 9100 ?_; refine onp [6,7,8,10,14,18,57,72] ?_; refine src 10000 ?_; refine oc id (f4) ?_; refine oe 10100 ?_; refine onp [8,9,14,18,63,72] ?_; refine sq ?_; refine sq ?_; refine cv [(.tmp 68, vv (.bool ((w3 != 0) || (w4 != 0))))] ?_ ?_
   · skip
     rcases q0 : (w3 != 0 : Bool) with _ | _
     · skip
       refine rc 11000 ?_ (h := by simp [*, q0]; exact is_rfl _)
       iterate 2 (first | refine gp 11150 ?_ (he := by intro hgg; (try simp only [Bool.and_eq_true] at hgg); simp [*, q0]; exact is_rfl _) | refine os ?_ | refine gt 11150 ?_ (he := by simp [*, q0]; exact is_rfl _))
       refine oe 11200 ?_ (h := by simp [*, q0]; exact is_rfl _)
       refine on ?_; refine k_nil ?_; refine ⟨rfl, ?_, ?_, ?_⟩ <;> simp [*, q0]
     · skip
       refine rc 1011000 ?_ (h := by simp [*, q0]; exact is_rfl _)
       iterate 2 (first | refine gp 1011150 ?_ (he := by intro hgg; (try simp only [Bool.and_eq_true] at hgg); simp [*, q0]; exact is_rfl _) | refine os ?_ | refine gt 1011150 ?_ (he := by simp [*, q0]; exact is_rfl _))
       refine oe 1011200 ?_ (h := by simp [*, q0]; exact is_rfl _)
       refine on ?_; refine k_nil ?_; refine ⟨rfl, ?_, ?_, ?_⟩ <;> simp [*, q0]
   refine pr [8,9,14,15,16,17,68,72] ?_; refine cd ?_ ?_
   · intro h68_2
     clear h68_2 h5b; refine srp 12000 [8,9,14,15,16,17,69,72] ?_; refine k_ret ?_; show retQ _ _ _ _ _ _ _; simp [*]
   · intro h68_2
     simp only [Bool.or_eq_false_iff, bne_eq_false_iff_eq] at h68_2; obtain ⟨z3, z4⟩ := h68_2; obtain ⟨rfl, z5, z6⟩ := h5b z3 z4; have h52 : Flat.Sp Tryz.prog 25 [.p (.ps (got.map Ct.row)), .p (.ps (got.map Ct.row))] [] (vv (.bool true)) [] := by have := spec52 got got (Nat.le_trans z5 (by decide)) (Nat.le_trans z5 (by decide)) (fun c hc => Nat.le_trans (z6 c hc) (by decide)) (fun c hc => Nat.le_trans (z6 c hc) (by decide)); rw [sameBy_refl sameK_refl] at this; exact this
     clear h5b; refine k_skip ?_; refine src 13000 ?_; refine oc id (h52) ?_; refine oe 13100 ?_; refine onp [8,9] ?_; refine k_ret ?_; show retQ _ _ _ _ _ _ _; simp [*]
theorem do_kind {k : Int} {ex : List E} {us : List Up} (h : (doR k ex us).2.2 = 0) : k = 5 ∨ (k = 3 ∨ k = 4 ∨ k = 6) := by
 unfold doR at h; split at h
 · rename_i hc
   simp only at h; rw [h] at hc; simp at hc
 · split at h
   · rename_i hk
     simp only [known, Bool.or_eq_true, beq_iff_eq] at hk; rcases hk with ((hk | hk) | hk) | hk
     · exact .inr (.inl hk)
     · exact .inr (.inr (.inl hk))
     · exact .inr (.inr (.inr hk))
     · exact .inl hk
   · cases h
theorem at_sml {us : List Up} {t : Tm} (hus : us.length ≤ 4 * Bnd) (hs : Up.sms us) : Sml (atR us t).1 := by
 have h1 : Sml (atL us t) := ⟨by rw [atL, List.length_map]; exact Nat.le_trans (List.length_filter_le ..) (Nat.le_trans hus (by decide)), fun c hc => by
   obtain ⟨u, hu, rfl⟩ := List.mem_map.1 hc
   exact (hs u (List.mem_filter.1 hu).1).2⟩
 unfold atR; split
 · exact ⟨by simp, by simp⟩
 · have := cnt_sms (cs := atL us t) h1.2
   exact ⟨Nat.le_trans this.2 h1.1, this.1⟩
theorem cat_of {m : Int} {ex : List E} {cols wth : List Int} {agg rds : Int} (hb : (Pl.mk 5 m [lX] ex cols wth agg rds).bnd) (ts : List Int) (a : List Ct) (ha : Sml a) :
   Flat.Sp Tryz.prog 20 [(Pl.mk 5 m [lX] ex cols wth agg rds).av, .p (.ps ([a].map lrowk)), .p (.ps ([ts].map srow))] [] (.tup [.p (.ps ((ofR (inferP [ts] (Pl.mk 5 m [lX] ex cols wth agg rds)).2 (haveR [a] [ts]) (mrgR [a]).2 (mrgR [a]).1).1.map Ct.row)), vv (.int .i64 (ofR (inferP [ts] (Pl.mk 5 m [lX] ex cols wth agg rds)).2 (haveR [a] [ts]) (mrgR [a]).2 (mrgR [a]).1).2)]) [] :=
 zs20_r _ [ts] [a] _ _ _ (spec29 _ hb [ts]) (zs63 [a] (by show 1 ≤ Cap; decide) (by intro x hx; simp at hx; rw [hx]; exact ha) [ts]) _ _ (mrg_sml ha) fun _ _ => zs64_cat1 [a] m ex cols wth agg rds 1 0 [] [] [] [] 0 0 a ha (src_l a)
theorem zs10_all (k m : Int) (kids : List Pl) (ex : List E) (cols wth : List Int) (agg rds : Int) (hb : (Pl.mk k m kids ex cols wth agg rds).bnd) (us : List Up) (hus : us.length ≤ Bnd) (hs : Up.sms us) (hg : gds us) (t : Tm) (ts : List Int) :
   Flat.Sp Tryz.prog 10 [(Pl.mk k m kids ex cols wth agg rds).av, .p (.ps (us.map Up.row)), t.av, .p (.ps (ts.map trow))] [] (vv (.bool true)) [] := by
 have hb0 := hb; rw [Pl.bnd] at hb; have hus4 : us.length ≤ 4 * Bnd := by omega
 have hl : us.length ≤ 1048576 := hus; have hm := doR_sms (k := k) hb.2.1 hs; have hmk4 : (doR k ex us).1.length ≤ 4 * Bnd := by omega
 have hat := at_sml (t := t) hus4 hs; have hcap : 4 * Bnd ≤ Cap := by decide
 have hbP : (Pl.mk k m [lX] ex cols wth agg rds).bnd := by
   rw [Pl.bnd]; exact ⟨by show 1 ≤ Bnd; decide, hb.2.1, hb.2.2.1, hb.2.2.2.1, by simp [lX, Pl.bnd, Pl.bndL, Bnd]⟩
 have h1 := spec44 k m kids ex cols wth agg rds hb.2.1 us hus4 hs; have h2 := spec50 us t (Nat.le_trans hus4 hcap) hs; have h4 := spec50 (doR k ex us).1 t (Nat.le_trans hmk4 hcap) hm.1; have rows : ∀ {L : List Ct}, Col L → ∀ c ∈ L, c.r.length ≤ Bnd := fun hc c h => Nat.le_trans (row_eight (hc.ok c h).1) (by decide)
 by_cases hz : (doR k ex us).2.2 = 0
 · rcases do_kind hz with rfl | hk
   · refine zs10 5 m kids ex cols wth agg rds us _ _ t ts _ _ _ _ _ _ _ spec43 h1 h2 (fun _ _ _ => cat_of hbP ts _ hat) (fun _ => h4) fun z1 z2 _ z3 z4 => ?_
     obtain ⟨i1, v1, e1, r1⟩ := ofR_zero z3; obtain ⟨d1, -, -, -, -, -⟩ := do_ok hg (by omega) hz
     obtain ⟨-, a2⟩ := at_ok z2; obtain ⟨q1, q2, q3⟩ := at_rows (t := t) d1 hg; have hc : Col (atR us t).1 := by rw [a2] at z2 ⊢; exact cnt_col q2 (by omega) q1 z2
     have hlen : (atR us t).1.length ≤ 1048576 := by rw [a2]; exact Nat.le_trans cnt_len (by omega)
     have hmr := mrg_col hc (by omega)
     have hw : (ofR (inferP [ts] (Pl.mk 5 m [lX] ex cols wth agg rds)).2 (haveR [(atR us t).1] [ts]) (mrgR [(atR us t).1]).2 (mrgR [(atR us t).1]).1).1 = (atR us t).1 := by rw [r1, hmr, hmr]
     rw [hw]; exact ⟨means_cat hg hl hz z2 z4, by simp only [Cap]; omega, rows hc⟩
   · refine zs10 k m kids ex cols wth agg rds us _ _ t ts _ _ _ _ _ _ _ spec43 h1 h2 (fun _ _ _ => lin_of hk hbP ts _ hat) (fun _ => h4) fun z1 z2 _ z3 z4 => ?_
     obtain ⟨i1, v1, e1, r1⟩ := ofR_zero z3; have hgd := Pl.good_gd _ 1 (checkP_good (inferP_zero i1).2.1); have hf := hgd.1; rw [Pl.gd] at hf; have hx4 := (formed_shape hf.1).2; obtain ⟨d1, -, -, -, -, -⟩ := do_ok hg (by omega) hz
     obtain ⟨-, a2⟩ := at_ok z2; obtain ⟨q1, q2, q3⟩ := at_rows (t := t) d1 hg; have hlen : (atR us t).1.length ≤ 1048576 := by rw [a2]; exact Nat.le_trans cnt_len (by omega)
     have hc : Col (atR us t).1 := by rw [a2] at z2 ⊢; exact cnt_col q2 (by omega) q1 z2
     obtain ⟨e2, e3, e4, e5⟩ := each_ok e1; have hlo := oneAll_len k ex (atR us t).1; have hce : Col (eachR k ex (atR us t).1).1 := by rw [e5] at e1 ⊢; exact cnt_col (oneAll_i64 fun c h => (hc.ok c h).2.2) (by omega) e3 e1
     have hle : (eachR k ex (atR us t).1).1.length ≤ 1048576 := by rw [e5]; exact Nat.le_trans cnt_len (by omega)
     have hw : (ofR (inferP [ts] (Pl.mk k m [lX] ex cols wth agg rds)).2 (haveR [(atR us t).1] [ts]) (eachR k ex (atR us t).1).2 (eachR k ex (atR us t).1).1).1 = (eachR k ex (atR us t).1).1 := by rw [r1, mrg_col hce (by omega)]
     rw [hw]; exact ⟨means_lin hk hx4 hg hl hz z2 e1 z4, by simp only [Cap]; omega, rows hce⟩
 · exact zs10 k m kids ex cols wth agg rds us _ _ t ts _ _ 0 0 _ [] [] spec43 h1 h2 (fun z => absurd z hz) (fun z => absurd z hz) (fun z => absurd z hz)
end
end Go.Proofs
end
section
set_option linter.unusedVariables false
set_option linter.unusedSimpArgs false
namespace Go.Proofs
open Go.Flat Go.ChangeShapes Go.WideShapes Go.ChangeAt Go.RowKit
set_option maxRecDepth 100000
theorem cl28 : Tryz.prog.cellsOf 31 = 1 := by kernel_rfl
theorem cl79 : Tryz.prog.cellsOf 32 = 1 := by kernel_rfl
theorem cl80 : Tryz.prog.cellsOf 33 = 2 := by kernel_rfl
theorem cl82 : Tryz.prog.cellsOf 35 = 3 := by kernel_rfl
theorem cl92 : Tryz.prog.cellsOf 37 = 6 := by kernel_rfl
theorem shp_arr {M d : Nat} {P : Program} {t e : TypeId} {n : Nat} {xs : List PV} (h : Shp P M d t xs) (hu : P.underlying t = some (.array n e)) : xs.length = P.cellsOf t ∧ ∃ d', d = d' + 1 ∧ ∀ i, i < n → Shp P M d' e ((xs.drop (i * P.cellsOf e)).take (P.cellsOf e)) := by
 cases d with
 | zero => exact h.elim
 | succ d =>
   unfold Shp at h; rw [hu] at h; exact ⟨h.1, d, rfl, h.2⟩
theorem shp_time {M d : Nat} {xs : List PV} (h : Shp Tryz.prog M d 35 xs) : ∃ t : Tm, xs = t.row := by
 obtain ⟨hl, d, rfl, hf⟩ := shp_st h Tryz.underlying35; rw [cl82] at hl; obtain ⟨a, b, c, rfl⟩ := list3 hl; simp [cl79, cl80] at hf; obtain ⟨h1, h2⟩ := hf; obtain ⟨x, e1, _⟩ := shp_int h1 Tryz.underlying32; obtain ⟨_, d2, rfl, h3⟩ := shp_arr h2 Tryz.underlying33; rw [cl79] at h3; have g0 := h3 0 (by decide)
 have g1 := h3 1 (by decide)
 simp at g0 g1; obtain ⟨y, e2, _⟩ := shp_int g0 Tryz.underlying32; obtain ⟨z, e3, _⟩ := shp_int g1 Tryz.underlying32; simp only [List.cons.injEq, and_true] at e1 e2 e3; subst e1; subst e2; subst e3; exact ⟨⟨x, y, z⟩, rfl⟩
theorem shp_up {d : Nat} {xs : List PV} (h : Shp Tryz.prog 1048576 d 37 xs) : ∃ u : Up, xs = u.row ∧ (u.sm ∧ i64 u.d) := by
 obtain ⟨hl, d, rfl, hf⟩ := shp_st h Tryz.underlying37; rw [cl92] at hl; obtain ⟨a, b, c, e, f, g, rfl⟩ := list6 hl; simp [cl28, cl82, cl2] at hf; obtain ⟨h1, h2, h3, h4⟩ := hf; obtain ⟨k, e1, hk, _⟩ := shp_row h1; obtain ⟨r, e2, hr, _⟩ := shp_row h2; obtain ⟨t, e3⟩ := shp_time h3; obtain ⟨n, e4, hn⟩ := shp_int h4 Tryz.underlying2; simp only [List.cons.injEq, and_true, Tm.row] at e1 e2 e3 e4; obtain ⟨e3, e5, e6⟩ := e3; subst e1; subst e2; subst e3; subst e5; subst e6; subst e4; exact ⟨⟨k, r, t, n⟩, rfl, ⟨hk, hr⟩, i64_wf hn⟩
theorem shp_ups {d : Nat} {xs : List PV} (h : Shp Tryz.prog 1048576 d 30 xs) : ∃ us : List Up, xs = [.ps (us.map Up.row)] ∧ us.length ≤ Bnd ∧ Up.sms us ∧ gds us := by
 obtain ⟨rows, rfl, hl, d, rfl, hr⟩ := shp_sl h Tryz.underlying30; obtain ⟨us, rfl, hu⟩ := rows_of (row := Up.row) (p := fun u => u.sm ∧ i64 u.d) fun r hm => shp_up (hr r hm)
 exact ⟨us, rfl, by simpa [Bnd] using hl, fun u h => (hu u h).1, fun u h => (hu u h).2⟩
end Go.Proofs
end
