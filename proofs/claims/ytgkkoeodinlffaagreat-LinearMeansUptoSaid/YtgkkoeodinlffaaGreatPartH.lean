/-
  Contracts: sorting in place, by merging. (and 1 texts more)
-/
import Derived.Test.YtgkkoeodinlffaaGreatPartG
import Derived.Test.YtgkkoeodinlffaaGreatPartE
section
namespace Go.Proofs
open Go.Flat
set_option maxRecDepth 100000
set_option linter.unusedVariables false
set_option linter.unusedSimpArgs false
attribute [local simp] Bool.and_assoc Bool.or_assoc evalG evalX efD skF guardG guardL isCall stepL evalOp ev evs lk tmpsL app AV.ok fresh vv putCells insV ins del putL place Go.Flat.look fillC fillR getCells loadF storeF binF scalarBin intBin strBin isShift shiftBin unF lenF maxF minF rowsF appendF builtinF idxF natOf sliceP sliceF optEv Flat.cut overwrite toPV toPVs constAV scalarC scalarCs AV.cells TI.isAgg allSome andAll scalarEq buildable Go.Flat.lim retQ resL resAll resOne PartOf noTmp closedIn refs refs.refsL isSomeV hasB ids leA leA.leL renA renA.renL callB refsAll backL dropIds renS LiesAt injB ownB freshB memN locId insAll leA_refl leL_refl okS frzS frzA frzA.frzL evalD feet fine updCells cellsFrom memP footRf footWf noTmpU updIds opOps opIds idsA footR footW guardTs opTs dstTs callR callW renLoc renC inBlockQ thenQ Value.oneCell' IntKind.bits IntKind.signed
section
theorem wadd2 {x y g : Nat} (h : x + y = g) (hg : g ≤ 1125899906842624) : IntKind.i64.wrap ((x : Int) + (y : Int)) = (g : Int) := by
 rw [w64]; omega
theorem wsub2 {x y d : Nat} (h : d + y = x) (hx : x ≤ 1125899906842624) : IntKind.i64.wrap ((x : Int) - (y : Int)) = (d : Int) := by
 rw [w64]; omega
theorem half_of {x y s h : Nat} (h1 : x + y = s) (h2 : s / 2 = h) (hs : s ≤ 1125899906842624) : IntKind.u64.wrap (s : Int) = (s : Int) ∧ (s : Int).fdiv 2 = (h : Int) ∧ IntKind.i64.wrap (h : Int) = (h : Int) := by
 refine ⟨?_, ?_, ?_⟩
 · rw [wrapU]; omega
 · rw [Int.fdiv_eq_ediv_of_nonneg _ (by omega)]; omega
 · rw [w64]; omega
attribute [local simp] Up.row Up.av in
set_option maxHeartbeats 1000000 in
theorem spec203_one (c : Up → Up → Int) (ho : Ord (ltU c)) (us : List Up) (hus : us.length < Flat.lim) (hc : ∀ x ∈ us, ∀ y ∈ us, Flat.Sp Tryz.prog 18 [x.av, y.av] [] (vv (.int .i64 (c x y))) []) (pub a m b : Nat) (hpa : pub ≤ a) (ham : a + 1 = m) (hmb : m < b) (hb : b ≤ us.length) (hl2 : Line (ltU c) (seg us m b)) : Flat.Sp Tryz.prog 270 [.sl 0 us.length 0 us.length, vv (.int .i64 a), vv (.int .i64 m), vv (.int .i64 b), .fn (.func 18) []] [(.arr 0, .arr 37 6 ((us).map Up.row) pub)] (.tup []) [(.arr 0, .arr 37 6 ((mergeI (ltU c) us a m b).map Up.row) pub)] := by
 refine sk Tryz.func270 ?_; intro F G hn hG; have hw0 := wsub (x := m) (y := a) (d := 1) (by omega) (by omega)
 simp only [Int.natCast_one] at hw0; obtain ⟨x, hx⟩ : ∃ x, us[a]? = some x := ⟨_, List.getElem?_eq_getElem (by omega)⟩
 have hx2 : ∀ hh : a < us.length, us[a]'hh = x := fun hh => (List.getElem?_eq_some_iff.1 hx).2
 have hxm := List.mem_of_getElem? hx; have hal : a < us.length := by omega
 have hst := sym_one_start (us := us) (a := a) (b := b) hx (by omega)
 rw [ham] at hst; have hmono := q1_mono ho hl2 hb x Up.zero; have hsl := seg_len (l := us) (a := m) hb; have hta : (us.take a).length = a := by simp; omega
 refine sq ?_; refine srp 1000 [0,5,10,25,28,191,192,205,206,219] ?_; refine ct ?_; refine srp 2000 [0,5,10,25,30,191,192,205,206,219] ?_; refine srp 3000 [0,5,10,25,31,191,192,205,206,219] ?_; refine sq ?_; refine k_block ?_; refine k_loop (fun n l => ∃ i j : Nat, n = j - i ∧ BS (q1 (ltU c) us x Up.zero) m b i j ∧ l = [(.tmp 0, .av (.sl 0 us.length 0 us.length)), (.tmp 1, .av (vv (.int .i64 a))), (.tmp 2, .av (vv (.int .i64 m))), (.tmp 3, .av (vv (.int .i64 b))), (.tmp 4, .av (.fn (.func 18) [])), (.tmp 10, .av (vv (.int .i64 i))), (.tmp 11, .av (vv (.int .i64 j))), (.arr 0, .arr 37 6 ((us).map Up.row) pub)]) (b - m) hG ⟨_, ⟨by simp, by simp, by simp⟩, m, b, rfl, .start (by omega), rfl⟩ ?_
 rintro n _ ⟨i, j, hin, hB, rfl⟩; have hB1 := hB.a; have hB2 := hB.b; have hB3 := hB.c; refine sq ?_; refine srp 4000 [0,5,10,25,31,191,192,205,206,219] ?_; refine cd ?_ ?_
 · intro h33_1
   have hij : i < j := by simpa using h33_1
   obtain ⟨s, hs⟩ : ∃ s, i + j = s := ⟨_, rfl⟩; obtain ⟨h, hh⟩ : ∃ h, s / 2 = h := ⟨_, rfl⟩; have hws := wadd2 hs (by simp only [Flat.lim] at hus; omega)
   obtain ⟨hwu, hfd, hwh⟩ := half_of hs hh (by simp only [Flat.lim] at hus; omega)
   have hws1 := wrap_succ (show h < Flat.lim by omega)
   have hhl : h < us.length := by omega
   obtain ⟨w, hw⟩ : ∃ w, us[h]? = some w := ⟨_, List.getElem?_eq_getElem (by omega)⟩
   have hw2 : ∀ hh : h < us.length, us[h]'hh = w := fun hh => (List.getElem?_eq_some_iff.1 hw).2
   have hwm := List.mem_of_getElem? hw; have hgw : us.getD h Up.zero = w := by rw [List.getD_eq_getElem?_getD, hw]; rfl
   refine k_skip ?_; refine k_block ?_; refine srp 5000 [0,5,10,25,31,191,192,205,206,219] ?_; refine sq ?_; refine dr ?_; refine de 6000 ?_ (h := by simp [*, ltU]; exact is_rfl _)
   refine dc id (hc w hwm x hxm) ?_ (hg := by simp [*, ltU]) (hf := by simp [*, ltU]; exact is_rfl _) (hx := by simp [*, ltU]; exact is_rfl _) (hargs := by simp [*, ltU]) (hB := by simp [*, ltU]) (hL := by simp [*, ltU]) (hd := by simp [*, ltU]; exact is_rfl _)
   refine de 6100 ?_ (h := by simp [*, ltU]; exact is_rfl _)
   refine dn ?_; refine pr [0,5,10,25,31,191,192,205,206,219] ?_; refine cd ?_ ?_
   · intro h50_2
     have hBu := hB.up hmono (h := h) (by omega) (by omega) (by simp only [q1, hgw, Bool.not_eq_false']; exact h50_2)
     refine rg 7000 ?_; refine k_nil ?_; show AK _ _ _ _ _ _; refine k_nil ?_
     first
       | refine ⟨j - (h + 1), by omega, _, ⟨?_, ?_, ?_⟩, h + 1, j, rfl, hBu, rfl⟩ <;> simp [*] <;> done
       | refine ⟨h - i, by omega, _, ⟨?_, ?_, ?_⟩, i, h, rfl, hBd, rfl⟩ <;> simp [*] <;> done
   · intro h50_2
     have hBd := hB.dn hmono (h := h) (by omega) (by omega) (by simp only [q1, hgw, Bool.not_eq_true']; exact h50_2)
     refine rg 8000 ?_; refine k_nil ?_; show AK _ _ _ _ _ _; refine k_nil ?_
     first
       | refine ⟨j - (h + 1), by omega, _, ⟨?_, ?_, ?_⟩, h + 1, j, rfl, hBu, rfl⟩ <;> simp [*] <;> done
       | refine ⟨h - i, by omega, _, ⟨?_, ?_, ?_⟩, i, h, rfl, hBd, rfl⟩ <;> simp [*] <;> done
 · intro h33_1
   obtain rfl : i = j := by have : ¬ i < j := (by simpa using h33_1); have := hB.b; omega
   have hfin := sym_one ho hx (by rw [ham]; exact hl2) hb (by rw [ham]; exact hB)
   rw [ham] at hfin; have hB1 := hB.a; have hB3 := hB.c; obtain ⟨im, him⟩ : ∃ im, im + 1 = i := ⟨i - 1, by omega⟩
   have hwi := wsub him (by omega)
   simp only [Int.natCast_one] at hwi; refine k_exit ?_; show AK _ _ _ _ _ _; refine sq ?_; refine srp 9000 [0,5,10,11,13,25,55,191,192,205,206,219] ?_; refine k_block ?_; refine k_loop (fun n l => ∃ t k : Nat, t + n = i - m ∧ a + t = k ∧ l = [(.tmp 0, .av (.sl 0 us.length 0 us.length)), (.tmp 1, .av (vv (.int .i64 a))), (.tmp 2, .av (vv (.int .i64 m))), (.tmp 3, .av (vv (.int .i64 b))), (.tmp 4, .av (.fn (.func 18) [])), (.tmp 10, .av (vv (.int .i64 i))), (.tmp 13, .av (vv (.int .i64 k))), (.arr 0, .arr 37 6 ((insA (us.take a) (seg us m b) x (us.drop b) t).map Up.row) pub)]) (i - m) hG ⟨_, ⟨by simp [hst], by simp, by simp⟩, 0, a, by omega, rfl, rfl⟩ ?_
   rintro n2 _ ⟨t, k, htn, hat, rfl⟩; refine sq ?_; refine srp 10000 [0,5,10,11,13,25,55,191,192,205,206,219] ?_; refine cd ?_ ?_
   · intro h58_3
     have hkm : k < im := by have := h58_3; simp at this; omega
     obtain ⟨kp, hkp⟩ : ∃ kp, k + 1 = kp := ⟨_, rfl⟩; have hwk := wadd hkp (by omega)
     simp only [Int.natCast_one] at hwk; obtain ⟨w, hw⟩ : ∃ w, (seg us m b)[t]? = some w := ⟨_, List.getElem?_eq_getElem (by omega)⟩
     have hself : (insA (us.take a) (seg us m b) x (us.drop b) t)[k]? = some x := by have := insA_at (us.take a) (seg us m b) x (us.drop b) (k := t) (by omega); rw [hta, hat] at this; exact this
     have hsucc : (insA (us.take a) (seg us m b) x (us.drop b) t)[kp]? = some w := by have := insA_succ (us.take a) (seg us m b) x (us.drop b) (k := t) (by omega); rw [hta, hat, hkp, hw] at this; exact this
     have hcl : (insA (us.take a) (seg us m b) x (us.drop b) t).length = us.length := by rw [insA_len, hta, hsl, List.length_drop]; omega
     have hself2 : ∀ h : k < (insA (us.take a) (seg us m b) x (us.drop b) t).length, (insA (us.take a) (seg us m b) x (us.drop b) t)[k]'h = x := fun h => (List.getElem?_eq_some_iff.1 hself).2
     have hsucc2 : ∀ h : kp < (insA (us.take a) (seg us m b) x (us.drop b) t).length, (insA (us.take a) (seg us m b) x (us.drop b) t)[kp]'h = w := fun h => (List.getElem?_eq_some_iff.1 hsucc).2
     have hkl : k < us.length := by omega
     have hkl2 : kp < us.length := by omega
     have hpk : pub ≤ k := by omega
     have hpk2 : pub ≤ kp := by omega
     have hnx : insA (us.take a) (seg us m b) x (us.drop b) (t + 1) = ((insA (us.take a) (seg us m b) x (us.drop b) t).set k w).set kp x := by have h := insA_swp2 Up.zero (us.take a) (seg us m b) x (us.drop b) (k := t) (by omega); rw [hta, hat, hkp] at h; rw [← h]; simp [swp, List.getD, hself, hsucc]
     refine k_skip ?_; refine sq ?_; refine k_block ?_; refine dr ?_; refine de 12000 ?_; refine dn ?_; refine k_nil ?_; show AK _ _ _ _ _ _; refine rg 11000 ?_; refine k_nil ?_; refine ⟨n2 - 1, by omega, _, ⟨?_, ?_, ?_⟩, t + 1, kp, by omega, by omega, rfl⟩ <;> simp [*]
   · intro h58_3
     have hkm : ¬ k < im := by have := h58_3; simp at this; omega
     obtain rfl : t = i - m := by omega
     refine k_exit ?_; show AK _ _ _ _ _ _; refine k_ret ?_; show retQ _ _ _ _ _ _ _; simp [*]
attribute [local simp] Up.row Up.av in
set_option maxHeartbeats 1000000 in
theorem spec203_last (c : Up → Up → Int) (ho : Ord (ltU c)) (us : List Up) (hus : us.length < Flat.lim) (hc : ∀ x ∈ us, ∀ y ∈ us, Flat.Sp Tryz.prog 18 [x.av, y.av] [] (vv (.int .i64 (c x y))) []) (pub a m b : Nat) (hpa : pub ≤ a) (ham : a + 1 < m) (hmb : m + 1 = b) (hb : b ≤ us.length) (hl1 : Line (ltU c) (seg us a m)) : Flat.Sp Tryz.prog 270 [.sl 0 us.length 0 us.length, vv (.int .i64 a), vv (.int .i64 m), vv (.int .i64 b), .fn (.func 18) []] [(.arr 0, .arr 37 6 ((us).map Up.row) pub)] (.tup []) [(.arr 0, .arr 37 6 ((mergeI (ltU c) us a m b).map Up.row) pub)] := by
 refine sk Tryz.func270 ?_; intro F G hn hG; obtain ⟨d0, hd0⟩ : ∃ d, d + a = m := ⟨m - a, by omega⟩
 have hw0 := wsub hd0 (by omega)
 have hd1 : ((d0 : Int) == 1) = false := by simp; omega
 have hw1 := wsub (x := b) (y := m) (d := 1) (by omega) (by omega)
 simp only [Int.natCast_one] at hw1; obtain ⟨y, hy⟩ : ∃ y, us[m]? = some y := ⟨_, List.getElem?_eq_getElem (by omega)⟩
 have hy2 : ∀ hh : m < us.length, us[m]'hh = y := fun hh => (List.getElem?_eq_some_iff.1 hy).2
 have hym := List.mem_of_getElem? hy; have hml : m < us.length := by omega
 have hst := sym_last_start (us := us) (a := a) (m := m) hy (by omega)
 rw [hmb] at hst; have hmono := q2_mono ho hl1 (by omega) y Up.zero
 have hsl := seg_len (l := us) (a := a) (b := m) (by omega)
 have hta : (us.take a).length = a := by simp; omega
 refine sq ?_; refine srp 1000 [0,5,10,25,28,191,192,205,206,219] ?_; refine ce ?_; refine k_skip ?_; refine sq ?_; refine srp 13000 [0,5,14,25,80,191,192,205,206,219] ?_; refine ct ?_; refine srp 14000 [0,5,14,25,82,191,192,205,206,219] ?_; refine srp 15000 [0,5,14,25,83,191,192,205,206,219] ?_; refine sq ?_; refine k_block ?_; refine k_loop (fun n l => ∃ i j : Nat, n = j - i ∧ BS (q2 (ltU c) us y Up.zero) a m i j ∧ l = [(.tmp 0, .av (.sl 0 us.length 0 us.length)), (.tmp 1, .av (vv (.int .i64 a))), (.tmp 2, .av (vv (.int .i64 m))), (.tmp 3, .av (vv (.int .i64 b))), (.tmp 4, .av (.fn (.func 18) [])), (.tmp 14, .av (vv (.int .i64 i))), (.tmp 15, .av (vv (.int .i64 j))), (.arr 0, .arr 37 6 ((us).map Up.row) pub)]) (m - a) hG ⟨_, ⟨by simp, by simp, by simp⟩, a, m, rfl, .start (by omega), rfl⟩ ?_
 rintro n _ ⟨i, j, hin, hB, rfl⟩; have hB1 := hB.a; have hB2 := hB.b; have hB3 := hB.c; refine sq ?_; refine srp 16000 [0,5,14,25,83,191,192,205,206,219] ?_; refine cd ?_ ?_
 · intro h85_1
   have hij : i < j := by simpa using h85_1
   obtain ⟨s, hs⟩ : ∃ s, i + j = s := ⟨_, rfl⟩; obtain ⟨h, hh⟩ : ∃ h, s / 2 = h := ⟨_, rfl⟩; have hws := wadd2 hs (by simp only [Flat.lim] at hus; omega)
   obtain ⟨hwu, hfd, hwh⟩ := half_of hs hh (by simp only [Flat.lim] at hus; omega)
   have hws1 := wrap_succ (show h < Flat.lim by omega)
   have hhl : h < us.length := by omega
   obtain ⟨w, hw⟩ : ∃ w, us[h]? = some w := ⟨_, List.getElem?_eq_getElem (by omega)⟩
   have hw2 : ∀ hh : h < us.length, us[h]'hh = w := fun hh => (List.getElem?_eq_some_iff.1 hw).2
   have hwm := List.mem_of_getElem? hw; have hgw : us.getD h Up.zero = w := by rw [List.getD_eq_getElem?_getD, hw]; rfl
   refine k_skip ?_; refine k_block ?_; refine srp 17000 [0,5,14,25,83,191,192,205,206,219] ?_; refine sq ?_; refine dr ?_; refine de 18000 ?_ (h := by simp [*, ltU]; exact is_rfl _)
   refine dc id (hc y hym w hwm) ?_ (hg := by simp [*, ltU]) (hf := by simp [*, ltU]; exact is_rfl _) (hx := by simp [*, ltU]; exact is_rfl _) (hargs := by simp [*, ltU]) (hB := by simp [*, ltU]) (hL := by simp [*, ltU]) (hd := by simp [*, ltU]; exact is_rfl _)
   refine de 18100 ?_ (h := by simp [*, ltU]; exact is_rfl _)
   refine dn ?_; refine pr [0,5,14,25,83,191,192,205,206,219] ?_; refine cd ?_ ?_
   · intro h103_2
     have hBu := hB.up hmono (h := h) (by omega) (by omega) (by simp only [q2, hgw]; simpa [ltU] using h103_2)
     refine rg 19000 ?_; refine k_nil ?_; show AK _ _ _ _ _ _; refine k_nil ?_
     first
       | refine ⟨j - (h + 1), by omega, _, ⟨?_, ?_, ?_⟩, h + 1, j, rfl, hBu, rfl⟩ <;> simp [*] <;> done
       | refine ⟨h - i, by omega, _, ⟨?_, ?_, ?_⟩, i, h, rfl, hBd, rfl⟩ <;> simp [*] <;> done
   · intro h103_2
     have hBd := hB.dn hmono (h := h) (by omega) (by omega) (by simp only [q2, hgw]; simpa [ltU] using h103_2)
     refine rg 20000 ?_; refine k_nil ?_; show AK _ _ _ _ _ _; refine k_nil ?_
     first
       | refine ⟨j - (h + 1), by omega, _, ⟨?_, ?_, ?_⟩, h + 1, j, rfl, hBu, rfl⟩ <;> simp [*] <;> done
       | refine ⟨h - i, by omega, _, ⟨?_, ?_, ?_⟩, i, h, rfl, hBd, rfl⟩ <;> simp [*] <;> done
 · intro h85_1
   obtain rfl : i = j := by have : ¬ i < j := (by simpa using h85_1); have := hB.b; omega
   have hfin := sym_last ho hy hl1 (by omega) hB
   rw [hmb] at hfin; have hB1 := hB.a; have hB3 := hB.c; refine k_exit ?_; show AK _ _ _ _ _ _; refine sq ?_; refine srp 21000 [0,5,14,15,17,25,108,191,192,205,206,219] ?_; refine k_block ?_; refine k_loop (fun n l => ∃ t k : Nat, n + (i - a) = t ∧ a + t = k ∧ k ≤ m ∧ l = [(.tmp 0, .av (.sl 0 us.length 0 us.length)), (.tmp 1, .av (vv (.int .i64 a))), (.tmp 2, .av (vv (.int .i64 m))), (.tmp 3, .av (vv (.int .i64 b))), (.tmp 4, .av (.fn (.func 18) [])), (.tmp 14, .av (vv (.int .i64 i))), (.tmp 17, .av (vv (.int .i64 k))), (.arr 0, .arr 37 6 ((insA (us.take a) (seg us a m) y (us.drop b) t).map Up.row) pub)]) (m - i) hG ⟨_, ⟨by simp [hst], by simp, by simp⟩, m - a, m, by omega, by omega, by omega, rfl⟩ ?_
   rintro n2 _ ⟨t, k, htn, hat, hkm0, rfl⟩; refine sq ?_; refine srp 22000 [0,5,14,15,17,25,108,191,192,205,206,219] ?_; refine cd ?_ ?_
   · intro h110_3
     have hkm : i < k := by have := h110_3; simp at this; omega
     obtain ⟨km, hkp⟩ : ∃ km, km + 1 = k := ⟨k - 1, by omega⟩
     have hwk := wsub hkp (by omega)
     simp only [Int.natCast_one] at hwk; obtain ⟨t, rfl⟩ : ∃ t0, t = t0 + 1 := ⟨t - 1, by omega⟩
     obtain ⟨w, hw⟩ : ∃ w, (seg us a m)[t]? = some w := ⟨_, List.getElem?_eq_getElem (by omega)⟩
     have hself : (insA (us.take a) (seg us a m) y (us.drop b) (t + 1))[k]? = some y := by have := insA_at (us.take a) (seg us a m) y (us.drop b) (k := t + 1) (by omega); rw [hta, hat] at this; exact this
     have hsucc : (insA (us.take a) (seg us a m) y (us.drop b) (t + 1))[km]? = some w := by have := insA_pred (us.take a) (seg us a m) y (us.drop b) (k := t) (by omega); rw [hta, show a + t = km by omega, hw] at this; exact this
     have hcl : (insA (us.take a) (seg us a m) y (us.drop b) (t + 1)).length = us.length := by rw [insA_len, hta, hsl, List.length_drop]; omega
     have hself2 : ∀ h : k < (insA (us.take a) (seg us a m) y (us.drop b) (t + 1)).length, (insA (us.take a) (seg us a m) y (us.drop b) (t + 1))[k]'h = y := fun h => (List.getElem?_eq_some_iff.1 hself).2
     have hsucc2 : ∀ h : km < (insA (us.take a) (seg us a m) y (us.drop b) (t + 1)).length, (insA (us.take a) (seg us a m) y (us.drop b) (t + 1))[km]'h = w := fun h => (List.getElem?_eq_some_iff.1 hsucc).2
     have hkl : k < us.length := by omega
     have hkl2 : km < us.length := by omega
     have hpk : pub ≤ k := by omega
     have hpk2 : pub ≤ km := by omega
     have hnx : insA (us.take a) (seg us a m) y (us.drop b) t = ((insA (us.take a) (seg us a m) y (us.drop b) (t + 1)).set k w).set km y := by have h := insA_swp Up.zero (us.take a) (seg us a m) y (us.drop b) (k := t) (by omega); rw [hta, show a + t + 1 = k by omega, show a + t = km by omega] at h; rw [← h]; simp [swp, List.getD, hself, hsucc]
     refine k_skip ?_; refine sq ?_; refine k_block ?_; refine dr ?_; refine de 24000 ?_; refine dn ?_; refine k_nil ?_; show AK _ _ _ _ _ _; refine rg 23000 ?_; refine k_nil ?_; refine ⟨n2 - 1, by omega, _, ⟨?_, ?_, ?_⟩, t, km, by omega, by omega, by omega, rfl⟩ <;> simp [*]
   · intro h110_3
     have hkm : ¬ i < k := by have := h110_3; simp at this; omega
     obtain rfl : t = i - a := by omega
     refine k_exit ?_; show AK _ _ _ _ _ _; refine k_ret ?_; show retQ _ _ _ _ _ _ _; simp [*]
attribute [local simp] Up.row Up.av in
set_option maxHeartbeats 2000000 in
theorem spec203_g0 (c : Up → Up → Int) (ho : Ord (ltU c)) (us : List Up) (hus : us.length < Flat.lim) (hc : ∀ x ∈ us, ∀ y ∈ us, Flat.Sp Tryz.prog 18 [x.av, y.av] [] (vv (.int .i64 (c x y))) []) (pub a m b mid : Nat) (hpa : pub ≤ a) (ham : a + 1 < m) (hmb : m + 1 < b) (hb : b ≤ us.length) (hmd : (a + b) / 2 = mid) (hv : mid < m) (hl1 : Line (ltU c) (seg us a m)) (hl2 : Line (ltU c) (seg us m b)) (ih : ∀ (vs : List Up) (a' m' b' : Nat), vs.length = us.length → vs.Perm us → pub ≤ a' → a' < m' → m' < b' → b' ≤ vs.length → b' - a' < b - a → Line (ltU c) (seg vs a' m') → Line (ltU c) (seg vs m' b') → Flat.Sp Tryz.prog 270 [.sl 0 vs.length 0 vs.length, vv (.int .i64 a'), vv (.int .i64 m'), vv (.int .i64 b'), .fn (.func 18) []] [(.arr 0, .arr 37 6 ((vs).map Up.row) pub)] (.tup []) [(.arr 0, .arr 37 6 ((mergeI (ltU c) vs a' m' b').map Up.row) pub)])  : Flat.Sp Tryz.prog 270 [.sl 0 us.length 0 us.length, vv (.int .i64 a), vv (.int .i64 m), vv (.int .i64 b), .fn (.func 18) []] [(.arr 0, .arr 37 6 ((us).map Up.row) pub)] (.tup []) [(.arr 0, .arr 37 6 ((mergeI (ltU c) us a m b).map Up.row) pub)] := by
 refine sk Tryz.func270 ?_; intro F G hn hG; obtain ⟨d0, hd0⟩ : ∃ d, d + a = m := ⟨m - a, by omega⟩
 have hw0 := wsub hd0 (by omega)
 have hd1 : ((d0 : Int) == 1) = false := by simp; omega
 obtain ⟨d2, hd2⟩ : ∃ d, d + m = b := ⟨b - m, by omega⟩
 have hw2 := wsub hd2 (by omega)
 have hd3 : ((d2 : Int) == 1) = false := by simp; omega
 obtain ⟨ab, hab⟩ : ∃ s, a + b = s := ⟨_, rfl⟩; have hwab := wadd2 hab (by simp only [Flat.lim] at hus; omega)
 obtain ⟨hmu, hmf, hmw⟩ := half_of hab (show ab / 2 = mid by rw [← hab]; exact hmd) (by simp only [Flat.lim] at hus; omega)
 obtain ⟨nn, hnn⟩ : ∃ s, mid + m = s := ⟨_, rfl⟩; have hwnn := wadd2 hnn (by simp only [Flat.lim] at hus; omega)
 obtain ⟨p, hp⟩ : ∃ p, p + 1 = nn := ⟨nn - 1, by omega⟩
 have hwp := wsub2 hp (by simp only [Flat.lim] at hus; omega)
 simp only [Int.natCast_one] at hwp; have hbr : (m : Int) > (mid : Int) := by omega
 obtain ⟨lo, hlo⟩ : ∃ lo, lo + b = nn := ⟨nn - b, by omega⟩
 have hwlo := wsub2 hlo (by simp only [Flat.lim] at hus; omega)
 have hmono := q3_mono ho hl1 hl2 (lo := lo) (hi := mid) (p := p) (by omega) (by omega) Up.zero (by omega) (by omega) (by omega) (by omega)
 refine sq ?_; refine srp 1000 [0,5,10,25,28,191,192,205,206,219] ?_; refine ce ?_; refine k_skip ?_; refine sq ?_; refine srp 13000 [0,5,14,25,80,191,192,205,206,219] ?_; refine ce ?_; refine k_skip ?_; refine srp 25000 [0,5,18,25,135,191,192,205,206,219] ?_; refine srp 26000 [0,5,18,25,138,191,192,205,206,219] ?_; refine srp 27000 [0,5,18,25,138,191,192,205,206,219] ?_; refine sq ?_; refine srp 28000 [0,5,18,25,140,191,192,205,206,219] ?_; refine ct ?_; refine srp 29000 [0,5,18,25,144,145,147,191,192,205,206,219] ?_; refine rgp 30000 [0,5,18,25,147,191,192,205,206,219] ?_; refine srp 33000 [0,5,18,25,149,191,192,205,206,219] ?_; refine sq ?_; refine k_block ?_; refine k_loop (fun n l => ∃ i j : Nat, n = j - i ∧ BS (q3 (ltU c) us p Up.zero) lo mid i j ∧ l = [(.tmp 0, .av (.sl 0 us.length 0 us.length)), (.tmp 1, .av (vv (.int .i64 a))), (.tmp 2, .av (vv (.int .i64 m))), (.tmp 3, .av (vv (.int .i64 b))), (.tmp 4, .av (.fn (.func 18) [])), (.tmp 18, .av (vv (.int .i64 mid))), (.tmp 19, .av (vv (.int .i64 nn))), (.tmp 20, .av (vv (.int .i64 i))), (.tmp 21, .av (vv (.int .i64 j))), (.tmp 22, .av (vv (.int .i64 p))), (.arr 0, .arr 37 6 ((us).map Up.row) pub)]) (mid - lo) hG ⟨_, ⟨by simp, by simp, by simp⟩, lo, mid, rfl, .start (by omega), rfl⟩ ?_
 rintro n _ ⟨i, j, hin, hB, rfl⟩; have hB1 := hB.a; have hB2 := hB.b; have hB3 := hB.c; refine sq ?_; refine srp 34000 [0,5,18,25,149,191,192,205,206,219] ?_; refine cd ?_ ?_
 · intro h151_1
   have hij : i < j := by simpa using h151_1
   obtain ⟨s, hs⟩ : ∃ s, i + j = s := ⟨_, rfl⟩; obtain ⟨h, hh⟩ : ∃ h, s / 2 = h := ⟨_, rfl⟩; have hws := wadd2 hs (by simp only [Flat.lim] at hus; omega)
   obtain ⟨hwu, hfd, hwh⟩ := half_of hs hh (by simp only [Flat.lim] at hus; omega)
   have hws1 := wrap_succ (show h < Flat.lim by omega)
   have hhl : h < us.length := by omega
   obtain ⟨w, hw⟩ : ∃ w, us[h]? = some w := ⟨_, List.getElem?_eq_getElem (by omega)⟩
   have hw3 : ∀ hh : h < us.length, us[h]'hh = w := fun hh => (List.getElem?_eq_some_iff.1 hw).2
   have hwm := List.mem_of_getElem? hw; obtain ⟨r, hr⟩ : ∃ r, r + h = p := ⟨p - h, by omega⟩
   have hwr := wsub2 hr (by simp only [Flat.lim] at hus; omega)
   have hrl2 : r < us.length := by omega
   obtain ⟨y, hy⟩ : ∃ y, us[r]? = some y := ⟨_, List.getElem?_eq_getElem (by omega)⟩
   have hy2 : ∀ hh : r < us.length, us[r]'hh = y := fun hh => (List.getElem?_eq_some_iff.1 hy).2
   have hym := List.mem_of_getElem? hy; have hgq : q3 (ltU c) us p Up.zero h = (ltU c) y w := by rw [q3, show p - h = r by omega, List.getD_eq_getElem?_getD, List.getD_eq_getElem?_getD, hw, hy]; rfl
   refine k_skip ?_; refine k_block ?_; refine srp 35000 [0,5,18,25,149,191,192,205,206,219] ?_; refine sq ?_; refine dr ?_; refine de 36000 ?_ (h := by simp [*, ltU]; exact is_rfl _)
   refine dc id (hc y hym w hwm) ?_ (hg := by simp [*, ltU]) (hf := by simp [*, ltU]; exact is_rfl _) (hx := by simp [*, ltU]; exact is_rfl _) (hargs := by simp [*, ltU]) (hB := by simp [*, ltU]) (hL := by simp [*, ltU]) (hd := by simp [*, ltU]; exact is_rfl _)
   refine de 36100 ?_ (h := by simp [*, ltU]; exact is_rfl _)
   refine dn ?_; refine pr [0,5,18,25,149,191,192,205,206,219] ?_; refine cd ?_ ?_
   · intro h171_2
     have hBu := hB.up hmono (h := h) (by omega) (by omega) (by rw [hgq]; simpa [ltU] using h171_2)
     refine rg 37000 ?_; refine k_nil ?_; show AK _ _ _ _ _ _; refine k_nil ?_
     first
       | refine ⟨j - (h + 1), by omega, _, ⟨?_, ?_, ?_⟩, h + 1, j, rfl, hBu, rfl⟩ <;> simp [*] <;> done
       | refine ⟨h - i, by omega, _, ⟨?_, ?_, ?_⟩, i, h, rfl, hBd, rfl⟩ <;> simp [*] <;> done
   · intro h171_2
     have hBd := hB.dn hmono (h := h) (by omega) (by omega) (by rw [hgq]; simpa [ltU] using h171_2)
     refine rg 38000 ?_; refine k_nil ?_; show AK _ _ _ _ _ _; refine k_nil ?_
     first
       | refine ⟨j - (h + 1), by omega, _, ⟨?_, ?_, ?_⟩, h + 1, j, rfl, hBu, rfl⟩ <;> simp [*] <;> done
       | refine ⟨h - i, by omega, _, ⟨?_, ?_, ?_⟩, i, h, rfl, hBd, rfl⟩ <;> simp [*] <;> done
 · intro h151_1
   obtain rfl : i = j := by have : ¬ i < j := (by simpa using h151_1); have := hB.b; omega
   have hB1 := hB.a; have hB3 := hB.c; obtain ⟨e, he⟩ : ∃ e, e + i = nn := ⟨nn - i, by omega⟩
   have hwe := wsub2 he (by simp only [Flat.lim] at hus; omega)
   have hap := sym_apart ho hl1 hl2 (e := e) (by omega) (by omega) Up.zero (by omega) (by omega) (by omega) (by omega) (by omega) (by omega) (by omega) hB
   have hsp := sym_split (lt := (ltU c)) (us := us) (a := a) (s := i) (m := m) (e := e) (b := b) (mid := mid) (by omega) (by omega) (by omega) (by omega) (by omega) (by omega) hap.1 hap.2
   have hla := line_sub hl1 (s := i) (by omega) (by omega)
   have hlb := line_sub hl2 (s := e) (by omega) (by omega)
   have hrl0 : (rot us i m e).length = us.length := rot_len us (by omega) (by omega) (by omega)
   have hrl := hrl0; have hrp : (rot us i m e).Perm us := rot_perm (by omega) (by omega)
   have hml : ∀ vs : List Up, (mergeI (ltU c) vs a i mid).length = vs.length := fun vs => mergeI_len (by omega) (by omega)
   have hml2 : ∀ vs : List Up, (mergeI (ltU c) vs mid e b).length = vs.length := fun vs => mergeI_len (by omega) (by omega)
   refine k_exit ?_; show AK _ _ _ _ _ _; refine srp 39000 [0,5,18,19,20,21,24,25,178,191,192,205,206,219] ?_; refine sq ?_; refine src 40000 ?_; iterate 3 (first | refine gp 40250 ?_ | refine os ?_ | refine gt 40250 ?_)
   refine oe 40300 ?_; refine onp [0,5,18,19,20,21,24,25,185,191,192,205,206,219] ?_; refine cd ?_ ?_
   · intro h185_3
     have hcc : i < m ∧ m < e := by simpa using h185_3
     have hg205 := fun (q1 : a < i) (q2 : i < mid) => ih (rot us i m e) a i mid (by simp [hrl]) hrp (by omega) q1 q2 (by first | (simp only [hrl]; omega) | omega) (by omega) (by rw [hsp.2.1]; exact hla.1) (by rw [hsp.2.2.1]; exact hlb.1)
     have hg219F := fun l1 l2 (q1 : mid < e) (q2 : e < b) => ih (rot us i m e) mid e b (by simp [hrl]) hrp (by omega) q1 q2 (by first | (simp only [hrl]; omega) | omega) (by omega) l1 l2
     have hg219T := fun l1 l2 (q1 : mid < e) (q2 : e < b) => ih (mergeI (ltU c) (rot us i m e) a i mid) mid e b (by simp [hml, hrl]) ((mergeI_perm (by omega) (by omega)).trans hrp) (by omega) q1 q2 (by simp only [hml, hrl]; omega) (by omega) l1 l2
     refine rc 41000 ?_; refine oc id (spec209 us (by omega) pub i m e (by omega) (by omega) (by omega) (by omega) (.func 18)) ?_
     refine onp [0,2,3,5,18,19,20,21,24,25,192,205,206,219] ?_; refine sq ?_; refine src 42000 ?_; iterate 3 (first | refine gp 42250 ?_ | refine os ?_ | refine gt 42250 ?_)
     refine oe 42300 ?_; refine onp [0,2,3,5,18,19,20,21,24,25,199,205,206,219] ?_; refine cd ?_ ?_
     · intro h199_4
       have hcc2 : a < i ∧ i < mid := by simpa using h199_4
       have hg219 := hg219T (by rw [hsp.2.2.2.1]; exact hla.2) (by rw [hsp.2.2.2.2]; exact hlb.2)
       refine rc 43000 ?_; refine oc id (hg205 hcc2.1 hcc2.2) ?_; refine onp [0,1,3,5,18,19,24,25,206,219] ?_; refine src 44000 ?_; iterate 3 (first | refine gp 44250 ?_ | refine os ?_ | refine gt 44250 ?_)
       refine oe 44300 ?_; refine onp [0,1,3,5,18,19,24,25,213,219] ?_; refine cd ?_ ?_
       · intro h213_5
         have hcc3 : mid < e ∧ e < b := by simpa using h213_5
         refine rc 45000 ?_; refine oc id (hg219 hcc3.1 hcc3.2) ?_; refine on ?_; refine k_nil ?_; show retQ _ _ _ _ _ _ _; simp [*]
       · intro h213_5
         have hcc3 : ¬ (mid < e ∧ e < b) := by simpa using h213_5
         have hm2 : ∀ vs : List Up, mergeI (ltU c) vs mid e b = vs := by
           intro vs; rcases Nat.lt_or_ge mid e with q | q
           · obtain rfl : e = b := by omega
             exact mergeI_nil2 (by omega)
           · obtain rfl : mid = e := by omega
             exact mergeI_nil1 (by omega)
         rw [hm2] at hsp; have hfin := hsp.1.symm; clear hsp; refine k_skip ?_; refine k_nil ?_; show retQ _ _ _ _ _ _ _; simp [*]
     · intro h199_4
       have hcc2 : ¬ (a < i ∧ i < mid) := by simpa using h199_4
       have hm1 : ∀ vs : List Up, mergeI (ltU c) vs a i mid = vs := by
         intro vs; rcases Nat.lt_or_ge a i with q | q
         · obtain rfl : i = mid := by omega
           exact mergeI_nil2 (by omega)
         · obtain rfl : a = i := by omega
           exact mergeI_nil1 (by omega)
       rw [hm1] at hsp; have hg219 := hg219F (by rw [hsp.2.2.2.1]; exact hla.2) (by rw [hsp.2.2.2.2]; exact hlb.2)
       refine k_skip ?_; refine src 44000 ?_; iterate 3 (first | refine gp 44250 ?_ | refine os ?_ | refine gt 44250 ?_)
       refine oe 44300 ?_; refine onp [0,1,3,5,18,19,24,25,213,219] ?_; refine cd ?_ ?_
       · intro h213_6
         have hcc3 : mid < e ∧ e < b := by simpa using h213_6
         refine rc 45000 ?_; refine oc id (hg219 hcc3.1 hcc3.2) ?_; refine on ?_; refine k_nil ?_; show retQ _ _ _ _ _ _ _; simp [*]
       · intro h213_6
         have hcc3 : ¬ (mid < e ∧ e < b) := by simpa using h213_6
         have hm2 : ∀ vs : List Up, mergeI (ltU c) vs mid e b = vs := by
           intro vs; rcases Nat.lt_or_ge mid e with q | q
           · obtain rfl : e = b := by omega
             exact mergeI_nil2 (by omega)
           · obtain rfl : mid = e := by omega
             exact mergeI_nil1 (by omega)
         rw [hm2] at hsp; have hfin := hsp.1.symm; clear hsp; refine k_skip ?_; refine k_nil ?_; show retQ _ _ _ _ _ _ _; simp [*]
   · intro h185_3
     have hcc : ¬ (i < m ∧ m < e) := by simpa using h185_3
     have hrot : rot us i m e = us := by
       rcases Nat.lt_or_ge i m with q | q
       · obtain rfl : m = e := by omega
         exact rot_self2 (by omega)
       · obtain rfl : i = m := by omega
         exact rot_self1 (by omega)
     rw [hrot] at hsp; have hg205 := fun (q1 : a < i) (q2 : i < mid) => ih (us) a i mid (by simp [hrl]) (List.Perm.refl _) (by omega) q1 q2 (by first | (simp only [hrl]; omega) | omega) (by omega) (by rw [hsp.2.1]; exact hla.1) (by rw [hsp.2.2.1]; exact hlb.1)
     have hg219F := fun l1 l2 (q1 : mid < e) (q2 : e < b) => ih (us) mid e b (by simp [hrl]) (List.Perm.refl _) (by omega) q1 q2 (by first | (simp only [hrl]; omega) | omega) (by omega) l1 l2
     have hg219T := fun l1 l2 (q1 : mid < e) (q2 : e < b) => ih (mergeI (ltU c) (us) a i mid) mid e b (by simp [hml, hrl]) ((mergeI_perm (by omega) (by omega)).trans (List.Perm.refl _)) (by omega) q1 q2 (by simp only [hml, hrl]; omega) (by omega) l1 l2
     refine k_skip ?_; refine sq ?_; refine src 42000 ?_; iterate 3 (first | refine gp 42250 ?_ | refine os ?_ | refine gt 42250 ?_)
     refine oe 42300 ?_; refine onp [0,2,3,5,18,19,20,21,24,25,199,205,206,219] ?_; refine cd ?_ ?_
     · intro h199_7
       have hcc2 : a < i ∧ i < mid := by simpa using h199_7
       have hg219 := hg219T (by rw [hsp.2.2.2.1]; exact hla.2) (by rw [hsp.2.2.2.2]; exact hlb.2)
       refine rc 43000 ?_; refine oc id (hg205 hcc2.1 hcc2.2) ?_; refine onp [0,1,3,5,18,19,24,25,206,219] ?_; refine src 44000 ?_; iterate 3 (first | refine gp 44250 ?_ | refine os ?_ | refine gt 44250 ?_)
       refine oe 44300 ?_; refine onp [0,1,3,5,18,19,24,25,213,219] ?_; refine cd ?_ ?_
       · intro h213_8
         have hcc3 : mid < e ∧ e < b := by simpa using h213_8
         refine rc 45000 ?_; refine oc id (hg219 hcc3.1 hcc3.2) ?_; refine on ?_; refine k_nil ?_; show retQ _ _ _ _ _ _ _; simp [*]
       · intro h213_8
         have hcc3 : ¬ (mid < e ∧ e < b) := by simpa using h213_8
         have hm2 : ∀ vs : List Up, mergeI (ltU c) vs mid e b = vs := by
           intro vs; rcases Nat.lt_or_ge mid e with q | q
           · obtain rfl : e = b := by omega
             exact mergeI_nil2 (by omega)
           · obtain rfl : mid = e := by omega
             exact mergeI_nil1 (by omega)
         rw [hm2] at hsp; have hfin := hsp.1.symm; clear hsp; refine k_skip ?_; refine k_nil ?_; show retQ _ _ _ _ _ _ _; simp [*]
     · intro h199_7
       have hcc2 : ¬ (a < i ∧ i < mid) := by simpa using h199_7
       have hm1 : ∀ vs : List Up, mergeI (ltU c) vs a i mid = vs := by
         intro vs; rcases Nat.lt_or_ge a i with q | q
         · obtain rfl : i = mid := by omega
           exact mergeI_nil2 (by omega)
         · obtain rfl : a = i := by omega
           exact mergeI_nil1 (by omega)
       rw [hm1] at hsp; have hg219 := hg219F (by rw [hsp.2.2.2.1]; exact hla.2) (by rw [hsp.2.2.2.2]; exact hlb.2)
       refine k_skip ?_; refine src 44000 ?_; iterate 3 (first | refine gp 44250 ?_ | refine os ?_ | refine gt 44250 ?_)
       refine oe 44300 ?_; refine onp [0,1,3,5,18,19,24,25,213,219] ?_; refine cd ?_ ?_
       · intro h213_9
         have hcc3 : mid < e ∧ e < b := by simpa using h213_9
         refine rc 45000 ?_; refine oc id (hg219 hcc3.1 hcc3.2) ?_; refine on ?_; refine k_nil ?_; show retQ _ _ _ _ _ _ _; simp [*]
       · intro h213_9
         have hcc3 : ¬ (mid < e ∧ e < b) := by simpa using h213_9
         have hm2 : ∀ vs : List Up, mergeI (ltU c) vs mid e b = vs := by
           intro vs; rcases Nat.lt_or_ge mid e with q | q
           · obtain rfl : e = b := by omega
             exact mergeI_nil2 (by omega)
           · obtain rfl : mid = e := by omega
             exact mergeI_nil1 (by omega)
         rw [hm2] at hsp; have hfin := hsp.1.symm; clear hsp; refine k_skip ?_; refine k_nil ?_; show retQ _ _ _ _ _ _ _; simp [*]
attribute [local simp] Up.row Up.av in
set_option maxHeartbeats 2000000 in
theorem spec203_g1 (c : Up → Up → Int) (ho : Ord (ltU c)) (us : List Up) (hus : us.length < Flat.lim) (hc : ∀ x ∈ us, ∀ y ∈ us, Flat.Sp Tryz.prog 18 [x.av, y.av] [] (vv (.int .i64 (c x y))) []) (pub a m b mid : Nat) (hpa : pub ≤ a) (ham : a + 1 < m) (hmb : m + 1 < b) (hb : b ≤ us.length) (hmd : (a + b) / 2 = mid) (hv : m ≤ mid) (hl1 : Line (ltU c) (seg us a m)) (hl2 : Line (ltU c) (seg us m b)) (ih : ∀ (vs : List Up) (a' m' b' : Nat), vs.length = us.length → vs.Perm us → pub ≤ a' → a' < m' → m' < b' → b' ≤ vs.length → b' - a' < b - a → Line (ltU c) (seg vs a' m') → Line (ltU c) (seg vs m' b') → Flat.Sp Tryz.prog 270 [.sl 0 vs.length 0 vs.length, vv (.int .i64 a'), vv (.int .i64 m'), vv (.int .i64 b'), .fn (.func 18) []] [(.arr 0, .arr 37 6 ((vs).map Up.row) pub)] (.tup []) [(.arr 0, .arr 37 6 ((mergeI (ltU c) vs a' m' b').map Up.row) pub)])  : Flat.Sp Tryz.prog 270 [.sl 0 us.length 0 us.length, vv (.int .i64 a), vv (.int .i64 m), vv (.int .i64 b), .fn (.func 18) []] [(.arr 0, .arr 37 6 ((us).map Up.row) pub)] (.tup []) [(.arr 0, .arr 37 6 ((mergeI (ltU c) us a m b).map Up.row) pub)] := by
 refine sk Tryz.func270 ?_; intro F G hn hG; obtain ⟨d0, hd0⟩ : ∃ d, d + a = m := ⟨m - a, by omega⟩
 have hw0 := wsub hd0 (by omega)
 have hd1 : ((d0 : Int) == 1) = false := by simp; omega
 obtain ⟨d2, hd2⟩ : ∃ d, d + m = b := ⟨b - m, by omega⟩
 have hw2 := wsub hd2 (by omega)
 have hd3 : ((d2 : Int) == 1) = false := by simp; omega
 obtain ⟨ab, hab⟩ : ∃ s, a + b = s := ⟨_, rfl⟩; have hwab := wadd2 hab (by simp only [Flat.lim] at hus; omega)
 obtain ⟨hmu, hmf, hmw⟩ := half_of hab (show ab / 2 = mid by rw [← hab]; exact hmd) (by simp only [Flat.lim] at hus; omega)
 obtain ⟨nn, hnn⟩ : ∃ s, mid + m = s := ⟨_, rfl⟩; have hwnn := wadd2 hnn (by simp only [Flat.lim] at hus; omega)
 obtain ⟨p, hp⟩ : ∃ p, p + 1 = nn := ⟨nn - 1, by omega⟩
 have hwp := wsub2 hp (by simp only [Flat.lim] at hus; omega)
 simp only [Int.natCast_one] at hwp; have hbr : ¬ (m : Int) > (mid : Int) := by omega
 have hmono := q3_mono ho hl1 hl2 (lo := a) (hi := m) (p := p) (by omega) (by omega) Up.zero (by omega) (by omega) (by omega) (by omega)
 refine sq ?_; refine srp 1000 [0,5,10,25,28,191,192,205,206,219] ?_; refine ce ?_; refine k_skip ?_; refine sq ?_; refine srp 13000 [0,5,14,25,80,191,192,205,206,219] ?_; refine ce ?_; refine k_skip ?_; refine srp 25000 [0,5,18,25,135,191,192,205,206,219] ?_; refine srp 26000 [0,5,18,25,138,191,192,205,206,219] ?_; refine srp 27000 [0,5,18,25,138,191,192,205,206,219] ?_; refine sq ?_; refine srp 28000 [0,5,18,25,140,191,192,205,206,219] ?_; refine ce ?_; refine srp 31000 [0,5,18,25,146,191,192,205,206,219] ?_; refine rgp 32000 [0,5,18,25,147,191,192,205,206,219] ?_; refine srp 33000 [0,5,18,25,149,191,192,205,206,219] ?_; refine sq ?_; refine k_block ?_; refine k_loop (fun n l => ∃ i j : Nat, n = j - i ∧ BS (q3 (ltU c) us p Up.zero) a m i j ∧ l = [(.tmp 0, .av (.sl 0 us.length 0 us.length)), (.tmp 1, .av (vv (.int .i64 a))), (.tmp 2, .av (vv (.int .i64 m))), (.tmp 3, .av (vv (.int .i64 b))), (.tmp 4, .av (.fn (.func 18) [])), (.tmp 18, .av (vv (.int .i64 mid))), (.tmp 19, .av (vv (.int .i64 nn))), (.tmp 20, .av (vv (.int .i64 i))), (.tmp 21, .av (vv (.int .i64 j))), (.tmp 22, .av (vv (.int .i64 p))), (.arr 0, .arr 37 6 ((us).map Up.row) pub)]) (m - a) hG ⟨_, ⟨by simp, by simp, by simp⟩, a, m, rfl, .start (by omega), rfl⟩ ?_
 rintro n _ ⟨i, j, hin, hB, rfl⟩; have hB1 := hB.a; have hB2 := hB.b; have hB3 := hB.c; refine sq ?_; refine srp 34000 [0,5,18,25,149,191,192,205,206,219] ?_; refine cd ?_ ?_
 · intro h151_1
   have hij : i < j := by simpa using h151_1
   obtain ⟨s, hs⟩ : ∃ s, i + j = s := ⟨_, rfl⟩; obtain ⟨h, hh⟩ : ∃ h, s / 2 = h := ⟨_, rfl⟩; have hws := wadd2 hs (by simp only [Flat.lim] at hus; omega)
   obtain ⟨hwu, hfd, hwh⟩ := half_of hs hh (by simp only [Flat.lim] at hus; omega)
   have hws1 := wrap_succ (show h < Flat.lim by omega)
   have hhl : h < us.length := by omega
   obtain ⟨w, hw⟩ : ∃ w, us[h]? = some w := ⟨_, List.getElem?_eq_getElem (by omega)⟩
   have hw3 : ∀ hh : h < us.length, us[h]'hh = w := fun hh => (List.getElem?_eq_some_iff.1 hw).2
   have hwm := List.mem_of_getElem? hw; obtain ⟨r, hr⟩ : ∃ r, r + h = p := ⟨p - h, by omega⟩
   have hwr := wsub2 hr (by simp only [Flat.lim] at hus; omega)
   have hrl2 : r < us.length := by omega
   obtain ⟨y, hy⟩ : ∃ y, us[r]? = some y := ⟨_, List.getElem?_eq_getElem (by omega)⟩
   have hy2 : ∀ hh : r < us.length, us[r]'hh = y := fun hh => (List.getElem?_eq_some_iff.1 hy).2
   have hym := List.mem_of_getElem? hy; have hgq : q3 (ltU c) us p Up.zero h = (ltU c) y w := by rw [q3, show p - h = r by omega, List.getD_eq_getElem?_getD, List.getD_eq_getElem?_getD, hw, hy]; rfl
   refine k_skip ?_; refine k_block ?_; refine srp 35000 [0,5,18,25,149,191,192,205,206,219] ?_; refine sq ?_; refine dr ?_; refine de 36000 ?_ (h := by simp [*, ltU]; exact is_rfl _)
   refine dc id (hc y hym w hwm) ?_ (hg := by simp [*, ltU]) (hf := by simp [*, ltU]; exact is_rfl _) (hx := by simp [*, ltU]; exact is_rfl _) (hargs := by simp [*, ltU]) (hB := by simp [*, ltU]) (hL := by simp [*, ltU]) (hd := by simp [*, ltU]; exact is_rfl _)
   refine de 36100 ?_ (h := by simp [*, ltU]; exact is_rfl _)
   refine dn ?_; refine pr [0,5,18,25,149,191,192,205,206,219] ?_; refine cd ?_ ?_
   · intro h171_2
     have hBu := hB.up hmono (h := h) (by omega) (by omega) (by rw [hgq]; simpa [ltU] using h171_2)
     refine rg 37000 ?_; refine k_nil ?_; show AK _ _ _ _ _ _; refine k_nil ?_
     first
       | refine ⟨j - (h + 1), by omega, _, ⟨?_, ?_, ?_⟩, h + 1, j, rfl, hBu, rfl⟩ <;> simp [*] <;> done
       | refine ⟨h - i, by omega, _, ⟨?_, ?_, ?_⟩, i, h, rfl, hBd, rfl⟩ <;> simp [*] <;> done
   · intro h171_2
     have hBd := hB.dn hmono (h := h) (by omega) (by omega) (by rw [hgq]; simpa [ltU] using h171_2)
     refine rg 38000 ?_; refine k_nil ?_; show AK _ _ _ _ _ _; refine k_nil ?_
     first
       | refine ⟨j - (h + 1), by omega, _, ⟨?_, ?_, ?_⟩, h + 1, j, rfl, hBu, rfl⟩ <;> simp [*] <;> done
       | refine ⟨h - i, by omega, _, ⟨?_, ?_, ?_⟩, i, h, rfl, hBd, rfl⟩ <;> simp [*] <;> done
 · intro h151_1
   obtain rfl : i = j := by have : ¬ i < j := (by simpa using h151_1); have := hB.b; omega
   have hB1 := hB.a; have hB3 := hB.c; obtain ⟨e, he⟩ : ∃ e, e + i = nn := ⟨nn - i, by omega⟩
   have hwe := wsub2 he (by simp only [Flat.lim] at hus; omega)
   have hap := sym_apart ho hl1 hl2 (e := e) (by omega) (by omega) Up.zero (by omega) (by omega) (by omega) (by omega) (by omega) (by omega) (by omega) hB
   have hsp := sym_split (lt := (ltU c)) (us := us) (a := a) (s := i) (m := m) (e := e) (b := b) (mid := mid) (by omega) (by omega) (by omega) (by omega) (by omega) (by omega) hap.1 hap.2
   have hla := line_sub hl1 (s := i) (by omega) (by omega)
   have hlb := line_sub hl2 (s := e) (by omega) (by omega)
   have hrl0 : (rot us i m e).length = us.length := rot_len us (by omega) (by omega) (by omega)
   have hrl := hrl0; have hrp : (rot us i m e).Perm us := rot_perm (by omega) (by omega)
   have hml : ∀ vs : List Up, (mergeI (ltU c) vs a i mid).length = vs.length := fun vs => mergeI_len (by omega) (by omega)
   have hml2 : ∀ vs : List Up, (mergeI (ltU c) vs mid e b).length = vs.length := fun vs => mergeI_len (by omega) (by omega)
   refine k_exit ?_; show AK _ _ _ _ _ _; refine srp 39000 [0,5,18,19,20,21,24,25,178,191,192,205,206,219] ?_; refine sq ?_; refine src 40000 ?_; iterate 3 (first | refine gp 40250 ?_ | refine os ?_ | refine gt 40250 ?_)
   refine oe 40300 ?_; refine onp [0,5,18,19,20,21,24,25,185,191,192,205,206,219] ?_; refine cd ?_ ?_
   · intro h185_3
     have hcc : i < m ∧ m < e := by simpa using h185_3
     have hg205 := fun (q1 : a < i) (q2 : i < mid) => ih (rot us i m e) a i mid (by simp [hrl]) hrp (by omega) q1 q2 (by first | (simp only [hrl]; omega) | omega) (by omega) (by rw [hsp.2.1]; exact hla.1) (by rw [hsp.2.2.1]; exact hlb.1)
     have hg219F := fun l1 l2 (q1 : mid < e) (q2 : e < b) => ih (rot us i m e) mid e b (by simp [hrl]) hrp (by omega) q1 q2 (by first | (simp only [hrl]; omega) | omega) (by omega) l1 l2
     have hg219T := fun l1 l2 (q1 : mid < e) (q2 : e < b) => ih (mergeI (ltU c) (rot us i m e) a i mid) mid e b (by simp [hml, hrl]) ((mergeI_perm (by omega) (by omega)).trans hrp) (by omega) q1 q2 (by simp only [hml, hrl]; omega) (by omega) l1 l2
     refine rc 41000 ?_; refine oc id (spec209 us (by omega) pub i m e (by omega) (by omega) (by omega) (by omega) (.func 18)) ?_
     refine onp [0,2,3,5,18,19,20,21,24,25,192,205,206,219] ?_; refine sq ?_; refine src 42000 ?_; iterate 3 (first | refine gp 42250 ?_ | refine os ?_ | refine gt 42250 ?_)
     refine oe 42300 ?_; refine onp [0,2,3,5,18,19,20,21,24,25,199,205,206,219] ?_; refine cd ?_ ?_
     · intro h199_4
       have hcc2 : a < i ∧ i < mid := by simpa using h199_4
       have hg219 := hg219T (by rw [hsp.2.2.2.1]; exact hla.2) (by rw [hsp.2.2.2.2]; exact hlb.2)
       refine rc 43000 ?_; refine oc id (hg205 hcc2.1 hcc2.2) ?_; refine onp [0,1,3,5,18,19,24,25,206,219] ?_; refine src 44000 ?_; iterate 3 (first | refine gp 44250 ?_ | refine os ?_ | refine gt 44250 ?_)
       refine oe 44300 ?_; refine onp [0,1,3,5,18,19,24,25,213,219] ?_; refine cd ?_ ?_
       · intro h213_5
         have hcc3 : mid < e ∧ e < b := by simpa using h213_5
         refine rc 45000 ?_; refine oc id (hg219 hcc3.1 hcc3.2) ?_; refine on ?_; refine k_nil ?_; show retQ _ _ _ _ _ _ _; simp [*]
       · intro h213_5
         have hcc3 : ¬ (mid < e ∧ e < b) := by simpa using h213_5
         have hm2 : ∀ vs : List Up, mergeI (ltU c) vs mid e b = vs := by
           intro vs; rcases Nat.lt_or_ge mid e with q | q
           · obtain rfl : e = b := by omega
             exact mergeI_nil2 (by omega)
           · obtain rfl : mid = e := by omega
             exact mergeI_nil1 (by omega)
         rw [hm2] at hsp; have hfin := hsp.1.symm; clear hsp; refine k_skip ?_; refine k_nil ?_; show retQ _ _ _ _ _ _ _; simp [*]
     · intro h199_4
       have hcc2 : ¬ (a < i ∧ i < mid) := by simpa using h199_4
       have hm1 : ∀ vs : List Up, mergeI (ltU c) vs a i mid = vs := by
         intro vs; rcases Nat.lt_or_ge a i with q | q
         · obtain rfl : i = mid := by omega
           exact mergeI_nil2 (by omega)
         · obtain rfl : a = i := by omega
           exact mergeI_nil1 (by omega)
       rw [hm1] at hsp; have hg219 := hg219F (by rw [hsp.2.2.2.1]; exact hla.2) (by rw [hsp.2.2.2.2]; exact hlb.2)
       refine k_skip ?_; refine src 44000 ?_; iterate 3 (first | refine gp 44250 ?_ | refine os ?_ | refine gt 44250 ?_)
       refine oe 44300 ?_; refine onp [0,1,3,5,18,19,24,25,213,219] ?_; refine cd ?_ ?_
       · intro h213_6
         have hcc3 : mid < e ∧ e < b := by simpa using h213_6
         refine rc 45000 ?_; refine oc id (hg219 hcc3.1 hcc3.2) ?_; refine on ?_; refine k_nil ?_; show retQ _ _ _ _ _ _ _; simp [*]
       · intro h213_6
         have hcc3 : ¬ (mid < e ∧ e < b) := by simpa using h213_6
         have hm2 : ∀ vs : List Up, mergeI (ltU c) vs mid e b = vs := by
           intro vs; rcases Nat.lt_or_ge mid e with q | q
           · obtain rfl : e = b := by omega
             exact mergeI_nil2 (by omega)
           · obtain rfl : mid = e := by omega
             exact mergeI_nil1 (by omega)
         rw [hm2] at hsp; have hfin := hsp.1.symm; clear hsp; refine k_skip ?_; refine k_nil ?_; show retQ _ _ _ _ _ _ _; simp [*]
   · intro h185_3
     have hcc : ¬ (i < m ∧ m < e) := by simpa using h185_3
     have hrot : rot us i m e = us := by
       rcases Nat.lt_or_ge i m with q | q
       · obtain rfl : m = e := by omega
         exact rot_self2 (by omega)
       · obtain rfl : i = m := by omega
         exact rot_self1 (by omega)
     rw [hrot] at hsp; have hg205 := fun (q1 : a < i) (q2 : i < mid) => ih (us) a i mid (by simp [hrl]) (List.Perm.refl _) (by omega) q1 q2 (by first | (simp only [hrl]; omega) | omega) (by omega) (by rw [hsp.2.1]; exact hla.1) (by rw [hsp.2.2.1]; exact hlb.1)
     have hg219F := fun l1 l2 (q1 : mid < e) (q2 : e < b) => ih (us) mid e b (by simp [hrl]) (List.Perm.refl _) (by omega) q1 q2 (by first | (simp only [hrl]; omega) | omega) (by omega) l1 l2
     have hg219T := fun l1 l2 (q1 : mid < e) (q2 : e < b) => ih (mergeI (ltU c) (us) a i mid) mid e b (by simp [hml, hrl]) ((mergeI_perm (by omega) (by omega)).trans (List.Perm.refl _)) (by omega) q1 q2 (by simp only [hml, hrl]; omega) (by omega) l1 l2
     refine k_skip ?_; refine sq ?_; refine src 42000 ?_; iterate 3 (first | refine gp 42250 ?_ | refine os ?_ | refine gt 42250 ?_)
     refine oe 42300 ?_; refine onp [0,2,3,5,18,19,20,21,24,25,199,205,206,219] ?_; refine cd ?_ ?_
     · intro h199_7
       have hcc2 : a < i ∧ i < mid := by simpa using h199_7
       have hg219 := hg219T (by rw [hsp.2.2.2.1]; exact hla.2) (by rw [hsp.2.2.2.2]; exact hlb.2)
       refine rc 43000 ?_; refine oc id (hg205 hcc2.1 hcc2.2) ?_; refine onp [0,1,3,5,18,19,24,25,206,219] ?_; refine src 44000 ?_; iterate 3 (first | refine gp 44250 ?_ | refine os ?_ | refine gt 44250 ?_)
       refine oe 44300 ?_; refine onp [0,1,3,5,18,19,24,25,213,219] ?_; refine cd ?_ ?_
       · intro h213_8
         have hcc3 : mid < e ∧ e < b := by simpa using h213_8
         refine rc 45000 ?_; refine oc id (hg219 hcc3.1 hcc3.2) ?_; refine on ?_; refine k_nil ?_; show retQ _ _ _ _ _ _ _; simp [*]
       · intro h213_8
         have hcc3 : ¬ (mid < e ∧ e < b) := by simpa using h213_8
         have hm2 : ∀ vs : List Up, mergeI (ltU c) vs mid e b = vs := by
           intro vs; rcases Nat.lt_or_ge mid e with q | q
           · obtain rfl : e = b := by omega
             exact mergeI_nil2 (by omega)
           · obtain rfl : mid = e := by omega
             exact mergeI_nil1 (by omega)
         rw [hm2] at hsp; have hfin := hsp.1.symm; clear hsp; refine k_skip ?_; refine k_nil ?_; show retQ _ _ _ _ _ _ _; simp [*]
     · intro h199_7
       have hcc2 : ¬ (a < i ∧ i < mid) := by simpa using h199_7
       have hm1 : ∀ vs : List Up, mergeI (ltU c) vs a i mid = vs := by
         intro vs; rcases Nat.lt_or_ge a i with q | q
         · obtain rfl : i = mid := by omega
           exact mergeI_nil2 (by omega)
         · obtain rfl : a = i := by omega
           exact mergeI_nil1 (by omega)
       rw [hm1] at hsp; have hg219 := hg219F (by rw [hsp.2.2.2.1]; exact hla.2) (by rw [hsp.2.2.2.2]; exact hlb.2)
       refine k_skip ?_; refine src 44000 ?_; iterate 3 (first | refine gp 44250 ?_ | refine os ?_ | refine gt 44250 ?_)
       refine oe 44300 ?_; refine onp [0,1,3,5,18,19,24,25,213,219] ?_; refine cd ?_ ?_
       · intro h213_9
         have hcc3 : mid < e ∧ e < b := by simpa using h213_9
         refine rc 45000 ?_; refine oc id (hg219 hcc3.1 hcc3.2) ?_; refine on ?_; refine k_nil ?_; show retQ _ _ _ _ _ _ _; simp [*]
       · intro h213_9
         have hcc3 : ¬ (mid < e ∧ e < b) := by simpa using h213_9
         have hm2 : ∀ vs : List Up, mergeI (ltU c) vs mid e b = vs := by
           intro vs; rcases Nat.lt_or_ge mid e with q | q
           · obtain rfl : e = b := by omega
             exact mergeI_nil2 (by omega)
           · obtain rfl : mid = e := by omega
             exact mergeI_nil1 (by omega)
         rw [hm2] at hsp; have hfin := hsp.1.symm; clear hsp; refine k_skip ?_; refine k_nil ?_; show retQ _ _ _ _ _ _ _; simp [*]
end
section
theorem wdbl {x g : Nat} (h : 2 * x = g) (hg : g ≤ 1125899906842624) : IntKind.i64.wrap (2 * (x : Int)) = (g : Int) ∧ IntKind.i64.wrap ((x : Int) * 2) = (g : Int) := by
 rw [w64, w64]; omega
theorem insI_len {α : Type} {c : α → α → Int} {us : List α} {a b : Nat} (h1 : a ≤ b) (h2 : b ≤ us.length) : (insI c us a b).length = us.length := by
 simp only [insI, List.length_append, isrt_length, seg_len h2, List.length_take, List.length_drop]; omega
theorem insI_perm {α : Type} {c : α → α → Int} {us : List α} {a b : Nat} (h1 : a ≤ b) : (insI c us a b).Perm us := by
 have e : us = us.take a ++ (seg us a b ++ us.drop b) := by rw [← seg_drop h1, List.take_append_drop]
 refine List.Perm.trans ?_ (List.Perm.of_eq e.symm); exact List.Perm.append_left _ ((isrt_perm _).append_right _)
theorem spec203 (c : Up → Up → Int) (ho : Ord (ltU c)) (pub : Nat) : ∀ (N : Nat) (us : List Up), us.length < Flat.lim → (∀ x ∈ us, ∀ y ∈ us, Flat.Sp Tryz.prog 18 [x.av, y.av] [] (vv (.int .i64 (c x y))) []) → ∀ (a m b : Nat), pub ≤ a → a < m → m < b → b ≤ us.length → b - a = N → Line (ltU c) (seg us a m) → Line (ltU c) (seg us m b) →
   Flat.Sp Tryz.prog 270 [.sl 0 us.length 0 us.length, vv (.int .i64 a), vv (.int .i64 m), vv (.int .i64 b), .fn (.func 18) []] [(.arr 0, .arr 37 6 (us.map Up.row) pub)] (.tup []) [(.arr 0, .arr 37 6 ((mergeI (ltU c) us a m b).map Up.row) pub)] := by
 intro N
 induction N using Nat.strongRecOn with
 | ind N ih =>
   intro us hus hc a m b hpa ham hmb hb hN hl1 hl2
   by_cases h1 : a + 1 = m
   · exact spec203_one c ho us hus hc pub a m b hpa h1 hmb hb hl2
   · by_cases h2 : m + 1 = b
     · exact spec203_last c ho us hus hc pub a m b hpa (by omega) h2 hb hl1
     · have IH : ∀ (vs : List Up) (a' m' b' : Nat), vs.length = us.length → vs.Perm us → pub ≤ a' → a' < m' → m' < b' → b' ≤ vs.length → b' - a' < b - a → Line (ltU c) (seg vs a' m') → Line (ltU c) (seg vs m' b') → Flat.Sp Tryz.prog 270 [.sl 0 vs.length 0 vs.length, vv (.int .i64 a'), vv (.int .i64 m'), vv (.int .i64 b'), .fn (.func 18) []] [(.arr 0, .arr 37 6 (vs.map Up.row) pub)] (.tup []) [(.arr 0, .arr 37 6 ((mergeI (ltU c) vs a' m' b').map Up.row) pub)] :=
         fun vs a' m' b' e1 e2 e3 e4 e5 e6 e7 e8 e9 => ih (b' - a') (by omega) vs (by omega) (fun x hx y hy => hc x (e2.mem_iff.1 hx) y (e2.mem_iff.1 hy)) a' m' b' e3 e4 e5 e6 rfl e8 e9
       by_cases h3 : (a + b) / 2 < m
       · exact spec203_g0 c ho us hus hc pub a m b _ hpa (by omega) (by omega) hb rfl h3 hl1 hl2 IH
       · exact spec203_g1 c ho us hus hc pub a m b _ hpa (by omega) (by omega) hb rfl (by omega) hl1 hl2 IH
set_option maxHeartbeats 1000000 in
theorem spec186 (c : Up → Up → Int) (ho : Ord (ltU c)) (us : List Up) (hus : us.length < Flat.lim) (hc : ∀ x ∈ us, ∀ y ∈ us, Flat.Sp Tryz.prog 18 [x.av, y.av] [] (vv (.int .i64 (c x y))) [])  : Flat.Sp Tryz.prog 216 [.sl 0 us.length 0 us.length, vv (.int .i64 us.length), .fn (.func 18) []] [(.arr 0, .arr 37 6 ((us).map Up.row) 0)] (.tup []) [(.arr 0, .arr 37 6 ((isrt (ltU c) us).map Up.row) 0)] := by
 refine sk Tryz.func216 ?_; intro F G hn hG; have hblk : blkA (ltU c) 20 us = blkA (ltU c) 20 us := rfl; clear hblk; refine srp 1000 [0,3,6,18,19,27,28,43,44,60,61,63] ?_; refine srp 2000 [0,3,6,10,11,18,19,27,28,43,44,60,61,63] ?_; refine sq ?_; refine k_block ?_; refine k_loop (fun n l => ∃ (a b : Nat) (L cur : List Up), n + a = us.length ∧ (L.length = a ∧ a + 20 = b ∧ a ≤ us.length ∧ L ++ us.drop a = cur ∧ cur.length = us.length ∧ cur.Perm us ∧ L ++ blkA (ltU c) 20 (us.drop a) = blkA (ltU c) 20 us) ∧ l = [(.tmp 0, .av (.sl 0 us.length 0 us.length)), (.tmp 1, .av (vv (.int .i64 us.length))), (.tmp 2, .av (.fn (.func 18) [])), (.tmp 6, .av (vv (.int .i64 20))), (.tmp 7, .av (vv (.int .i64 a))), (.tmp 8, .av (vv (.int .i64 b))), (.arr 0, .arr 37 6 ((cur).map Up.row) 0)]) (us.length) hG ⟨_, ⟨by simp, by simp, by simp⟩, 0, 20, [], us, by omega, ⟨rfl, rfl, Nat.zero_le _, rfl, rfl, .refl _, rfl⟩, rfl⟩ ?_
 rintro n _ ⟨a, b, L, cur, hna, ⟨hLl, hab, hau, hLc, hcl, hpm, hLb⟩, rfl⟩; have hcp : ∀ x ∈ cur, ∀ y ∈ cur, Flat.Sp Tryz.prog 18 [x.av, y.av] [] (vv (.int .i64 (c x y))) [] := fun x hx y hy => hc x (hpm.mem_iff.1 hx) y (hpm.mem_iff.1 hy)
 have hwb := wadd2 (x := b) (y := 20) rfl (by simp only [Flat.lim] at hus; omega)
 have hwb : IntKind.i64.wrap ((b : Int) + 20) = ((b + 20 : Nat) : Int) := hwb; refine sq ?_; refine srp 3000 [0,3,6,10,11,18,19,27,28,43,44,60,61,63] ?_; refine cd ?_ ?_
 · intro h13_1
   have hb : b ≤ us.length := by have := h13_1; simp at this; omega
   obtain ⟨L1, hL1, hL2, hL3⟩ := ins_blk ho (B := 20) (by omega) hLl hLc.symm hLb b (by omega) hb
   have hL2 : insI c cur a b = L1 ++ us.drop b := hL2; have hab2 : a < b := by omega
   have hil : (insI c cur a b).length = cur.length := insI_len (by omega) (by omega)
   have hip : (insI c cur a b).Perm cur := insI_perm (by omega)
   refine k_skip ?_; refine k_block ?_; refine src 4000 ?_; refine oc id (spec202 c ho cur (by omega) hcp 0 a b (Nat.zero_le _) (by omega) (by omega)) ?_
   refine onp [0,3,6,10,11,18,19,27,28,43,44,60,61,63] ?_; refine srp 5000 [0,3,6,10,11,18,19,27,28,43,44,60,61,63] ?_; refine rg 6000 ?_; refine k_nil ?_; show AK _ _ _ _ _ _; refine k_nil ?_; refine ⟨n - 20, by omega, _, ⟨?_, ?_, ?_⟩, b, b + 20, L1, insI c cur a b, by omega, ⟨hL1, rfl, by omega, hL2.symm, by rw [hil]; exact hcl, hip.trans hpm, hL3⟩, rfl⟩ <;> simp [*]
 · intro h13_1
   have hb : us.length < b := by have := h13_1; simp at this; omega
   have hlast : (if a < us.length then insI c cur a us.length else cur) = blkA (ltU c) 20 us := by
     by_cases q : a < us.length
     · rw [if_pos q]; exact ins_last ho (B := 20) (by omega) hLl (by omega) hLc.symm hLb (by omega)
     · rw [if_neg q, ← hLb, ← hLc]; congr 1; rw [List.drop_eq_nil_of_le (by omega)]; rfl
   refine k_exit ?_; show AK _ _ _ _ _ _; refine src 7000 ?_; refine oc id (spec202 c ho cur (by omega) hcp 0 a us.length (Nat.zero_le _) (by omega) (by omega)) ?_
   refine onp [0,3,6,10,28,43,44,60,61,63] ?_; refine k_block ?_; refine k_loop (fun n l => ∃ B : Nat, n = us.length - B ∧ (0 < B ∧ B ≤ 2 * us.length + 20) ∧ l = [(.tmp 0, .av (.sl 0 us.length 0 us.length)), (.tmp 1, .av (vv (.int .i64 us.length))), (.tmp 2, .av (.fn (.func 18) [])), (.tmp 6, .av (vv (.int .i64 B))), (.arr 0, .arr 37 6 ((blkA (ltU c) B us).map Up.row) 0)]) (us.length - 20) hG ⟨_, ⟨by simp [*], by simp, by simp⟩, 20, rfl, ⟨by omega, by omega⟩, rfl⟩ ?_
   rintro n2 _ ⟨B, hnB, ⟨hB0, hBl⟩, rfl⟩; refine sq ?_; refine srp 8000 [0,3,6,10,28,43,44,60,61,63] ?_; refine cd ?_ ?_
   · intro h30_2
     have hB : B < us.length := by have := h30_2; simp at this; omega
     obtain ⟨B2, hB2⟩ : ∃ B2, 2 * B = B2 := ⟨_, rfl⟩; obtain ⟨hw2, hw3⟩ := wdbl hB2 (by simp only [Flat.lim] at hus; omega)
     refine k_skip ?_; refine k_block ?_; refine srp 9000 [0,3,6,10,28,43,44,60,61,63] ?_; refine sq ?_; refine k_block ?_; refine k_loop (fun n l => ∃ (a b : Nat) (L cur : List Up), n = us.length - a ∧ (L.length = a ∧ a + B2 = b ∧ a ≤ us.length ∧ L ++ blkA (ltU c) B (us.drop a) = cur ∧ cur.length = us.length ∧ cur.Perm us ∧ L ++ blkA (ltU c) B2 (us.drop a) = blkA (ltU c) B2 us) ∧ l = [(.tmp 0, .av (.sl 0 us.length 0 us.length)), (.tmp 1, .av (vv (.int .i64 us.length))), (.tmp 2, .av (.fn (.func 18) [])), (.tmp 6, .av (vv (.int .i64 B))), (.tmp 7, .av (vv (.int .i64 a))), (.tmp 8, .av (vv (.int .i64 b))), (.arr 0, .arr 37 6 ((cur).map Up.row) 0)]) (us.length) hG ⟨_, ⟨by simp [*], by simp, by simp⟩, 0, B2, [], blkA (ltU c) B us, by omega, ⟨rfl, by omega, Nat.zero_le _, rfl, (blkA_perm hB0 us).length_eq, blkA_perm hB0 us, rfl⟩, rfl⟩ ?_
     rintro n3 _ ⟨a, b, L, cur, hna2, ⟨hLl, hab, hau, hLc, hcl, hpm, hLb⟩, rfl⟩; have hcp : ∀ x ∈ cur, ∀ y ∈ cur, Flat.Sp Tryz.prog 18 [x.av, y.av] [] (vv (.int .i64 (c x y))) [] := fun x hx y hy => hc x (hpm.mem_iff.1 hx) y (hpm.mem_iff.1 hy)
     obtain ⟨m, hm⟩ : ∃ m, a + B = m := ⟨_, rfl⟩; have hwm := wadd2 hm (by simp only [Flat.lim] at hus; omega)
     obtain ⟨b2, hb2⟩ : ∃ b2, b + B2 = b2 := ⟨_, rfl⟩; have hwb2 := wadd2 hb2 (by simp only [Flat.lim] at hus; omega)
     refine sq ?_; refine srp 10000 [0,3,6,10,28,43,44,60,61,63] ?_; refine cd ?_ ?_
     · intro h35_3
       have hb : b ≤ us.length := by have := h35_3; simp at this; omega
       obtain ⟨⟨L1, hL1, hL2, hL3⟩, hl1, hl2⟩ := mrg_blk ho hB0 hLl hau hLc.symm (by rw [hB2]; exact hLb) m b hm.symm (by omega) hb
       rw [hB2] at hL3; have hil : (mergeI (ltU c) cur a m b).length = cur.length := mergeI_len (by omega) (by omega)
       have hip : (mergeI (ltU c) cur a m b).Perm cur := mergeI_perm (by omega) (by omega)
       refine k_skip ?_; refine k_block ?_; refine src 11000 ?_; refine oc id (spec203 c ho 0 _ cur (by omega) hcp a m b (Nat.zero_le _) (by omega) (by omega) (by omega) rfl hl1 hl2) ?_
       refine onp [0,3,6,10,28,43,44,60,61,63] ?_; refine srp 12000 [0,3,6,10,28,43,44,60,61,63] ?_; refine rg 13000 ?_; refine k_nil ?_; show AK _ _ _ _ _ _; refine k_nil ?_; refine ⟨us.length - b, by omega, _, ⟨?_, ?_, ?_⟩, b, b2, L1, mergeI (ltU c) cur a m b, rfl, ⟨hL1, hb2, by omega, hL2.symm, by rw [hil]; exact hcl, hip.trans hpm, hL3⟩, rfl⟩ <;> simp [*]
     · intro h35_3
       have hb : us.length < b := by have := h35_3; simp at this; omega
       refine k_exit ?_; show AK _ _ _ _ _ _; refine sq ?_; refine srp 14000 [0,3,6,10,28,43,44,60,61,63] ?_; refine srp 15000 [0,3,6,10,28,43,44,60,61,63] ?_; refine cd ?_ ?_
       · intro h54_4
         have hmu : m < us.length := by have := h54_4; simp at this; omega
         obtain ⟨hfin, hl1, hl2⟩ := mrg_last ho hB0 hLl hau hLc.symm (by rw [hB2]; exact hLb) m hm.symm hmu (by omega)
         rw [hB2] at hfin; refine rc 16000 ?_; refine oc id (spec203 c ho 0 _ cur (by omega) hcp a m us.length (Nat.zero_le _) (by omega) hmu (by omega) rfl hl1 hl2) ?_
         refine onp [0,3,6,10,28,43,44,60,61,63] ?_; refine rg 17000 ?_; refine k_nil ?_; show AK _ _ _ _ _ _; refine k_nil ?_; refine ⟨us.length - B2, by omega, _, ⟨?_, ?_, ?_⟩, B2, rfl, ⟨by omega, by omega⟩, rfl⟩ <;> simp [*]
       · intro h54_4
         have hmu : us.length ≤ m := by have := h54_4; simp at this; omega
         have hfin := mrg_none ho hB0 hau hLc.symm (by rw [hB2]; exact hLb) (by omega)
         rw [hB2] at hfin; refine k_skip ?_; refine rg 17000 ?_; refine k_nil ?_; show AK _ _ _ _ _ _; refine k_nil ?_; refine ⟨us.length - B2, by omega, _, ⟨?_, ?_, ?_⟩, B2, rfl, ⟨by omega, by omega⟩, rfl⟩ <;> simp [*]
   · intro h30_2
     have hB : us.length ≤ B := by have := h30_2; simp at this; omega
     have hfin := blkA_short (lt := (ltU c)) hB0 hB; refine k_exit ?_; show AK _ _ _ _ _ _; refine k_nil ?_; show retQ _ _ _ _ _ _ _; simp [*]
theorem spec142 (c : Up → Up → Int) (ho : Ord (ltU c)) (us : List Up) (hus : us.length < Flat.lim) (hc : ∀ x ∈ us, ∀ y ∈ us, Flat.Sp Tryz.prog 18 [x.av, y.av] [] (vv (.int .i64 (c x y))) [])  : Flat.Sp Tryz.prog 124 [.sl 0 us.length 0 us.length, .fn (.func 18) []] [(.arr 0, .arr 37 6 ((us).map Up.row) 0)] (.tup []) [(.arr 0, .arr 37 6 ((isrt (ltU c) us).map Up.row) 0)] := by
 refine sk Tryz.func124 ?_; intro F G hn hG; refine rc 1000 ?_; refine oc id (spec186 c ho us hus hc) ?_; refine on ?_; refine k_nil ?_; show retQ _ _ _ _ _ _ _; simp [*]
end
end Go.Proofs
end
