/-
  Contracts: what is the same, and even.
  Plain laws of sums of two words.
  What is evened out: in line, of each thing one, with the sum of its numbers.
  Contracts: round a loop, once.
  What the law's first question comes to.
  Contracts: lists of updates that are the same.
  The laws of what is made of updates, without a program.
  What is made of updates is no longer than they are.
  Contracts: the first question.
  Contracts: the laws of chapter 11.
-/
import Derived.Test.YtgkkoeodinlffaaPartK
import Derived.Test.YtgkkoeodinlffaaFlatL
import Derived.Test.YtgkkoeodinlffaaPartF
import Derived.Test.YtgkkoeodinlffaaPartI
section
set_option linter.unusedVariables false
set_option linter.unusedSimpArgs false
namespace Go.Proofs
open Go.Flat
set_option maxRecDepth 100000
set_option linter.unusedSimpArgs false
set_option linter.unusedVariables false
attribute [local simp] Bool.and_assoc Bool.or_assoc evalG evalX efD skF guardG guardL isCall stepL evalOp ev evs lk tmpsL app AV.ok fresh vv putCells insV ins del putL place Go.Flat.look fillC fillR getCells loadF storeF binF scalarBin intBin strBin isShift shiftBin unF lenF maxF minF rowsF appendF builtinF idxF natOf sliceP sliceF optEv Flat.cut overwrite toPV toPVs constAV scalarC scalarCs AV.cells TI.isAgg allSome andAll scalarEq buildable Go.Flat.lim retQ resL resAll resOne PartOf noTmp closedIn refs refs.refsL isSomeV hasB ids leA leA.leL renA renA.renL callB refsAll backL dropIds renS LiesAt injB ownB freshB memN locId insAll leA_refl leL_refl okS frzS frzA frzA.frzL evalD feet fine updCells cellsFrom memP footRf footWf noTmpU updIds opOps opIds idsA footR footW guardTs opTs dstTs callR callW renLoc renC inBlockQ thenQ Value.oneCell' IntKind.bits IntKind.signed

def sameBy {α : Type} (f : α → α → Bool) : List α → List α → Bool
  | [], [] => true
  | x :: xs, y :: ys => f x y && sameBy f xs ys
  | _, _ => false
theorem sameBy_len {α : Type} {f : α → α → Bool} : ∀ {xs ys : List α}, xs.length ≠ ys.length → sameBy f xs ys = false
  | [], [], h => absurd rfl h
  | [], _ :: _, _ => rfl
  | _ :: _, [], _ => rfl
  | x :: xs, y :: ys, h => by rw [sameBy, sameBy_len (f := f) (xs := xs) (ys := ys) (by simpa using h), Bool.and_false]
theorem sameBy_iff {α : Type} {f : α → α → Bool} (h : ∀ x y, f x y = true ↔ x = y) : ∀ xs ys : List α, sameBy f xs ys = true ↔ xs = ys
  | [], [] => by simp [sameBy]
  | [], _ :: _ => by simp [sameBy]
  | _ :: _, [] => by simp [sameBy]
  | x :: xs, y :: ys => by rw [sameBy, Bool.and_eq_true, h, sameBy_iff h xs ys, List.cons.injEq]
theorem eqB_of {x y : Val} {b : Bool} (h : (!x.t == y.t || (!x.n == y.n || !x.s.toList == y.s.toList)) = b) : x.eqB y = !b := by
  rw [← h, Val.eqB]
  cases (x.t == y.t) <;> cases (x.n == y.n) <;> cases (x.s.toList == y.s.toList) <;> rfl
def sameV (a b : List Val) : Bool := sameBy Val.eqB a b
def diffU (x y : Up) : Bool := !sameV x.k y.k || (!sameV x.r y.r || (!((x.t.e == y.t.e) && ((x.t.a == y.t.a) && (x.t.b == y.t.b))) || x.d != y.d))
def sameU (x y : Up) : Bool := !diffU x y
def sameUs (a b : List Up) : Bool := sameBy sameU a b

attribute [local simp] Val.row Val.av Val.eqB in
set_option maxHeartbeats 8000000 in
theorem spec91 (xs ys : List Val) (hlx : xs.length ≤ Flat.lim) (hly : ys.length ≤ Flat.lim)  : Flat.Sp Try.prog 91 [.p (.ps (xs.map Val.row)), .p (.ps (ys.map Val.row))] [] (vv (.bool (sameBy Val.eqB xs ys))) [] := by
  refine sk Try.func91 ?_
  intro F G hn hG
  refine sq ?_
  refine rg 1000 ?_
  refine pr [0, 1, 4, 5, 6, 7, 8, 9, 10, 11, 12, 13, 14, 15, 16, 17, 18, 19, 20, 21, 22, 23, 24, 25] ?_
  refine sq ?_
  refine sq ?_
  refine rg 2000 ?_
  refine pr [0, 1, 4, 5, 10, 11, 12, 13, 14, 15, 16, 17, 18, 19, 20, 21, 22, 23, 24, 25] ?_
  refine cd ?_ ?_
  · intro h10_1
    have hne : xs.length ≠ ys.length := by have := h10_1; simp at this; omega
    have hfin := sameBy_len (f := Val.eqB) hne
    refine sq ?_
    refine rg 3000 ?_
    refine pr [0, 1, 4, 5, 11, 12, 13, 14, 15, 16, 17, 18, 19, 20, 21, 22, 23, 24, 25] ?_
    refine k_ret ?_
    show retQ _ _ _ _ _ _ _
    simp [*]
  · intro h10_1
    have hxy : ys.length = xs.length := by have := h10_1; simp at this; omega
    refine k_skip ?_
    refine sq ?_
    refine sq ?_
    refine rg 4000 ?_
    refine pr [0, 1, 4, 5, 12, 13, 14, 15, 16, 17, 18, 19, 20, 21, 22, 23, 24, 25] ?_
    refine k_block ?_
    refine k_loop (fun n l => ∃ i, i + n = xs.length ∧ (sameBy Val.eqB (xs.drop i) (ys.drop i) = sameBy Val.eqB xs ys) ∧ l = [(.tmp 0, .av (.p (.ps (xs.map Val.row)))), (.tmp 1, .av (.p (.ps (ys.map Val.row)))), (.tmp 12, .av (vv (.int .i64 xs.length))), (.tmp 13, .av (vv (.int .i64 i)))]) (xs.length) hG ⟨_, ⟨by simp, by simp, by simp⟩, 0, by simp, rfl, rfl⟩ ?_
    rintro n _ ⟨i, hin, hfa, rfl⟩
    have hcm := hfa
    refine sq ?_
    refine rg 5000 ?_
    refine pr [0, 1, 4, 5, 12, 13, 14, 15, 16, 17, 18, 19, 20, 21, 22, 23, 24, 25] ?_
    refine sq ?_
    refine cd ?_ ?_
    · intro h14_2
      have hlt : i < xs.length := by simpa using h14_2
      obtain ⟨x, hxe⟩ : ∃ x, xs[i] = x := ⟨_, rfl⟩
      have hx : xs[i]? = some x := by simp [hlt, hxe]
      have hw := wrap_succ (show i < Flat.lim by omega)
      have hlty : i < ys.length := by omega
      obtain ⟨y, hye⟩ : ∃ y, ys[i] = y := ⟨_, rfl⟩
      have hy : ys[i]? = some y := by simp [hlty, hye]
      rw [drop_at hx, drop_at hy] at hcm
      have hcm : (Val.eqB x y && sameBy Val.eqB (xs.drop (i + 1)) (ys.drop (i + 1))) = sameBy Val.eqB xs ys := hcm
      refine k_skip ?_
      refine sq ?_
      refine k_block ?_
      refine sq ?_
      refine rg 6000 ?_
      refine pr [0, 1, 4, 5, 12, 13, 14, 15, 16, 17, 18, 19, 20, 21, 22, 23, 24, 25] ?_
      refine sq ?_
      refine dr ?_
      refine de 7000 ?_
      refine dn ?_
      refine pr [0, 1, 4, 5, 12, 13, 14, 15, 16, 17, 18, 19, 20, 21, 22, 23, 24, 25] ?_
      refine cd ?_ ?_
      · intro h24_3
        have h2 : Val.eqB x y = false := eqB_of h24_3
        rw [h2] at hcm
        have hfin : sameBy Val.eqB xs ys = false := hcm.symm
        refine sq ?_
        refine rg 8000 ?_
        refine pr [0, 1, 4, 5, 12, 13, 14, 15, 16, 17, 18, 19, 20, 21, 22, 23, 24, 25] ?_
        refine k_ret ?_
        show retQ _ _ _ _ _ _ _
        simp [*]
      · intro h24_3
        have h2 : Val.eqB x y = true := eqB_of h24_3
        rw [h2] at hcm
        have hnext : sameBy Val.eqB (xs.drop (i + 1)) (ys.drop (i + 1)) = sameBy Val.eqB xs ys := hcm
        refine k_skip ?_
        refine k_nil ?_
        show AK _ _ _ _ _ _
        refine rg 9000 ?_
        refine k_nil ?_
        refine ⟨n - 1, by omega, _, ⟨?_, ?_, ?_⟩, i + 1, by omega, hnext, rfl⟩ <;> simp [*]
    · intro h14_2
      have hge : xs.length ≤ i := by simpa using h14_2
      obtain rfl : i = xs.length := by omega
      rw [List.drop_eq_nil_of_le (Nat.le_refl _), List.drop_eq_nil_of_le (by omega)] at hcm
      have hfin : sameBy Val.eqB xs ys = true := hcm.symm
      refine k_exit ?_
      show AK _ _ _ _ _ _
      refine sq ?_
      refine rg 10000 ?_
      refine pr [4] ?_
      refine k_ret ?_
      show retQ _ _ _ _ _ _ _
      simp [*]

attribute [local simp] Up.row Up.av in
theorem spec48 (us : List Up) (hus : us.length ≤ Flat.lim) (hsm : Up.sms us) (hd : ∀ u ∈ us, (u.d == 0) = false) (hp : us.Pairwise fun x y => ltC cmpU x y = true) (hchk : chkUs us = 0) : Flat.Sp Try.prog 48 [.p (.ps (us.map Up.row))] [] (vv (.bool true)) [] := by
  refine sk Try.func48 ?_
  intro F G hn hG
  refine sq ?_
  refine rg 1000 ?_
  refine pr [0, 2, 3, 4, 5, 6, 7, 8, 9, 10, 11, 12, 13, 14, 15, 16, 17, 18, 19, 20, 21, 22, 23, 24, 25, 26, 27, 28, 29, 30, 31, 32] ?_
  refine sq ?_
  refine sq ?_
  refine rg 2000 ?_
  refine pr [0, 2, 3, 4, 5, 6, 7, 8, 9, 10, 11, 12, 13, 14, 15, 16, 17, 18, 19, 20, 21, 22, 23, 24, 25, 26, 27, 28, 29, 30, 31, 32] ?_
  refine k_block ?_
  refine k_loop (fun n l => ∃ i, i + n = us.length ∧ (True) ∧ l = [(.tmp 0, .av (.p (.ps (us.map Up.row)))), (.tmp 5, .av (.p (.ps (us.map Up.row)))), (.tmp 6, .av (vv (.int .i64 us.length))), (.tmp 7, .av (vv (.int .i64 i)))]) (us.length) hG ⟨_, ⟨by simp, by simp, by simp⟩, 0, by simp, trivial, rfl⟩ ?_
  rintro n _ ⟨i, hin, hfa, rfl⟩
  refine sq ?_
  refine rg 3000 ?_
  refine pr [0, 2, 3, 4, 5, 6, 7, 8, 9, 10, 11, 12, 13, 14, 15, 16, 17, 18, 19, 20, 21, 22, 23, 24, 25, 26, 27, 28, 29, 30, 31, 32] ?_
  refine sq ?_
  refine cd ?_ ?_
  · intro h8_1
    have hlt : i < us.length := by simpa using h8_1
    obtain ⟨x, hxe⟩ : ∃ x, us[i] = x := ⟨_, rfl⟩
    have hx : us[i]? = some x := by simp [hlt, hxe]
    have hw := wrap_succ (show i < Flat.lim by omega)
    have hxs := hsm x (List.mem_of_getElem? hx)
    have hxd := hd x (List.mem_of_getElem? hx)
    refine k_skip ?_
    refine sq ?_
    refine k_block ?_
    refine sq ?_
    refine rg 4000 ?_
    refine pr [0, 2, 3, 4, 5, 6, 7, 8, 9, 10, 11, 12, 13, 14, 15, 16, 17, 18, 19, 20, 21, 22, 23, 24, 25, 26, 27, 28, 29, 30, 31, 32] ?_
    refine sq ?_
    refine cv [(.tmp 28, vv (.bool false))] ?_ ?_
    · skip
      rcases h0 : (decide (0 < i) : Bool) with _ | _
      · skip
        refine dr ?_
        refine de 5000 ?_
        iterate 9 (first | refine dp 5850 ?_ | refine ds ?_ | refine dt 5850 ?_)
        refine ds ?_
        iterate 2 (first | refine dp 6150 ?_ | refine ds ?_ | refine dt 6150 ?_)
        refine de 6200 ?_
        refine dn ?_
        refine k_nil ?_
        refine ⟨rfl, ?_, ?_, ?_⟩ <;> simp [*]
      · skip
        have hi0 : 0 < i := by simpa using h0
        obtain ⟨j, hj⟩ : ∃ j, j + 1 = i := ⟨i - 1, by omega⟩
        have hwj := wsub hj (by omega)
        simp only [Int.natCast_one] at hwj
        have hjl : j < us.length := by omega
        obtain ⟨y, hy⟩ : ∃ y, us[j]? = some y := ⟨_, List.getElem?_eq_getElem hjl⟩
        have hy2 : ∀ h : j < us.length, us[j]'h = y := fun h => (List.getElem?_eq_some_iff.1 hy).2
        have hys := hsm y (List.mem_of_getElem? hy)
        have hlt2 := List.pairwise_iff_getElem.1 hp j i hjl hlt (by omega)
        rw [hxe, hy2] at hlt2
        have hcn : ¬ (0 : Int) ≤ cmpU y x := by simp only [ltC, decide_eq_true_eq] at hlt2; omega
        refine dr ?_
        refine de 1005000 ?_
        iterate 9 (first | refine dp 1005850 ?_ | refine ds ?_ | refine dt 1005850 ?_)
        refine dc id (spec87s hys hxs) ?_
        iterate 2 (first | refine dp 1006150 ?_ | refine ds ?_ | refine dt 1006150 ?_)
        refine de 1006200 ?_
        refine dn ?_
        refine k_nil ?_
        refine ⟨rfl, ?_, ?_, ?_⟩ <;> simp [*]
    refine pr [0, 2, 3, 4, 5, 6, 7, 8, 9, 10, 11, 12, 13, 14, 15, 16, 17, 18, 19, 20, 21, 22, 23, 24, 25, 26, 27, 28, 29, 30, 31, 32] ?_
    refine ce ?_
    refine k_skip ?_
    refine k_nil ?_
    show AK _ _ _ _ _ _
    refine rg 7000 ?_
    refine k_nil ?_
    refine ⟨n - 1, by omega, _, ⟨?_, ?_, ?_⟩, i + 1, by omega, trivial, rfl⟩ <;> simp [*]
  · intro h8_1
    have hge : us.length ≤ i := by simpa using h8_1
    refine k_exit ?_
    show AK _ _ _ _ _ _
    refine sq ?_
    refine rc 8000 ?_
    refine oc id (spec80 us hus hsm) ?_
    refine oe 8100 ?_
    refine on ?_
    refine pr [2] ?_
    refine k_ret ?_
    show retQ _ _ _ _ _ _ _
    simp [*]

attribute [local simp] Val.row in
theorem spec78 (n : Int) : Flat.Sp Try.prog 78 [vv (.int .i64 n)] [] (.p (.ps [(⟨false, n, ⟨#[]⟩⟩ : Val).row])) [] := by
  refine sk Try.func78 ?_
  intro F G hn hG
  refine sq ?_
  refine rg 1000 ?_
  refine pr [0, 2, 3, 4, 5] ?_
  refine sq ?_
  refine rg 2000 ?_
  refine pr [2] ?_
  refine k_ret ?_
  show retQ _ _ _ _ _ _ _
  simp [*]

end Go.Proofs
end
section
set_option linter.unusedVariables false
set_option linter.unusedSimpArgs false
namespace Go.Proofs
open Go.Flat
set_option linter.unusedSimpArgs false
set_option linter.unusedVariables false
def i64 (n : Int) : Prop := -9223372036854775808 ≤ n ∧ n < 9223372036854775808
theorem fdiv63 (n : Int) : n.fdiv 9223372036854775808 = n / 9223372036854775808 := Int.fdiv_eq_ediv_of_nonneg _ (by omega)
/-- What two words are, up to what does not fit into them. -/
def V (p : Int × Int) : Int := p.1 * 18446744073709551616 + p.2
theorem tadd_V {p : Int × Int} (hp : tin p) {n : Int} (hn : i64 n) : ∃ k : Int, V (tadd p n) = V p + n + k * 340282366920938463463374607431768211456 := by
  unfold tin at hp
  unfold i64 at hn
  unfold V tadd
  simp only [fdiv63, wrapU]
  by_cases h0 : 0 ≤ n
  · have e : n / 9223372036854775808 = 0 := by omega
    rw [e]
    exact ⟨-((p.1 + 0 % 18446744073709551616 + (p.2 + n % 18446744073709551616) / 18446744073709551616) / 18446744073709551616), by omega⟩
  · have e : n / 9223372036854775808 = -1 := by omega
    rw [e]
    exact ⟨1 - ((p.1 + -1 % 18446744073709551616 + (p.2 + n % 18446744073709551616) / 18446744073709551616) / 18446744073709551616), by omega⟩
theorem tsum_V {xs : List Int} (h : ∀ x ∈ xs, i64 x) : ∀ p, tin p → ∃ k : Int, V (xs.foldl tadd p) = V p + xs.sum + k * 340282366920938463463374607431768211456 := by
  induction xs with
  | nil => intro p hp; exact ⟨0, by simp⟩
  | cons x r ih =>
    intro p hp
    obtain ⟨k, hk⟩ := tadd_V hp (h x (by simp))
    obtain ⟨k', hk'⟩ := ih (fun y hy => h y (by simp [hy])) (tadd p x) (tadd_in hp x)
    refine ⟨k + k', ?_⟩
    rw [List.foldl_cons, hk', hk, List.sum_cons]
    omega
theorem sum_bound {xs : List Int} (h : ∀ x ∈ xs, i64 x) : -(xs.length * 9223372036854775808 : Int) ≤ xs.sum ∧ xs.sum ≤ xs.length * 9223372036854775808 := by
  induction xs with
  | nil => simp
  | cons x r ih =>
    have h1 := h x (by simp)
    have h2 := ih fun y hy => h y (by simp [hy])
    unfold i64 at h1
    rw [List.sum_cons, List.length_cons]
    omega
theorem tfit_V {p : Int × Int} (hp : tin p) {s k : Int} (h : V p = s + k * 340282366920938463463374607431768211456) (hs1 : -85070591730234615865843651857942052864 ≤ s) (hs2 : s ≤ 85070591730234615865843651857942052864) :
    tfit p = if -9223372036854775808 ≤ s ∧ s < 9223372036854775808 then (s, 0) else (0, 10) := by
  unfold tin at hp
  unfold V at h
  unfold tfit tfits
  rw [fdiv63, wrapU, w64]
  by_cases hc : -9223372036854775808 ≤ s ∧ s < 9223372036854775808
  · rw [if_pos hc]
    have e1 : (p.2 + 9223372036854775808) % 18446744073709551616 - 9223372036854775808 = s := by omega
    rw [e1, if_pos]
    simp only [beq_iff_eq]
    omega
  · rw [if_neg hc, if_neg]
    simp only [beq_iff_eq]
    generalize hx : (p.2 + 9223372036854775808) % 18446744073709551616 - 9223372036854775808 = x
    have : x / 9223372036854775808 = 0 ∨ x / 9223372036854775808 = -1 := by omega
    rcases this with e | e <;> rw [e] <;> omega
theorem tfit_sum {xs : List Int} (h : ∀ x ∈ xs, i64 x) (hl : xs.length ≤ 1073741824) : tfit (tsum xs) = if -9223372036854775808 ≤ xs.sum ∧ xs.sum < 9223372036854775808 then (xs.sum, 0) else (0, 10) := by
  obtain ⟨k, hk⟩ := tsum_V h (0, 0) (by simp [tin])
  have hb := sum_bound h
  have : (xs.length : Int) ≤ 1073741824 := by omega
  refine tfit_V (tsum_in xs) (k := k) (by simpa [V, tsum] using hk) ?_ ?_
  · have : (xs.length : Int) * 9223372036854775808 ≤ 1073741824 * 9223372036854775808 := by omega
    omega
  · omega
theorem bxor_neg (b : Int) (hb : i64 b) : IntKind.i64.wrap (bxorN .i64 (-1) b) = -1 - b := by
  unfold i64 at hb
  have h : (bxorN .i64 (-1) b) = (-1 - b) % 18446744073709551616 := by
    unfold bxorN
    show (((BitVec.ofInt 64 (-1) ^^^ BitVec.ofInt 64 b).toNat : Nat) : Int) = _
    have h1 : BitVec.ofInt 64 (-1) = BitVec.allOnes 64 := by decide
    rw [h1, BitVec.allOnes_xor, BitVec.toNat_not, BitVec.toNat_ofInt]
    omega
  rw [h, w64]
  omega
/-- A number less another one. -/
theorem lessR_eq {a b : Int} (ha : i64 a) (hb : i64 b) : lessR a b = if -9223372036854775808 ≤ a - b ∧ a - b < 9223372036854775808 then (a - b, 0) else (0, 10) := by
  unfold lessR
  rw [bxor_neg b hb, tfit_sum (by unfold i64 at *; simp; omega) (by simp)]
  have : [a, -1 - b, 1].sum = a - b := by simp; omega
  rw [this]
theorem sum2_eq {a b : Int} (ha : i64 a) (hb : i64 b) : tfit (tsum [a, b]) = if -9223372036854775808 ≤ a + b ∧ a + b < 9223372036854775808 then (a + b, 0) else (0, 10) := by
  rw [tfit_sum (by unfold i64 at *; simp; omega) (by simp)]
  simp
end Go.Proofs
end
section
set_option linter.unusedVariables false
set_option linter.unusedSimpArgs false
namespace Go.Proofs
open Go.Flat
set_option linter.unusedSimpArgs false
set_option linter.unusedVariables false
section
variable {α : Type} {c : α → α → Int} {nm : α → Int} {put : α → Int → α}
/-- The numbers of all of which something holds. -/
def sumP (P : α → Bool) (nm : α → Int) (l : List α) : Int := ((l.filter P).map nm).sum
theorem sumP_nil (P : α → Bool) (nm : α → Int) : sumP P nm [] = 0 := rfl
theorem sumP_cons (P : α → Bool) (nm : α → Int) (x : α) (l : List α) : sumP P nm (x :: l) = (if P x then nm x else 0) + sumP P nm l := by
  unfold sumP
  cases h : P x <;> simp [h]
theorem sumP_app (P : α → Bool) (nm : α → Int) (l l' : List α) : sumP P nm (l ++ l') = sumP P nm l + sumP P nm l' := by simp [sumP]
theorem sumP_perm {P : α → Bool} {nm : α → Int} {l l' : List α} (h : l.Perm l') : sumP P nm l = sumP P nm l' := perm_sum ((h.filter _).map _)
def sumG (P : α → Bool) (gs : List (α × List Int)) : Int := ((gs.filter fun g => P g.1).map fun g => g.2.sum).sum
theorem sumG_app (P : α → Bool) (l l' : List (α × List Int)) : sumG P (l ++ l') = sumG P l + sumG P l' := by simp [sumG]
theorem sumG_one (P : α → Bool) (g : α × List Int) : sumG P [g] = if P g.1 then g.2.sum else 0 := by
  unfold sumG
  cases h : P g.1 <;> simp [h]
theorem sumG_grp {P : α → Bool} (hP : ∀ x y, c x y = 0 → P x = P y) (nm : α → Int) (l : List α) : sumG P (grp c nm l) = sumP P nm l := by
  suffices h : ∀ n (l : List α), l.length = n → sumG P (grp c nm l) = sumP P nm l from h _ l rfl
  intro n
  induction n with
  | zero => intro l hl; obtain rfl := List.length_eq_zero_iff.1 hl; rfl
  | succ n ih =>
    intro l hl
    obtain ⟨p, x, rfl⟩ : ∃ p x, l = p ++ [x] := ⟨l.dropLast, l.getLast (by intro e; simp [e] at hl), (List.dropLast_concat_getLast _).symm⟩
    have I := ih p (by simpa using hl)
    rw [grp_snoc, sumP_app, ← I]
    have hx : sumP P nm [x] = if P x then nm x else 0 := by rw [sumP_cons, sumP_nil]; omega
    rw [hx]
    rcases List.eq_nil_or_concat (grp c nm p) with e | ⟨g, r, e⟩
    · rw [e, gstep_nil, sumG_one]; simp [sumG]
    · rw [List.concat_eq_append] at e
      rw [e, gstep_snoc]
      split
      · rename_i hc
        have := hP _ _ hc
        rw [sumG_app, sumG_app, sumG_one, sumG_one]
        simp only [this, List.sum_append, List.sum_cons, List.sum_nil]
        split <;> omega
      · rw [show g ++ [r, (x, [nm x])] = (g ++ [r]) ++ [(x, [nm x])] by simp, sumG_app, sumG_one]
        simp
theorem sum_out {P : α → Bool} {gs : List (α × List Int)} (hp : ∀ x n, P (put x n) = P x) (hn : ∀ x n, nm (put x n) = n) (hf : ∀ g ∈ gs, gfit g = (g.2.sum, 0)) : sumP P nm (gout put gs) = sumG P gs := by
  induction gs with
  | nil => rfl
  | cons g gs ih =>
    have I := ih fun x hx => hf x (by simp [hx])
    have h1 := hf g (by simp)
    have e1 : sumG P (g :: gs) = (if P g.1 then g.2.sum else 0) + sumG P gs := by rw [← sumG_one P g, ← sumG_app]; rfl
    have e2 : gout put (g :: gs) = (if g.2.sum != 0 then [put g.1 g.2.sum] else []) ++ gout put gs := by
      unfold gout
      rw [List.filterMap_cons, h1]
      cases h : (g.2.sum != 0) <;> simp only [h, Bool.false_eq_true, if_true, if_false, List.nil_append, List.singleton_append, List.cons_append]
    rw [e1, e2, sumP_app, I]
    congr 1
    cases h : (g.2.sum != 0) with
    | false => simp at h; simp [sumP, h]
    | true =>
      simp only [if_true]
      rw [sumP_cons, sumP_nil, hp, hn]
      omega
theorem mem_gout {gs : List (α × List Int)} (hf : ∀ g ∈ gs, gfit g = (g.2.sum, 0)) {u : α} : u ∈ gout put gs ↔ ∃ g ∈ gs, g.2.sum ≠ 0 ∧ u = put g.1 g.2.sum := by
  unfold gout
  rw [List.mem_filterMap]
  constructor
  · rintro ⟨g, hg, h⟩
    rw [hf g hg] at h
    refine ⟨g, hg, ?_⟩
    split at h
    · rename_i hn
      simp only [Option.some.injEq] at h
      exact ⟨by simpa using hn, h.symm⟩
    · simp at h
  · rintro ⟨g, hg, h1, h2⟩
    refine ⟨g, hg, ?_⟩
    rw [hf g hg, if_pos (by simpa using h1), h2]
theorem gout_strict {gs : List (α × List Int)} (h : gs.Pairwise fun r s => ltC c r.1 s.1 = true) (h1 : ∀ x n y, c (put x n) y = c x y) (h2 : ∀ x n y, c y (put x n) = c y x) : (gout put gs).Pairwise fun x y => ltC c x y = true := by
  unfold gout
  rw [List.pairwise_filterMap]
  refine h.imp ?_
  intro r s hrs x hx y hy
  split at hx <;> simp at hx
  split at hy <;> simp at hy
  subst hx; subst hy
  simp only [ltC, h1, h2] at hrs ⊢
  exact hrs
end
/-- Numbers that fit. -/
theorem fit_sum {ns : List Int} (h : ∀ n ∈ ns, i64 n) (hl : ns.length ≤ 4294967296) : tfit (tsum ns) = if -9223372036854775808 ≤ ns.sum ∧ ns.sum < 9223372036854775808 then (ns.sum, 0) else (0, 10) := by
  obtain ⟨k, hk⟩ := tsum_V h (0, 0) (by simp [tin])
  have hV : V ((0, 0) : Int × Int) = 0 := rfl
  rw [hV] at hk
  obtain ⟨b1, b2⟩ := sum_bound h
  exact tfit_V (tsum_in ns) (s := ns.sum) (k := k) (by rw [tsum]; omega) (by omega) (by omega)
theorem orI_zero : ∀ {l : List Int}, orI l = 0 ↔ ∀ x ∈ l, x = 0
  | [] => by simp [orI]
  | x :: l => by
    rw [orI]
    have ih := orI_zero (l := l)
    by_cases h : x = 0
    · subst h; simp [ih]
    · have : (x != 0) = true := by simpa using h
      rw [this, if_pos rfl]
      simp [h]
def rts (us : List Up) : Prop := ∀ u ∈ us, chkU u = 0
def gds (us : List Up) : Prop := ∀ u ∈ us, i64 u.d
theorem chkUs_iff {us : List Up} : chkUs us = 0 ↔ rts us := by
  rw [chkUs, orI_zero]
  simp [rts]
theorem chk_cat {ls : List (List Up)} : orI (ls.map chkUs) = 0 ↔ rts (cat ls) := by
  rw [orI_zero]
  constructor
  · intro h u hu
    obtain ⟨l, h1, h2⟩ := mem_cat.1 hu
    exact chkUs_iff.1 (h _ (List.mem_map.2 ⟨l, h1, rfl⟩)) u h2
  · intro h x hx
    obtain ⟨l, h1, rfl⟩ := List.mem_map.1 hx
    exact chkUs_iff.2 fun u hu => h u (mem_cat.2 ⟨l, h1, hu⟩)
theorem row_right {r : List Val} (h : checkRow r = 0) : ∀ v ∈ r, v.right = true := by
  unfold checkRow at h
  split at h
  · simp at h
  · rename_i hb
    intro v hv
    have hall : firstBad r 0 < 0 := by
      simp only [badRow, Bool.or_eq_true, decide_eq_true_eq, not_or] at hb
      omega
    have : ∀ (l : List Val) (i : Nat), firstBad l i < 0 → ∀ v ∈ l, v.right = true := by
      intro l
      induction l with
      | nil => intro i _ v hv; simp at hv
      | cons x l ih =>
        intro i hi v hv
        unfold firstBad at hi
        split at hi
        · first
          | omega
          | (rename_i hx
             rcases List.mem_cons.1 hv with rfl | hv
             · simpa using hx
             · exact ih (i + 1) hi v hv)
        · first
          | omega
          | (rename_i hx
             rcases List.mem_cons.1 hv with rfl | hv
             · simpa using hx
             · exact ih (i + 1) hi v hv)
    exact this r 0 hall v hv
theorem chkU_parts {u : Up} (h : chkU u = 0) : checkRow u.k = 0 ∧ checkRow u.r = 0 ∧ chkT u.t = 0 := by
  rw [chkU, orI_zero] at h
  exact ⟨h _ (by simp), h _ (by simp), h _ (by simp)⟩
/-- Of right updates those that stand alike have the same key, row and time. -/
theorem cmpU_eq {x y : Up} (hx : chkU x = 0) (hy : chkU y = 0) : cmpU x y = 0 ↔ x.k = y.k ∧ x.r = y.r ∧ x.t = y.t := by
  obtain ⟨a1, a2, _⟩ := chkU_parts hx
  obtain ⟨b1, b2, _⟩ := chkU_parts hy
  have e1 := cmpBy_eq (p := fun v : Val => v.right = true) (fun a b ha hb => Val.cmp_eq a b ha hb) x.k y.k (row_right a1) (row_right b1)
  have e2 := cmpBy_eq (p := fun v : Val => v.right = true) (fun a b ha hb => Val.cmp_eq a b ha hb) x.r y.r (row_right a2) (row_right b2)
  have e3 := cmpT_eq x.t y.t
  rw [cmpU, orI_zero]
  simp only [List.mem_cons, List.not_mem_nil, or_false, forall_eq_or_imp, forall_eq, rowsC]
  rw [e1, e2, e3]
theorem put_cmp1 (x : Up) (n : Int) (y : Up) : cmpU (x.put n) y = cmpU x y := rfl
theorem put_cmp2 (x : Up) (n : Int) (y : Up) : cmpU y (x.put n) = cmpU y x := rfl
/-- All numbers of what stands as r does. -/
def T (us : List Up) (r : Up) : Int := sumP (fun x => decide (cmpU r x = 0)) Up.d us
theorem T_tot (us : List Up) (r : Up) : T us r = (alike cmpU Up.d us r).sum := rfl
theorem T_app (a b : List Up) (r : Up) : T (a ++ b) r = T a r + T b r := sumP_app _ _ _ _
theorem T_congr {us : List Up} {r s : Up} (h : cmpU r s = 0) : T us r = T us s := tot_congr cmpU_ok.cmp Up.d us h
theorem inv_P (r : Up) : ∀ x y, cmpU x y = 0 → decide (cmpU r x = 0) = decide (cmpU r y = 0) := by
  intro x y h
  have : cmpU r x = 0 ↔ cmpU r y = 0 := ⟨fun q => cmpU_ok.cmp.trans q h, fun q => cmpU_ok.cmp.trans q (cmpU_ok.cmp.symm h)⟩
  simp [this]
/-- Lists that evening out leaves. -/
structure Even (us : List Up) : Prop where
  rt : rts us
  gd : gds us
  st : us.Pairwise fun x y => ltC cmpU x y = true
  nz : ∀ u ∈ us, u.d ≠ 0
theorem T_mem {us : List Up} (hE : Even us) {u : Up} (hu : u ∈ us) : T us u = u.d := by
  have : ∀ l : List Up, l.Pairwise (fun x y => ltC cmpU x y = true) → u ∈ l → T l u = u.d := by
    intro l
    induction l with
    | nil => intro _ h; simp at h
    | cons x l ih =>
      intro hp hm
      obtain ⟨h1, h2⟩ := List.pairwise_cons.1 hp
      unfold T
      rw [sumP_cons]
      rcases List.mem_cons.1 hm with rfl | hm
      · have h0 : sumP (fun y => decide (cmpU u y = 0)) Up.d l = 0 := by
          have : l.filter (fun y => decide (cmpU u y = 0)) = [] := by
            rw [List.filter_eq_nil_iff]
            intro y hy
            simpa using cmpU_ok.cmp.ne_of_lt (h1 y hy)
          rw [sumP, this]; rfl
        rw [h0, cmpU_ok.cmp.refl]
        simp
      · have hne := cmpU_ok.cmp.ne_of_gt (h1 u hm)
        have := ih h2 hm
        unfold T at this
        rw [this]
        simp [hne]
  exact this us hE.st hu
theorem T_none {us : List Up} {r : Up} (h : ∀ u ∈ us, cmpU r u ≠ 0) : T us r = 0 := by
  have : us.filter (fun y => decide (cmpU r y = 0)) = [] := by
    rw [List.filter_eq_nil_iff]
    intro y hy
    simpa using h y hy
  rw [T, sumP, this]; rfl
theorem T_some {us : List Up} {r : Up} (h : T us r ≠ 0) : ∃ u ∈ us, cmpU r u = 0 := by
  refine Classical.byContradiction fun hn => h (T_none fun u hu e => hn ⟨u, hu, e⟩)
/-- Two such lists with the same sums are one. -/
theorem Even.ext {a b : List Up} (ha : Even a) (hb : Even b) (h : ∀ r, T a r = T b r) : a = b := by
  have key : ∀ {a b : List Up}, Even a → Even b → (∀ r, T a r = T b r) → ∀ u ∈ a, u ∈ b := by
    intro a b ha hb h u hu
    have h1 := T_mem ha hu
    rw [h u] at h1
    obtain ⟨v, hv, hc⟩ := T_some (us := b) (r := u) (by rw [h1]; exact ha.nz u hu)
    obtain ⟨e1, e2, e3⟩ := (cmpU_eq (ha.rt u hu) (hb.rt v hv)).1 hc
    have h2 := T_mem hb hv
    rw [← T_congr hc, h1] at h2
    have : u = v := by cases u; cases v; simp only [Up.mk.injEq]; exact ⟨e1, e2, e3, h2⟩
    rw [this]; exact hv
  exact strict_ext cmpU_ok.cmp a b ha.st hb.st fun u => ⟨key ha hb h u, key hb ha (fun r => (h r).symm) u⟩
/-- What is evened out. -/
theorem cons_ok {ls : List (List Up)} (hg : gds (cat ls)) (hl : (cat ls).length ≤ 4294967296) : ((consR ls).2 = 0 ↔ rts (cat ls) ∧ ∀ u ∈ cat ls, i64 (T (cat ls) u)) ∧ ((consR ls).2 = 0 → Even (consR ls).1 ∧ (∀ r, T (consR ls).1 r = T (cat ls) r) ∧ ∀ P : Up → Bool, (∀ x y, cmpU x y = 0 → P x = P y) → sumP P Up.d (consR ls).1 = sumP P Up.d (cat ls)) ∧ (∀ u ∈ (consR ls).1, ∃ v ∈ cat ls, u.k = v.k ∧ u.r = v.r ∧ u.t = v.t) := by
  have hperm : (isrt (ltU cmpU) (cat ls)).Perm (cat ls) := isrt_perm _
  have hG : Grp cmpU Up.d (isrt (ltU cmpU) (cat ls)) (piles ls) := grp_ok cmpU_ok.cmp Up.d _ (isrt_line ordU _)
  have hpile : ∀ g ∈ piles ls, g.2.sum = T (cat ls) g.1 := by
    intro g hg'
    rw [hG.pile g hg']
    exact sumP_perm hperm
  have hns : ∀ g ∈ piles ls, (∀ n ∈ g.2, i64 n) ∧ g.2.length ≤ 4294967296 := by
    intro g hg'
    rw [hG.pile g hg']
    refine ⟨fun n hn => ?_, ?_⟩
    · obtain ⟨x, hx, rfl⟩ := List.mem_map.1 hn
      exact hg x (hperm.mem_iff.1 (List.mem_filter.1 hx).1)
    · rw [alike, List.length_map]
      have := List.length_filter_le (fun x => decide (cmpU g.1 x = 0)) (isrt (ltU cmpU) (cat ls))
      rw [isrt_length] at this
      omega
  have hfit : ∀ g ∈ piles ls, gfit g = if -9223372036854775808 ≤ T (cat ls) g.1 ∧ T (cat ls) g.1 < 9223372036854775808 then (T (cat ls) g.1, 0) else (0, 10) := by
    intro g hg'
    rw [gfit, fit_sum (hns g hg').1 (hns g hg').2, hpile g hg']
  have hmemP : ∀ g ∈ piles ls, g.1 ∈ cat ls := piles_mem
  have hall : ∀ x ∈ cat ls, ∃ g ∈ piles ls, cmpU g.1 x = 0 := fun x hx => hG.all x (hperm.mem_iff.2 hx)
  have herr : gerr (piles ls) = 0 ↔ ∀ u ∈ cat ls, i64 (T (cat ls) u) := by
    rw [gerr, orI_zero]
    constructor
    · intro h u hu
      obtain ⟨g, h1, h2⟩ := hall u hu
      have h3 := h _ (List.mem_map.2 ⟨g, h1, rfl⟩)
      rw [hfit g h1] at h3
      rw [← T_congr h2]
      split at h3
      · rename_i q; exact q
      · simp at h3
    · intro h x hx
      obtain ⟨g, h1, rfl⟩ := List.mem_map.1 hx
      have := h _ (hmemP g h1)
      unfold i64 at this
      rw [hfit g h1, if_pos this]
  refine ⟨?_, ?_, ?_⟩
  · unfold consR
    by_cases hc : orI (ls.map chkUs) = 0
    · have : (orI (ls.map chkUs) != 0) = false := by simpa using hc
      rw [this]
      simp only [Bool.false_eq_true, if_false]
      rw [herr]
      exact ⟨fun h => ⟨chk_cat.1 hc, h⟩, fun h => h.2⟩
    · have : (orI (ls.map chkUs) != 0) = true := by simpa using hc
      rw [this, if_pos rfl]
      exact ⟨fun h => absurd h hc, fun h => absurd (chk_cat.2 h.1) hc⟩
  · intro h0
    unfold consR at h0 ⊢
    by_cases hc : orI (ls.map chkUs) = 0
    · have hc2 : (orI (ls.map chkUs) != 0) = false := by simpa using hc
      rw [hc2] at h0 ⊢
      simp only [Bool.false_eq_true, if_false] at h0 ⊢
      have h1 : (gerr (piles ls) != 0) = false := by simpa using h0
      rw [h1]
      simp only [Bool.false_eq_true, if_false]
      have hrt := chk_cat.1 hc
      have hT := herr.1 h0
      have hf2 : ∀ g ∈ piles ls, gfit g = (g.2.sum, 0) := by
        intro g hg'
        have := hT _ (hmemP g hg')
        unfold i64 at this
        rw [hfit g hg', if_pos this, hpile g hg']
      have hsum : ∀ P : Up → Bool, (∀ x y, cmpU x y = 0 → P x = P y) → sumP P Up.d (gout Up.put (piles ls)) = sumP P Up.d (cat ls) := by
        intro P hP
        rw [sum_out (nm := Up.d) (put := Up.put) (fun x n => hP _ _ (by rw [put_cmp1]; exact cmpU_ok.cmp.refl x)) (fun _ _ => rfl) hf2, piles, sumG_grp hP, sumP_perm hperm]
      refine ⟨⟨?_, ?_, gout_strict hG.inc put_cmp1 put_cmp2, ?_⟩, fun r => hsum _ (inv_P r), hsum⟩
      · intro u hu
        obtain ⟨g, h2, _, rfl⟩ := (mem_gout hf2).1 hu
        exact hrt g.1 (hmemP g h2)
      · intro u hu
        obtain ⟨g, h2, _, rfl⟩ := (mem_gout hf2).1 hu
        show i64 g.2.sum
        rw [hpile g h2]
        exact hT _ (hmemP g h2)
      · intro u hu
        obtain ⟨g, h2, h3, rfl⟩ := (mem_gout hf2).1 hu
        exact h3
    · have : (orI (ls.map chkUs) != 0) = true := by simpa using hc
      rw [this, if_pos rfl] at h0
      exact absurd h0 hc
  · intro u hu
    unfold consR at hu
    split at hu
    · simp at hu
    · simp only at hu
      split at hu
      · simp at hu
      · simp only [gout, List.mem_filterMap] at hu
        obtain ⟨g, h1, h2⟩ := hu
        split at h2
        · simp only [Option.some.injEq] at h2
          subst h2
          exact ⟨g.1, hmemP g h1, rfl, rfl, rfl⟩
        · simp at h2
end Go.Proofs
end
section
set_option linter.unusedVariables false
set_option linter.unusedSimpArgs false
namespace Go.Proofs
open Go.Flat
set_option maxRecDepth 100000
set_option linter.unusedSimpArgs false
set_option linter.unusedVariables false
attribute [local simp] Bool.and_assoc Bool.or_assoc evalG evalX efD skF guardG guardL isCall stepL evalOp ev evs lk tmpsL app AV.ok fresh vv putCells insV ins del putL place Go.Flat.look fillC fillR getCells loadF storeF binF scalarBin intBin strBin isShift shiftBin unF lenF maxF minF rowsF appendF builtinF idxF natOf sliceP sliceF optEv Flat.cut overwrite toPV toPVs constAV scalarC scalarCs AV.cells TI.isAgg allSome andAll scalarEq buildable Go.Flat.lim retQ resL resAll resOne PartOf noTmp closedIn refs refs.refsL isSomeV hasB ids leA leA.leL renA renA.renL callB refsAll backL dropIds renS LiesAt injB ownB freshB memN locId insAll leA_refl leL_refl okS frzS frzA frzA.frzL evalD feet fine updCells cellsFrom memP footRf footWf noTmpU updIds opOps opIds idsA footR footW guardTs opTs dstTs callR callW renLoc renC inBlockQ thenQ Value.oneCell' IntKind.bits IntKind.signed

def lvV : Val := ⟨false, 1, ⟨#[]⟩⟩
def lv0 : Up := ⟨[], [lvV], ⟨0, 0, 0⟩, 2⟩
def lv1 : Up := ⟨[], [lvV], ⟨0, 1, 0⟩, -2⟩
def lv2 : Up := ⟨[], [lvV], ⟨0, 1, 0⟩, 2⟩
@[simp] theorem wrapU_1 : IntKind.u64.wrap 1 = 1 := rfl
@[simp] theorem wrapU_01 : IntKind.u64.wrap (0 + 1) = 1 := rfl
@[simp] theorem wrap_01 : IntKind.i64.wrap (0 + 1) = 1 := rfl
@[simp] theorem wrap_11 : IntKind.i64.wrap (1 + 1) = 2 := rfl

theorem lvs : Up.sms [lv0, lv1] := by
  intro u hu
  simp at hu
  rcases hu with rfl | rfl <;> simp [Up.sm, lv0, lv1, Bnd]

attribute [local simp] Up.av Up.row in
theorem spec137 (u : Up) : Flat.Sp Try.prog 137 [u.av, .ptr 0 0, .ptr 1 0] [(.var 0, .n 1), (.cell 0 0, .av (vv (.int .i64 0))), (.var 1, .n 1), (.cell 1 0, .av (vv (.int .i64 1)))] (vv (.bool (decide (1 ≤ u.t.a)))) [(.var 0, .n 1), (.cell 0 0, .av (vv (.int .i64 0))), (.var 1, .n 1), (.cell 1 0, .av (vv (.int .i64 1)))] := by
  refine sk Try.func137 ?_
  intro F G hn hG
  refine sq ?_
  refine rg 1000 ?_
  refine pr [1, 2, 3, 4, 5, 6, 7, 8, 9, 10, 11, 12] ?_
  refine sq ?_
  refine dr ?_
  refine de 2000 ?_
  refine dn ?_
  refine pr [4] ?_
  refine k_ret ?_
  show retQ _ _ _ _ _ _ _
  simp [*]

attribute [local simp] Up.av Up.row lv0 lv1 lvV Val.row in
theorem spec181  : Flat.Sp Try.prog 181 [.sl 0 2 0 2, .fn (.func 137) [.ptr 1 0, .ptr 2 0]] [(.arr 0, .arr 92 6 [lv0.row, lv1.row] 0), (.var 1, .n 1), (.cell 1 0, .av (vv (.int .i64 0))), (.var 2, .n 1), (.cell 2 0, .av (vv (.int .i64 1)))] (vv (.int .i64 1)) [(.arr 0, .arr 92 6 [lv0.row, lv1.row] 0), (.var 1, .n 1), (.cell 1 0, .av (vv (.int .i64 0))), (.var 2, .n 1), (.cell 2 0, .av (vv (.int .i64 1)))] := by
  refine sk Try.func181 ?_
  intro F G hn hG
  refine sq ?_
  refine rg 1000 ?_
  refine pr [0, 1, 4, 5, 6, 7, 8, 9, 10, 11, 12, 13, 14, 15, 16, 17, 18] ?_
  refine sq ?_
  refine sq ?_
  refine rg 2000 ?_
  refine pr [0, 1, 4, 5, 7, 8, 9, 10, 11, 12, 13, 14, 15, 16, 17, 18] ?_
  refine k_block ?_
  refine k_rounds 2 ?_
  show AK _ _ _ _ _ _
  refine sq ?_
  refine rg 3000 ?_
  refine pr [0, 1, 4, 5, 7, 8, 9, 10, 11, 12, 13, 14, 15, 16, 17, 18] ?_
  refine sq ?_
  refine ct ?_
  refine k_skip ?_
  refine sq ?_
  refine k_block ?_
  refine sq ?_
  refine rg 4000 ?_
  refine pr [0, 1, 4, 5, 7, 8, 9, 10, 11, 12, 13, 14, 15, 16, 17, 18] ?_
  refine sq ?_
  refine rc 5000 ?_
  refine oc (fun k => k + 1) (spec137 lv0) ?_
  refine on ?_
  refine pr [0, 1, 4, 5, 7, 8, 9, 10, 11, 12, 13, 14, 15, 16, 17, 18] ?_
  refine ce ?_
  refine k_skip ?_
  refine k_nil ?_
  show AK _ _ _ _ _ _
  refine rg 7000 ?_
  refine k_nil ?_
  show AK _ _ _ _ _ _
  refine sq ?_
  refine rg 1003000 ?_
  refine pr [0, 1, 4, 5, 7, 8, 9, 10, 11, 12, 13, 14, 15, 16, 17, 18] ?_
  refine sq ?_
  refine ct ?_
  refine k_skip ?_
  refine sq ?_
  refine k_block ?_
  refine sq ?_
  refine rg 1004000 ?_
  refine pr [0, 1, 4, 5, 7, 8, 9, 10, 11, 12, 13, 14, 15, 16, 17, 18] ?_
  refine sq ?_
  refine rc 1005000 ?_
  refine oc (fun k => k + 1) (spec137 lv1) ?_
  refine on ?_
  refine pr [0, 1, 4, 5, 7, 8, 9, 10, 11, 12, 13, 14, 15, 16, 17, 18] ?_
  refine ct ?_
  refine sq ?_
  refine rg 6000 ?_
  refine pr [0, 1, 4, 5, 7, 8, 9, 10, 11, 12, 13, 14, 15, 16, 17, 18] ?_
  refine k_ret ?_
  show retQ _ _ _ _ _ _ _
  simp [*]

attribute [local simp] Up.av Up.row lv0 lv1 lvV Val.row Up.zero in
theorem spec136  : Flat.Sp Try.prog 136 [.sl 0 2 0 2, .fn (.func 137) [.ptr 1 0, .ptr 2 0]] [(.arr 0, .arr 92 6 [lv0.row, lv1.row] 0), (.var 1, .n 1), (.cell 1 0, .av (vv (.int .i64 0))), (.var 2, .n 1), (.cell 2 0, .av (vv (.int .i64 1)))] (.sl 0 2 0 1) [(.arr 0, .arr 92 6 [lv0.row, Up.zero.row] 0), (.var 1, .n 1), (.cell 1 0, .av (vv (.int .i64 0))), (.var 2, .n 1), (.cell 2 0, .av (vv (.int .i64 1)))] := by
  refine sk Try.func136 ?_
  intro F G hn hG
  refine sq ?_
  refine rg 1000 ?_
  refine pr [0, 1, 4, 5, 6, 7, 8, 9, 10, 11, 12, 13, 14, 15, 16, 17, 18, 19, 20, 21, 22, 23, 24, 25, 26, 27, 28, 29, 30, 31, 32, 33, 34, 35, 36, 37, 38, 39, 40, 41] ?_
  refine sq ?_
  refine rc 2000 ?_
  refine oc id (spec181) ?_
  refine oe 2100 ?_
  refine on ?_
  refine pr [0, 1, 4, 5, 6, 7, 11, 12, 13, 14, 15, 16, 17, 18, 19, 20, 21, 22, 23, 24, 25, 26, 27, 28, 29, 30, 31, 32, 33, 34, 35, 36, 37, 38, 39, 40, 41] ?_
  refine sq ?_
  refine sq ?_
  refine rg 3000 ?_
  refine pr [0, 1, 4, 5, 6, 7, 12, 13, 14, 15, 16, 17, 18, 19, 20, 21, 22, 23, 24, 25, 26, 27, 28, 29, 30, 31, 32, 33, 34, 35, 36, 37, 38, 39, 40, 41] ?_
  refine ce ?_
  refine k_skip ?_
  refine sq ?_
  refine sq ?_
  refine rg 5000 ?_
  refine pr [0, 1, 4, 5, 6, 7, 16, 17, 18, 19, 20, 21, 22, 23, 24, 25, 26, 27, 28, 29, 30, 31, 32, 33, 34, 35, 36, 37, 38, 39, 40, 41] ?_
  refine k_block ?_
  refine k_rounds 1 ?_
  show AK _ _ _ _ _ _
  refine sq ?_
  refine sq ?_
  refine rg 6000 ?_
  refine pr [0, 1, 4, 5, 6, 7, 16, 17, 18, 19, 20, 21, 22, 23, 24, 25, 26, 27, 28, 29, 30, 31, 32, 33, 34, 35, 36, 37, 38, 39, 40, 41] ?_
  refine ce ?_
  refine k_exit ?_
  show AK _ _ _ _ _ _
  refine sq ?_
  refine rg 12000 ?_
  refine pr [0, 4, 5, 39, 40, 41] ?_
  refine sq ?_
  refine rg 13000 ?_
  refine pr [4] ?_
  refine k_ret ?_
  show retQ _ _ _ _ _ _ _
  simp [*]

attribute [local simp] Up.av Up.row lv0 lv1 lvV Val.row lv2 Up.zero lrow in
theorem spec79 (hr : (refR 0 1 [lv0, lv1] != 0) = false) (c : List Up) (hcr : consR [[lv2]] = (c, 0)) : Flat.Sp Try.prog 79 [vv (.int .i64 0), vv (.int .i64 1), .p (.ps [lv0.row, lv1.row])] [] (.tup [.p (.ps (c.map Up.row)), vv (.int .i64 0)]) [] := by
  refine sk Try.func79 ?_
  intro F G hn hG
  have h94 : Flat.Sp Try.prog 94 [vv (.int .i64 0), vv (.int .i64 1), .p (.ps [lv0.row, lv1.row])] [] (vv (.int .i64 (refR 0 1 [lv0, lv1]))) [] := spec94 0 1 [lv0, lv1] (by simp [Flat.lim]) lvs
  have h92 : Flat.Sp Try.prog 92 [.p (.ps [lv0.row, lv1.row])] [] (.sl 4002 2 0 2) [(.arr 4002, .arr 92 6 [lv0.row, lv1.row] 0)] := spec92 [lv0, lv1] (by simp [Cap])
  have h45 : Flat.Sp Try.prog 45 [.p (.ps [lrow [lv2]])] [] (.tup [.p (.ps ((consR [[lv2]]).1.map Up.row)), vv (.int .i64 (consR [[lv2]]).2)]) [] := spec45 [[lv2]] (by simp [Cap]) (by simp [cat, Cap]) (by intro l hl; rw [List.mem_singleton] at hl; rw [hl]; exact fun u hu => by rw [List.mem_singleton] at hu; rw [hu]; simp [Up.sm, lv2, Bnd])
  rw [hcr] at h45
  generalize refR 0 1 [lv0, lv1] = rr at hr h94
  refine sq ?_
  refine rg 1000 ?_
  refine pr [2, 3, 4, 6, 7, 8, 9, 10, 11, 12, 13, 14, 15, 16, 17, 18, 19, 20, 21, 22, 23, 24, 25, 26, 27, 28, 29, 30, 31, 32, 33, 34, 35, 36, 37, 38, 39, 40, 41, 42, 43, 44, 45] ?_
  refine sq ?_
  refine sq ?_
  refine rc 2000 ?_
  refine oc id (h94) ?_
  refine oe 2100 ?_
  refine on ?_
  refine pr [2, 3, 4, 6, 7, 8, 9, 10, 15, 16, 17, 18, 19, 20, 21, 22, 23, 24, 25, 26, 27, 28, 29, 30, 31, 32, 33, 34, 35, 36, 37, 38, 39, 40, 41, 42, 43, 44, 45] ?_
  refine sq ?_
  refine rg 3000 ?_
  refine pr [2, 3, 4, 6, 7, 8, 9, 10, 16, 17, 18, 19, 20, 21, 22, 23, 24, 25, 26, 27, 28, 29, 30, 31, 32, 33, 34, 35, 36, 37, 38, 39, 40, 41, 42, 43, 44, 45] ?_
  refine ce ?_
  refine k_skip ?_
  refine sq ?_
  refine rc 5000 ?_
  refine oc (id) (h92) ?_
  refine oe 5100 ?_
  refine oc (fun k => if k = 0 then 4002 else if k = 1 then 1000 else 1001) (spec136) ?_
  refine oe 5200 ?_
  refine on ?_
  refine pr [3, 6, 7, 9, 10, 22, 23, 24, 25, 26, 27, 28, 29, 30, 31, 32, 33, 34, 35, 36, 37, 38, 39, 40, 41, 42, 43, 44, 45] ?_
  refine sq ?_
  refine sq ?_
  refine rg 6000 ?_
  refine pr [3, 6, 7, 9, 10, 23, 24, 25, 26, 27, 28, 29, 30, 31, 32, 33, 34, 35, 36, 37, 38, 39, 40, 41, 42, 43, 44, 45] ?_
  refine k_block ?_
  refine k_rounds 2 ?_
  show AK _ _ _ _ _ _
  refine sq ?_
  refine rg 7000 ?_
  refine pr [3, 6, 7, 9, 10, 23, 24, 25, 26, 27, 28, 29, 30, 31, 32, 33, 34, 35, 36, 37, 38, 39, 40, 41, 42, 43, 44, 45] ?_
  refine sq ?_
  refine ct ?_
  refine k_skip ?_
  refine sq ?_
  refine k_block ?_
  refine sq ?_
  refine rg 8000 ?_
  refine pr [3, 6, 7, 9, 10, 23, 24, 25, 26, 27, 28, 29, 30, 31, 32, 33, 34, 35, 36, 37, 38, 39, 40, 41, 42, 43, 44, 45] ?_
  refine dr ?_
  refine de 9000 ?_
  refine dn ?_
  refine k_nil ?_
  show AK _ _ _ _ _ _
  refine rg 10000 ?_
  refine k_nil ?_
  show AK _ _ _ _ _ _
  refine sq ?_
  refine rg 1007000 ?_
  refine pr [3, 6, 7, 9, 10, 23, 24, 25, 26, 27, 28, 29, 30, 31, 32, 33, 34, 35, 36, 37, 38, 39, 40, 41, 42, 43, 44, 45] ?_
  refine sq ?_
  refine ce ?_
  refine k_exit ?_
  show AK _ _ _ _ _ _
  refine sq ?_
  refine fz 4002 ?_
  refine rc 11000 ?_
  refine oc id (h45) ?_
  refine oe 11100 ?_
  refine on ?_
  refine pr [6, 7] ?_
  refine k_ret ?_
  show retQ _ _ _ _ _ _ _
  simp [*]

end Go.Proofs
end
section
set_option linter.unusedVariables false
set_option linter.unusedSimpArgs false
namespace Go.Proofs
open Go.Flat
set_option maxRecDepth 100000
set_option linter.unusedSimpArgs false
set_option linter.unusedVariables false
theorem isrt_two {α : Type} (lt : α → α → Bool) (x y : α) : isrt lt [x, y] = if lt y x then [y, x] else [x, y] := by
  simp only [isrt, List.foldl_cons, List.foldl_nil, nil_mrg, mrg_cons]
  split
  · rw [mrg_nil]
  · rfl
theorem chkRow1 : checkRow [lvV] = 0 := by simp [checkRow, badRow, firstBad, Val.right, lvV]
theorem chkRow0 : checkRow [] = 0 := by simp [checkRow, badRow, firstBad]
theorem chk_of {k r : List Val} {t : Tm} {d : Int} (h1 : checkRow k = 0) (h2 : checkRow r = 0) (h3 : chkT t = 0) : chkU ⟨k, r, t, d⟩ = 0 := by
  simp only [chkU, h1, h2, h3]; rfl
theorem cons_one {x : Up} {n : Int} (hc : chkU x = 0) (hd : x.d = n) (hn : n ≠ 0) (ht : tfit (tsum [n]) = (n, 0)) : consR [[x]] = ([x], 0) := by
  have h1 : orI ([[x]].map chkUs) = 0 := by simp [chkUs, hc, orI]
  have h2 : piles [[x]] = [(x, [n])] := by rw [piles, cat_one, isrt_short (by simp), ← hd]; rfl
  have h3 : gerr [(x, [n])] = 0 := by simp [gerr, gfit, ht, orI]
  have h4 : gout Up.put [(x, [n])] = [x] := by
    have : (gfit (x, [n])).1 = n := by simp [gfit, ht]
    simp only [gout, List.filterMap_cons, List.filterMap_nil, this]
    have h5 : (n != 0) = true := by simpa using hn
    rw [h5]
    simp only [if_true]
    rw [Up.put, ← hd]
  rw [consR, h1, h2, h3, h4]
  rfl
def lvA : Up := ⟨[], [lvV], ⟨0, 0, 0⟩, -2⟩
def lvB : Up := ⟨[lvV], [lvV], ⟨0, 0, 0⟩, 2⟩
theorem chkT0 : chkT ⟨0, 0, 0⟩ = 0 := by decide
theorem chkT1 : chkT ⟨0, 1, 0⟩ = 0 := by decide
theorem fit2 : tfit (tsum [2]) = (2, 0) := by decide
theorem fitm2 : tfit (tsum [-2]) = (-2, 0) := by decide
theorem liv_d : consR [[lv2]] = ([lv2], 0) := cons_one (n := 2) (chk_of chkRow0 chkRow1 chkT1) rfl (by decide) fit2
theorem liv_chk0 : chkUs [lv0] = 0 := by simp only [chkUs, List.map_cons, List.map_nil, show chkU lv0 = 0 from chk_of chkRow0 chkRow1 chkT0]; rfl
theorem liv_chk01 : chkUs [lv0, lv1] = 0 := by simp only [chkUs, List.map_cons, List.map_nil, show chkU lv0 = 0 from chk_of chkRow0 chkRow1 chkT0, show chkU lv1 = 0 from chk_of chkRow0 chkRow1 chkT1]; rfl
theorem ref_of {l r : Int} {us : List Up} (h1 : chkUs us = 0) (h2 : badL l r = false) : refR l r us = 0 := by rw [refR, h1, h2]; rfl
theorem times2 : timesR 2 (-1) = (-2, 0) := by decide
theorem liv_a : doR 6 [] [lv0] = ([lvA], Tm.zero, 0) := by
  have h1 : madL 6 [] [lv0] = ([lvA], (false, Tm.zero)) := by
    have : oneR 6 [] lv0 = ([lvA], true) := by
      have h2 : oneM 6 [] ⟨lv0.r, lv0.d⟩ = ([⟨[lvV], -2⟩], 0) := by
        show ([(⟨[lvV], (timesR 2 (-1)).1⟩ : Ct)], (timesR 2 (-1)).2) = _
        rw [times2]
      rw [oneR, h2]
      simp [badC, chkRow1]
      rfl
    simp only [madL, List.foldl_cons, List.foldl_nil, madS, this]
    rfl
  have h3 : consR [[lvA]] = ([lvA], 0) := cons_one (n := -2) (chk_of chkRow0 chkRow1 chkT0) rfl (by decide) fitm2
  rw [doR, liv_chk0, h1]
  simp only [doneR, h3]
  rfl
theorem liv_f : doR 0 [] [lv0] = ([], Tm.zero, 4) := by
  rw [doR, liv_chk0]; rfl
theorem liv_b : arrR [0] [lv0] = ([lvB], 0) := by
  have h1 : colsR [lvV] [0] = ([lvV], 0) := by rw [colsR, chkRow1]; rfl
  have h2 : arrErr [0] [lv0] = 0 := by simp only [arrErr, List.map_cons, List.map_nil, lv0, h1]; rfl
  have h3 : [lv0].map (keyd [0]) = [lvB] := by simp only [List.map_cons, List.map_nil, keyd, lv0, h1]; rfl
  have h4 : consR [[lvB]] = ([lvB], 0) := cons_one (n := 2) (chk_of chkRow1 chkRow1 chkT0) rfl (by decide) fit2
  rw [arrR, liv_chk0, h2, h3, h4]
  rfl
theorem cmp01 : cmpU lv0 lv1 = -1 := by decide
theorem cmp10 : cmpU lv1 lv0 = 1 := by decide
theorem liv_cc : consR [[lv0, lv1]] = ([lv0, lv1], 0) := by
  have h1 : orI ([[lv0, lv1]].map chkUs) = 0 := by simp only [List.map_cons, List.map_nil, liv_chk01]; rfl
  have h0 : isrt (ltU cmpU) [lv0, lv1] = [lv0, lv1] := by
    rw [isrt_two, if_neg]
    simp [ltU, cmp10]
  have h2 : piles [[lv0, lv1]] = [(lv0, [2]), (lv1, [-2])] := by
    rw [piles, cat_one, h0]
    have e1 : grp cmpU Up.d [lv0, lv1] = gstep cmpU Up.d (gstep cmpU Up.d [] lv0) lv1 := rfl
    rw [e1, gstep_nil]
    have e2 := gstep_snoc (c := cmpU) Up.d [] (lv0, [lv0.d]) lv1
    rw [List.nil_append] at e2
    rw [e2, if_neg (by rw [cmp01]; decide)]
    rfl
  have h3 : gerr [(lv0, [2]), (lv1, [-2])] = 0 := by simp [gerr, gfit, fit2, fitm2, orI]
  have h4 : gout Up.put [(lv0, [2]), (lv1, [-2])] = [lv0, lv1] := by
    simp [gout, gfit, fit2, fitm2]
    exact ⟨rfl, rfl⟩
  rw [consR, h1, h2, h3, h4]
  rfl
theorem liv_c : finR3 (doneR (entL 0 [lv0]).2 (entL 0 [lv0]).1) = ([lv0, lv1], Tm.zero, 0) := by
  have h1 : entL 0 [lv0] = ([lv0, lv1], (false, Tm.zero)) := by
    have hb : badX 0 lv0 = false := by
      show ((timesR 2 (-1)).2 != 0 || chkT ⟨0, 1, 0⟩ != 0) = false
      rw [times2, chkT1]; rfl
    have hn : nxt 0 lv0 = lv1 := by
      show (⟨[], [lvV], ⟨0, 1, 0⟩, (timesR 2 (-1)).1⟩ : Up) = _
      rw [times2]; rfl
    simp only [entL, List.foldl_cons, List.foldl_nil, entS, hb, hn]
    rfl
  rw [h1]
  simp only [doneR, liv_cc]
  rfl
theorem liv_e : finR3 (doneR (false, Tm.zero) ([lv0, lv1].map (nulU 0))) = ([], Tm.zero, 0) := by
  have h0 : [lv0, lv1].map (nulU 0) = [lv0, lvA] := rfl
  have hc : cmpU lv0 lvA = 0 := by decide
  have hc2 : cmpU lvA lv0 = 0 := by decide
  have h1 : orI ([[lv0, lvA]].map chkUs) = 0 := by
    simp only [List.map_cons, List.map_nil, chkUs, show chkU lv0 = 0 from chk_of chkRow0 chkRow1 chkT0, show chkU lvA = 0 from chk_of chkRow0 chkRow1 chkT0]; rfl
  have hs : isrt (ltU cmpU) [lv0, lvA] = [lv0, lvA] := by
    rw [isrt_two, if_neg]
    simp [ltU, hc2]
  have h2 : piles [[lv0, lvA]] = [(lv0, [2, -2])] := by
    rw [piles, cat_one, hs]
    have e1 : grp cmpU Up.d [lv0, lvA] = gstep cmpU Up.d (gstep cmpU Up.d [] lv0) lvA := rfl
    rw [e1, gstep_nil]
    have e2 := gstep_snoc (c := cmpU) Up.d [] (lv0, [lv0.d]) lvA
    rw [List.nil_append] at e2
    rw [e2, if_pos hc]
    rfl
  have hf : tfit (tsum [2, -2]) = (0, 0) := by decide
  have h3 : gerr [(lv0, [2, -2])] = 0 := by simp [gerr, gfit, hf, orI]
  have h4 : gout Up.put [(lv0, [2, -2])] = [] := by simp [gout, gfit, hf]
  have h5 : consR [[lv0, lvA]] = ([], 0) := by rw [consR, h1, h2, h3, h4]; rfl
  rw [h0]
  simp only [doneR, h5]
  rfl
end Go.Proofs
end
section
set_option linter.unusedVariables false
set_option linter.unusedSimpArgs false
namespace Go.Proofs
open Go.Flat
set_option maxRecDepth 100000
set_option linter.unusedSimpArgs false
set_option linter.unusedVariables false
attribute [local simp] Bool.and_assoc Bool.or_assoc evalG evalX efD skF guardG guardL isCall stepL evalOp ev evs lk tmpsL app AV.ok fresh vv putCells insV ins del putL place Go.Flat.look fillC fillR getCells loadF storeF binF scalarBin intBin strBin isShift shiftBin unF lenF maxF minF rowsF appendF builtinF idxF natOf sliceP sliceF optEv Flat.cut overwrite toPV toPVs constAV scalarC scalarCs AV.cells TI.isAgg allSome andAll scalarEq buildable Go.Flat.lim retQ resL resAll resOne PartOf noTmp closedIn refs refs.refsL isSomeV hasB ids leA leA.leL renA renA.renL callB refsAll backL dropIds renS LiesAt injB ownB freshB memN locId insAll leA_refl leL_refl okS frzS frzA frzA.frzL evalD feet fine updCells cellsFrom memP footRf footWf noTmpU updIds opOps opIds idsA footR footW guardTs opTs dstTs callR callW renLoc renC inBlockQ thenQ Value.oneCell' IntKind.bits IntKind.signed

def Tm.eqB (a b : Tm) : Bool := (a.e == b.e) && ((a.a == b.a) && (a.b == b.b))
@[simp] theorem eqTime (e1 a1 b1 e2 a2 b2 : Int) : eqT (tyOf Try.prog) 8 82 (.agg [.p (.v (.int .u64 e1)), .p (.v (.int .u64 a1)), .p (.v (.int .u64 b1))]) (.agg [.p (.v (.int .u64 e2)), .p (.v (.int .u64 a2)), .p (.v (.int .u64 b2))]) = some (Tm.eqB ⟨e1, a1, b1⟩ ⟨e2, a2, b2⟩) := by
  simp [eqT, eqCut, Tm.eqB, show List.range 2 = [0, 1] from rfl]

attribute [local simp] Up.row in
set_option maxHeartbeats 8000000 in
theorem spec46 (xs ys : List Up) (hlx : xs.length ≤ Flat.lim) (hly : ys.length ≤ Flat.lim) (hsx : Up.sms xs) (hsy : Up.sms ys) : Flat.Sp Try.prog 46 [.p (.ps (xs.map Up.row)), .p (.ps (ys.map Up.row))] [] (vv (.bool (sameBy sameU xs ys))) [] := by
  refine sk Try.func46 ?_
  intro F G hn hG
  refine sq ?_
  refine rg 1000 ?_
  refine pr [0, 1, 4, 5, 6, 7, 8, 9, 10, 11, 12, 13, 14, 15, 16, 17, 18, 19, 20, 21, 22, 23, 24, 25, 26, 27, 28, 29, 30, 31, 32, 33, 34, 35, 36, 37, 38, 39, 40, 41, 42, 43, 44, 45, 46, 47, 48, 49, 50, 51, 52, 53, 54, 55, 56, 57, 58, 59, 60, 61, 62, 63, 64, 65, 66, 67, 68] ?_
  refine sq ?_
  refine sq ?_
  refine rg 2000 ?_
  refine pr [0, 1, 4, 5, 10, 11, 12, 13, 14, 15, 16, 17, 18, 19, 20, 21, 22, 23, 24, 25, 26, 27, 28, 29, 30, 31, 32, 33, 34, 35, 36, 37, 38, 39, 40, 41, 42, 43, 44, 45, 46, 47, 48, 49, 50, 51, 52, 53, 54, 55, 56, 57, 58, 59, 60, 61, 62, 63, 64, 65, 66, 67, 68] ?_
  refine cd ?_ ?_
  · intro h10_1
    have hne : xs.length ≠ ys.length := by have := h10_1; simp at this; omega
    have hfin := sameBy_len (f := sameU) hne
    refine sq ?_
    refine rg 3000 ?_
    refine pr [0, 1, 4, 5, 11, 12, 13, 14, 15, 16, 17, 18, 19, 20, 21, 22, 23, 24, 25, 26, 27, 28, 29, 30, 31, 32, 33, 34, 35, 36, 37, 38, 39, 40, 41, 42, 43, 44, 45, 46, 47, 48, 49, 50, 51, 52, 53, 54, 55, 56, 57, 58, 59, 60, 61, 62, 63, 64, 65, 66, 67, 68] ?_
    refine k_ret ?_
    show retQ _ _ _ _ _ _ _
    simp [*]
  · intro h10_1
    have hxy : ys.length = xs.length := by have := h10_1; simp at this; omega
    refine k_skip ?_
    refine sq ?_
    refine sq ?_
    refine rg 4000 ?_
    refine pr [0, 1, 4, 5, 12, 13, 14, 15, 16, 17, 18, 19, 20, 21, 22, 23, 24, 25, 26, 27, 28, 29, 30, 31, 32, 33, 34, 35, 36, 37, 38, 39, 40, 41, 42, 43, 44, 45, 46, 47, 48, 49, 50, 51, 52, 53, 54, 55, 56, 57, 58, 59, 60, 61, 62, 63, 64, 65, 66, 67, 68] ?_
    refine k_block ?_
    refine k_loop (fun n l => ∃ i, i + n = xs.length ∧ (sameBy sameU (xs.drop i) (ys.drop i) = sameBy sameU xs ys) ∧ l = [(.tmp 0, .av (.p (.ps (xs.map Up.row)))), (.tmp 1, .av (.p (.ps (ys.map Up.row)))), (.tmp 12, .av (vv (.int .i64 xs.length))), (.tmp 13, .av (vv (.int .i64 i)))]) (xs.length) hG ⟨_, ⟨by simp, by simp, by simp⟩, 0, by simp, rfl, rfl⟩ ?_
    rintro n _ ⟨i, hin, hfa, rfl⟩
    have hcm := hfa
    refine sq ?_
    refine rg 5000 ?_
    refine pr [0, 1, 4, 5, 12, 13, 14, 15, 16, 17, 18, 19, 20, 21, 22, 23, 24, 25, 26, 27, 28, 29, 30, 31, 32, 33, 34, 35, 36, 37, 38, 39, 40, 41, 42, 43, 44, 45, 46, 47, 48, 49, 50, 51, 52, 53, 54, 55, 56, 57, 58, 59, 60, 61, 62, 63, 64, 65, 66, 67, 68] ?_
    refine sq ?_
    refine cd ?_ ?_
    · intro h14_2
      have hlt : i < xs.length := by simpa using h14_2
      obtain ⟨x, hxe⟩ : ∃ x, xs[i] = x := ⟨_, rfl⟩
      have hx : xs[i]? = some x := by simp [hlt, hxe]
      have hw := wrap_succ (show i < Flat.lim by omega)
      have hlty : i < ys.length := by omega
      obtain ⟨y, hye⟩ : ∃ y, ys[i] = y := ⟨_, rfl⟩
      have hy : ys[i]? = some y := by simp [hlty, hye]
      rw [drop_at hx, drop_at hy] at hcm
      have hcm : (sameU x y && sameBy sameU (xs.drop (i + 1)) (ys.drop (i + 1))) = sameBy sameU xs ys := hcm
      obtain ⟨hk1, hr1⟩ := Up.sm_lim (hsx x (List.mem_of_getElem? hx))
      obtain ⟨hk2, hr2⟩ := Up.sm_lim (hsy y (List.mem_of_getElem? hy))
      refine k_skip ?_
      refine sq ?_
      refine k_block ?_
      refine sq ?_
      refine rg 6000 ?_
      refine pr [0, 1, 4, 5, 12, 13, 14, 15, 16, 17, 18, 19, 20, 21, 22, 23, 24, 25, 26, 27, 28, 29, 30, 31, 32, 33, 34, 35, 36, 37, 38, 39, 40, 41, 42, 43, 44, 45, 46, 47, 48, 49, 50, 51, 52, 53, 54, 55, 56, 57, 58, 59, 60, 61, 62, 63, 64, 65, 66, 67, 68] ?_
      refine sq ?_
      refine cv [(.tmp 67, vv (.bool (diffU x y)))] ?_ ?_
      · skip
        rcases q1 : (sameBy Val.eqB x.k y.k : Bool) with _ | _
        · skip
          refine dr ?_
          refine de 7000 ?_ (h := by simp [*, diffU, sameV, Tm.eqB, q1]; exact is_rfl _)
          refine dc id (spec91 x.k y.k hk1 hk2) ?_ (hg := by simp [*, diffU, sameV, Tm.eqB, q1]) (hf := by simp [*, diffU, sameV, Tm.eqB, q1]; exact is_rfl _) (hx := by simp [*, diffU, sameV, Tm.eqB, q1]; exact is_rfl _) (hargs := by simp [*, diffU, sameV, Tm.eqB, q1]) (hB := by simp [*, diffU, sameV, Tm.eqB, q1]) (hL := by simp [*, diffU, sameV, Tm.eqB, q1]) (hd := by simp [*, diffU, sameV, Tm.eqB, q1]; exact is_rfl _)
          refine de 7100 ?_ (h := by simp [*, diffU, sameV, Tm.eqB, q1]; exact is_rfl _)
          iterate 10 (first | refine dp 8050 ?_ (he := by intro hgg; (try simp only [Bool.and_eq_true] at hgg); simp [*, diffU, sameV, Tm.eqB, q1]; exact is_rfl _) | refine ds ?_ | refine dt 8050 ?_ (he := by simp [*, diffU, sameV, Tm.eqB, q1]; exact is_rfl _))
          refine ds ?_
          first | refine dp 8250 ?_ (he := by intro hgg; (try simp only [Bool.and_eq_true] at hgg); simp [*, diffU, sameV, Tm.eqB, q1]; exact is_rfl _) | refine ds ?_ | refine dt 8250 ?_ (he := by simp [*, diffU, sameV, Tm.eqB, q1]; exact is_rfl _)
          refine de 8300 ?_ (h := by simp [*, diffU, sameV, Tm.eqB, q1]; exact is_rfl _)
          iterate 11 (first | refine dp 9350 ?_ (he := by intro hgg; (try simp only [Bool.and_eq_true] at hgg); simp [*, diffU, sameV, Tm.eqB, q1]; exact is_rfl _) | refine ds ?_ | refine dt 9350 ?_ (he := by simp [*, diffU, sameV, Tm.eqB, q1]; exact is_rfl _))
          refine de 9400 ?_ (h := by simp [*, diffU, sameV, Tm.eqB, q1]; exact is_rfl _)
          iterate 11 (first | refine dp 10450 ?_ (he := by intro hgg; (try simp only [Bool.and_eq_true] at hgg); simp [*, diffU, sameV, Tm.eqB, q1]; exact is_rfl _) | refine ds ?_ | refine dt 10450 ?_ (he := by simp [*, diffU, sameV, Tm.eqB, q1]; exact is_rfl _))
          refine de 10500 ?_ (h := by simp [*, diffU, sameV, Tm.eqB, q1]; exact is_rfl _)
          refine dn ?_
          refine k_nil ?_
          refine ⟨rfl, ?_, ?_, ?_⟩ <;> simp [*, diffU, sameV, Tm.eqB, q1]
        · skip
          rcases q2 : (sameBy Val.eqB x.r y.r : Bool) with _ | _
          · skip
            refine dr ?_
            refine de 1007000 ?_ (h := by simp [*, diffU, sameV, Tm.eqB, q1, q2]; exact is_rfl _)
            refine dc id (spec91 x.k y.k hk1 hk2) ?_ (hg := by simp [*, diffU, sameV, Tm.eqB, q1, q2]) (hf := by simp [*, diffU, sameV, Tm.eqB, q1, q2]; exact is_rfl _) (hx := by simp [*, diffU, sameV, Tm.eqB, q1, q2]; exact is_rfl _) (hargs := by simp [*, diffU, sameV, Tm.eqB, q1, q2]) (hB := by simp [*, diffU, sameV, Tm.eqB, q1, q2]) (hL := by simp [*, diffU, sameV, Tm.eqB, q1, q2]) (hd := by simp [*, diffU, sameV, Tm.eqB, q1, q2]; exact is_rfl _)
            refine de 1007100 ?_ (h := by simp [*, diffU, sameV, Tm.eqB, q1, q2]; exact is_rfl _)
            iterate 10 (first | refine dp 1008050 ?_ (he := by intro hgg; (try simp only [Bool.and_eq_true] at hgg); simp [*, diffU, sameV, Tm.eqB, q1, q2]; exact is_rfl _) | refine ds ?_ | refine dt 1008050 ?_ (he := by simp [*, diffU, sameV, Tm.eqB, q1, q2]; exact is_rfl _))
            refine dc id (spec91 x.r y.r hr1 hr2) ?_ (hg := by simp [*, diffU, sameV, Tm.eqB, q1, q2]) (hf := by simp [*, diffU, sameV, Tm.eqB, q1, q2]; exact is_rfl _) (hx := by simp [*, diffU, sameV, Tm.eqB, q1, q2]; exact is_rfl _) (hargs := by simp [*, diffU, sameV, Tm.eqB, q1, q2]) (hB := by simp [*, diffU, sameV, Tm.eqB, q1, q2]) (hL := by simp [*, diffU, sameV, Tm.eqB, q1, q2]) (hd := by simp [*, diffU, sameV, Tm.eqB, q1, q2]; exact is_rfl _)
            first | refine dp 1008250 ?_ (he := by intro hgg; (try simp only [Bool.and_eq_true] at hgg); simp [*, diffU, sameV, Tm.eqB, q1, q2]; exact is_rfl _) | refine ds ?_ | refine dt 1008250 ?_ (he := by simp [*, diffU, sameV, Tm.eqB, q1, q2]; exact is_rfl _)
            refine de 1008300 ?_ (h := by simp [*, diffU, sameV, Tm.eqB, q1, q2]; exact is_rfl _)
            iterate 11 (first | refine dp 1009350 ?_ (he := by intro hgg; (try simp only [Bool.and_eq_true] at hgg); simp [*, diffU, sameV, Tm.eqB, q1, q2]; exact is_rfl _) | refine ds ?_ | refine dt 1009350 ?_ (he := by simp [*, diffU, sameV, Tm.eqB, q1, q2]; exact is_rfl _))
            refine de 1009400 ?_ (h := by simp [*, diffU, sameV, Tm.eqB, q1, q2]; exact is_rfl _)
            iterate 11 (first | refine dp 1010450 ?_ (he := by intro hgg; (try simp only [Bool.and_eq_true] at hgg); simp [*, diffU, sameV, Tm.eqB, q1, q2]; exact is_rfl _) | refine ds ?_ | refine dt 1010450 ?_ (he := by simp [*, diffU, sameV, Tm.eqB, q1, q2]; exact is_rfl _))
            refine de 1010500 ?_ (h := by simp [*, diffU, sameV, Tm.eqB, q1, q2]; exact is_rfl _)
            refine dn ?_
            refine k_nil ?_
            refine ⟨rfl, ?_, ?_, ?_⟩ <;> simp [*, diffU, sameV, Tm.eqB, q1, q2]
          · skip
            refine dr ?_
            refine de 2007000 ?_ (h := by simp [*, diffU, sameV, Tm.eqB, q1, q2]; exact is_rfl _)
            refine dc id (spec91 x.k y.k hk1 hk2) ?_ (hg := by simp [*, diffU, sameV, Tm.eqB, q1, q2]) (hf := by simp [*, diffU, sameV, Tm.eqB, q1, q2]; exact is_rfl _) (hx := by simp [*, diffU, sameV, Tm.eqB, q1, q2]; exact is_rfl _) (hargs := by simp [*, diffU, sameV, Tm.eqB, q1, q2]) (hB := by simp [*, diffU, sameV, Tm.eqB, q1, q2]) (hL := by simp [*, diffU, sameV, Tm.eqB, q1, q2]) (hd := by simp [*, diffU, sameV, Tm.eqB, q1, q2]; exact is_rfl _)
            refine de 2007100 ?_ (h := by simp [*, diffU, sameV, Tm.eqB, q1, q2]; exact is_rfl _)
            iterate 10 (first | refine dp 2008050 ?_ (he := by intro hgg; (try simp only [Bool.and_eq_true] at hgg); simp [*, diffU, sameV, Tm.eqB, q1, q2]; exact is_rfl _) | refine ds ?_ | refine dt 2008050 ?_ (he := by simp [*, diffU, sameV, Tm.eqB, q1, q2]; exact is_rfl _))
            refine dc id (spec91 x.r y.r hr1 hr2) ?_ (hg := by simp [*, diffU, sameV, Tm.eqB, q1, q2]) (hf := by simp [*, diffU, sameV, Tm.eqB, q1, q2]; exact is_rfl _) (hx := by simp [*, diffU, sameV, Tm.eqB, q1, q2]; exact is_rfl _) (hargs := by simp [*, diffU, sameV, Tm.eqB, q1, q2]) (hB := by simp [*, diffU, sameV, Tm.eqB, q1, q2]) (hL := by simp [*, diffU, sameV, Tm.eqB, q1, q2]) (hd := by simp [*, diffU, sameV, Tm.eqB, q1, q2]; exact is_rfl _)
            first | refine dp 2008250 ?_ (he := by intro hgg; (try simp only [Bool.and_eq_true] at hgg); simp [*, diffU, sameV, Tm.eqB, q1, q2]; exact is_rfl _) | refine ds ?_ | refine dt 2008250 ?_ (he := by simp [*, diffU, sameV, Tm.eqB, q1, q2]; exact is_rfl _)
            refine de 2008300 ?_ (h := by simp [*, diffU, sameV, Tm.eqB, q1, q2]; exact is_rfl _)
            iterate 11 (first | refine dp 2009350 ?_ (he := by intro hgg; (try simp only [Bool.and_eq_true] at hgg); simp [*, diffU, sameV, Tm.eqB, q1, q2]; exact is_rfl _) | refine ds ?_ | refine dt 2009350 ?_ (he := by simp [*, diffU, sameV, Tm.eqB, q1, q2]; exact is_rfl _))
            refine de 2009400 ?_ (h := by simp [*, diffU, sameV, Tm.eqB, q1, q2]; exact is_rfl _)
            iterate 11 (first | refine dp 2010450 ?_ (he := by intro hgg; (try simp only [Bool.and_eq_true] at hgg); simp [*, diffU, sameV, Tm.eqB, q1, q2]; exact is_rfl _) | refine ds ?_ | refine dt 2010450 ?_ (he := by simp [*, diffU, sameV, Tm.eqB, q1, q2]; exact is_rfl _))
            refine de 2010500 ?_ (h := by simp [*, diffU, sameV, Tm.eqB, q1, q2]; exact is_rfl _)
            refine dn ?_
            refine k_nil ?_
            refine ⟨rfl, ?_, ?_, ?_⟩ <;> simp [*, diffU, sameV, Tm.eqB, q1, q2]
      refine pr [0, 1, 4, 5, 12, 13, 14, 15, 16, 17, 18, 19, 20, 21, 22, 23, 24, 25, 26, 27, 28, 29, 30, 31, 32, 33, 34, 35, 36, 37, 38, 39, 40, 41, 42, 43, 44, 45, 46, 47, 48, 49, 50, 51, 52, 53, 54, 55, 56, 57, 58, 59, 60, 61, 62, 63, 64, 65, 66, 67, 68] ?_
      refine cd ?_ ?_
      · intro h67_3
        have h2 : sameU x y = false := by have h3 : diffU x y = true := h67_3; rw [sameU, h3]; rfl
        rw [h2] at hcm
        have hfin : sameBy sameU xs ys = false := hcm.symm
        refine sq ?_
        refine rg 8000 ?_
        refine pr [0, 1, 4, 5, 12, 13, 14, 15, 16, 17, 18, 19, 20, 21, 22, 23, 24, 25, 26, 27, 28, 29, 30, 31, 32, 33, 34, 35, 36, 37, 38, 39, 40, 41, 42, 43, 44, 45, 46, 47, 48, 49, 50, 51, 52, 53, 54, 55, 56, 57, 58, 59, 60, 61, 62, 63, 64, 65, 66, 67, 68] ?_
        refine k_ret ?_
        show retQ _ _ _ _ _ _ _
        simp [*]
      · intro h67_3
        have h2 : sameU x y = true := by have h3 : diffU x y = false := h67_3; rw [sameU, h3]; rfl
        rw [h2] at hcm
        have hnext : sameBy sameU (xs.drop (i + 1)) (ys.drop (i + 1)) = sameBy sameU xs ys := hcm
        refine k_skip ?_
        refine k_nil ?_
        show AK _ _ _ _ _ _
        refine rg 9000 ?_
        refine k_nil ?_
        refine ⟨n - 1, by omega, _, ⟨?_, ?_, ?_⟩, i + 1, by omega, hnext, rfl⟩ <;> simp [*]
    · intro h14_2
      have hge : xs.length ≤ i := by simpa using h14_2
      obtain rfl : i = xs.length := by omega
      rw [List.drop_eq_nil_of_le (Nat.le_refl _), List.drop_eq_nil_of_le (by omega)] at hcm
      have hfin : sameBy sameU xs ys = true := hcm.symm
      refine k_exit ?_
      show AK _ _ _ _ _ _
      refine sq ?_
      refine rg 10000 ?_
      refine pr [4] ?_
      refine k_ret ?_
      show retQ _ _ _ _ _ _ _
      simp [*]

end Go.Proofs
end
section
set_option linter.unusedVariables false
set_option linter.unusedSimpArgs false
namespace Go.Proofs
open Go.Flat
set_option linter.unusedSimpArgs false
set_option linter.unusedVariables false
theorem eqB_iff (x y : Val) : x.eqB y = true ↔ x = y := by
  obtain ⟨a, b, c⟩ := x
  obtain ⟨d, e, f⟩ := y
  simp only [Val.eqB, Bool.and_eq_true, beq_iff_eq, Val.mk.injEq]
  constructor
  · rintro ⟨h1, h2, h3⟩; exact ⟨h1, h2, toList_inj h3⟩
  · rintro ⟨h1, h2, h3⟩; exact ⟨h1, h2, by rw [h3]⟩
theorem sameU_iff (x y : Up) : sameU x y = true ↔ x = y := by
  have hk : sameV x.k y.k = true ↔ x.k = y.k := sameBy_iff eqB_iff _ _
  have hr : sameV x.r y.r = true ↔ x.r = y.r := sameBy_iff eqB_iff _ _
  obtain ⟨k, r, ⟨e, a, b⟩, d⟩ := x
  obtain ⟨k', r', ⟨e', a', b'⟩, d'⟩ := y
  simp only at hk hr
  simp only [sameU, diffU, Bool.not_or, Bool.not_not, Bool.and_eq_true, Up.mk.injEq, Tm.mk.injEq, beq_iff_eq, bne, hk, hr]
theorem sameUs_iff (a b : List Up) : sameUs a b = true ↔ a = b := sameBy_iff sameU_iff a b
theorem note_flag (f : Fa) (t : Tm) : (noteR f t).1 = true := by
  unfold noteR
  obtain ⟨b, s⟩ := f
  cases b
  · simp
  · split <;> rfl
theorem pcs_mono : ∀ (n : Nat) (r o : List Up) (f : Fa), r.length ≤ n → f.1 = true → (pcs o f r).2.1 = true
  | _, [], o, f, _, h => by rw [pcs_nil]; exact h
  | 0, x :: r, o, f, hn, h => by simp at hn
  | n + 1, x :: r, o, f, hn, h => by
    rw [pcs]
    refine pcs_mono n _ _ _ (by simp only [List.length_drop]; simp only [List.length_cons] at hn; omega) ?_
    split
    · exact note_flag f x.t
    · exact h
theorem alk_take {x : Up} : ∀ r : List Up, ∀ y ∈ r.take (alk x r), cmpU x y = 0
  | [], y, h => by simp at h
  | z :: r, y, h => by
    unfold alk at h
    split at h
    · rename_i hz
      rw [List.take_succ_cons] at h
      rcases List.mem_cons.1 h with rfl | h
      · simpa using hz
      · exact alk_take r y h
    · simp at h
theorem alk_drop {x : Up} : ∀ r : List Up, (x :: r).Pairwise (fun x y => ltU cmpU y x = false) → ∀ y ∈ r.drop (alk x r), cmpU x y ≠ 0
  | [], _, y, h => by simp at h
  | z :: r, hp, y, h => by
    obtain ⟨h1, h2⟩ := List.pairwise_cons.1 hp
    obtain ⟨h3, h4⟩ := List.pairwise_cons.1 h2
    unfold alk at h
    split at h
    · rw [List.drop_succ_cons] at h
      exact alk_drop r (List.pairwise_cons.2 ⟨fun w hw => h1 w (by simp [hw]), h4⟩) y h
    · rename_i hz
      simp only [beq_iff_eq] at hz
      have hlt : ltC cmpU x z = true := cmpU_ok.cmp.lt_of (h1 z (by simp)) hz
      rw [List.drop_zero] at h
      rcases List.mem_cons.1 h with rfl | h
      · exact hz
      · exact cmpU_ok.cmp.ne_of_lt (cmpU_ok.cmp.lt_le hlt (h3 y h))
theorem pcs_flag : ∀ (n : Nat) (r o : List Up) (f : Fa), r.length ≤ n → r.length ≤ 4294967296 → gds r → r.Pairwise (fun x y => ltU cmpU y x = false) → (∃ u ∈ r, ¬ i64 (T r u)) → (pcs o f r).2.1 = true
  | _, [], o, f, _, _, _, _, h => by obtain ⟨u, hu, _⟩ := h; simp at hu
  | 0, x :: r, o, f, hn, _, _, _, _ => by simp at hn
  | n + 1, x :: r, o, f, hn, hl, hg, hp, h => by
    rw [pcs]
    have hsp : x :: r = (x :: r.take (alk x r)) ++ r.drop (alk x r) := by rw [List.cons_append, List.take_append_drop]
    have hlen : (x :: r.take (alk x r)).length ≤ 4294967296 := by simp only [List.length_cons, List.length_take] at hl ⊢; omega
    have hgp : gds (x :: r.take (alk x r)) := fun u hu => hg u (by rw [hsp]; exact List.mem_append_left _ hu)
    have hsub : (r.drop (alk x r)).length ≤ n := by simp only [List.length_drop]; simp only [List.length_cons] at hn; omega
    by_cases hc : (consR [x :: r.take (alk x r)]).2 = 0
    · have hall := ((cons_ok (ls := [x :: r.take (alk x r)]) (by rw [cat_one]; exact hgp) (by rw [cat_one]; exact hlen)).1.1 hc).2
      rw [cat_one] at hall
      have hpk : ∀ y ∈ x :: r.take (alk x r), cmpU x y = 0 := by
        intro y hy
        rcases List.mem_cons.1 hy with rfl | hy
        · exact cmpU_ok.cmp.refl y
        · exact alk_take r y hy
      have hrk := alk_drop r hp
      refine pcs_flag n _ _ _ hsub (by simp only [List.length_drop]; simp only [List.length_cons] at hl; omega) (fun u hu => hg u (List.mem_cons_of_mem _ (List.mem_of_mem_drop hu))) ((List.pairwise_cons.1 hp).2.sublist (List.drop_sublist _ _)) ?_
      obtain ⟨u, hu, hb⟩ := h
      have hT : T (x :: r) u = T (x :: r.take (alk x r)) u + T (r.drop (alk x r)) u := by rw [← T_app, ← hsp]
      by_cases hxu : cmpU x u = 0
      · exfalso
        have h0 : T (r.drop (alk x r)) u = 0 := T_none fun y hy e => hrk y hy (cmpU_ok.cmp.trans hxu e)
        rw [hT, h0, Int.add_zero, ← T_congr hxu] at hb
        exact hb (hall x (by simp))
      · have h0 : T (x :: r.take (alk x r)) u = 0 := T_none fun y hy e => hxu (cmpU_ok.cmp.trans (hpk y hy) (cmpU_ok.cmp.symm e))
        rw [hT, h0, Int.zero_add] at hb
        refine ⟨u, ?_, hb⟩
        rw [hsp] at hu
        rcases List.mem_append.1 hu with hu | hu
        · exact absurd (hpk u hu) hxu
        · exact hu
    · refine pcs_mono n _ _ _ hsub ?_
      have : ((consR [x :: r.take (alk x r)]).2 != 0) = true := by simpa using hc
      rw [this, if_pos rfl]
      exact note_flag f x.t
/-- What was made right comes out evened out, or fails. -/
theorem done_ok {f : Fa} {us : List Up} (hr : rts us) (hg : gds us) (hl : us.length ≤ 4294967296) (h : (finR3 (doneR f us)).2.2 = 0) : f.1 = false ∧ (consR [us]).2 = 0 ∧ (finR3 (doneR f us)).1 = (consR [us]).1 := by
  have hfl : (doneR f us).2.1 = false := by
    unfold finR3 at h
    simp only at h
    cases hq : (doneR f us).2.1 with
    | false => rfl
    | true => rw [hq] at h; simp at h
  by_cases hc : (consR [us]).2 = 0
  · have e : doneR f us = ((consR [us]).1, f) := by
      have : ((consR [us]).2 != 0) = false := by simpa using hc
      rw [doneR, this]; rfl
    rw [e] at hfl
    exact ⟨hfl, hc, by rw [e]; rfl⟩
  · exfalso
    have e : doneR f us = pcs [] f (isrt (ltU cmpU) us) := by
      have : ((consR [us]).2 != 0) = true := by simpa using hc
      rw [doneR, this]; rfl
    have hperm : (isrt (ltU cmpU) us).Perm us := isrt_perm _
    have := (cons_ok (ls := [us]) (by rw [cat_one]; exact hg) (by rw [cat_one]; exact hl)).1
    rw [cat_one] at this
    have hex : ∃ u ∈ us, ¬ i64 (T us u) := Classical.byContradiction fun hn => hc (this.2 ⟨hr, fun u hu => Classical.byContradiction fun hb => hn ⟨u, hu, hb⟩⟩)
    obtain ⟨u, hu, hb⟩ := hex
    have hT : T (isrt (ltU cmpU) us) u = T us u := sumP_perm hperm
    have := pcs_flag _ (isrt (ltU cmpU) us) [] f (Nat.le_refl _) (by rw [isrt_length]; exact hl) (fun v hv => hg v (hperm.mem_iff.1 hv)) (isrt_line ordU us) ⟨u, hperm.mem_iff.2 hu, by rw [hT]; exact hb⟩
    rw [← e, hfl] at this
    simp at this
/-! ### plans -/
theorem i64_wrap (n : Int) : i64 (IntKind.i64.wrap n) := by rw [w64]; unfold i64; omega
theorem times_or (a b : Int) : timesR a b = (0, 10) ∨ timesR a b = (IntKind.i64.wrap (a * b), 0) := by
  have h : ∀ (c : Bool) (p : Int), (if c then ((0 : Int), (10 : Int)) else (p, 0)) = (0, 10) ∨ (if c then ((0 : Int), (10 : Int)) else (p, 0)) = (p, 0) := by
    intro c p
    cases c
    · exact .inr rfl
    · exact .inl rfl
  exact h _ _
theorem times_i64 (a b : Int) : i64 (timesR a b).1 := by
  rcases times_or a b with h | h <;> rw [h]
  · unfold i64; simp
  · exact i64_wrap _
theorem times_neg {d : Int} (hd : i64 d) (h : (timesR d (-1)).2 = 0) : (timesR d (-1)).1 = -d := by
  unfold i64 at hd
  by_cases h0 : d = -9223372036854775808
  · subst h0
    have : (timesR (-9223372036854775808) (-1)).2 = 10 := by decide
    rw [this] at h
    simp at h
  · rcases times_or d (-1) with h1 | h1
    · rw [h1] at h; simp at h
    · rw [h1]
      show IntKind.i64.wrap (d * -1) = -d
      rw [w64]; omega
theorem chk_mk {k r : List Val} {t : Tm} {d : Int} (h1 : checkRow k = 0) (h2 : checkRow r = 0) (h3 : chkT t = 0) : chkU ⟨k, r, t, d⟩ = 0 := chk_of h1 h2 h3
theorem bare_rt {u : Up} (h : chkU u = 0) : chkU u.bare = 0 := chk_mk chkRow0 (chkU_parts h).2.1 (chkU_parts h).2.2
theorem one_rt {k : Int} {ex : List E} {u : Up} (h : chkU u = 0) (hd : i64 u.d) : ∀ v ∈ (oneR k ex u).1, chkU v = 0 ∧ i64 v.d := by
  intro v hv
  have hb : chkU u.bare = 0 ∧ i64 u.bare.d := ⟨bare_rt h, hd⟩
  unfold oneR at hv
  split at hv
  · simp at hv; subst hv; exact hb
  · split at hv
    · unfold sevR at hv
      split at hv
      · simp at hv
      · split at hv
        · simp at hv
        · simp at hv; subst hv; exact hb
    · split at hv
      · simp at hv
      · split at hv
        · simp at hv
        · rename_i hbad
          obtain ⟨c, hc, rfl⟩ := List.mem_map.1 hv
          have h1 : checkRow c.r = 0 := by
            simp only [badC, List.any_eq_true, not_exists, not_and] at hbad
            have := hbad c hc
            simpa using this
          refine ⟨chk_mk chkRow0 h1 (chkU_parts h).2.2, ?_⟩
          show i64 c.n
          have : ∀ c ∈ (oneM k ex ⟨u.r, u.d⟩).1, i64 c.n := by
            intro c hc
            unfold oneM at hc
            repeat' split at hc
            all_goals simp at hc
            all_goals subst hc
            all_goals first | exact hd | exact times_i64 _ _
          exact this c hc
def mad1 (k : Int) (ex : List E) (us : List Up) : List Up := us.flatMap fun u => (oneR k ex u).1
theorem mad_fold (k : Int) (ex : List E) : ∀ (us : List Up) (a : List Up × Fa), (us.foldl (madS k ex) a).1 = a.1 ++ mad1 k ex us ∧ ((us.foldl (madS k ex) a).2.1 = false → a.2.1 = false ∧ ∀ u ∈ us, (oneR k ex u).2 = true)
  | [], a => by simp [mad1]
  | u :: us, a => by
    obtain ⟨h1, h2⟩ := mad_fold k ex us (madS k ex a u)
    rw [List.foldl_cons]
    refine ⟨by rw [h1]; simp [madS, mad1], fun h => ?_⟩
    obtain ⟨h3, h4⟩ := h2 h
    have hok : (oneR k ex u).2 = true := by
      cases hq : (oneR k ex u).2 with
      | true => rfl
      | false =>
        simp only [madS, hq, Bool.false_eq_true, if_false] at h3
        rw [note_flag] at h3
        simp at h3
    simp only [madS, hok, if_true] at h3
    exact ⟨h3, fun v hv => by rcases List.mem_cons.1 hv with rfl | hv; exact hok; exact h4 v hv⟩
theorem mad1_app (k : Int) (ex : List E) (a b : List Up) : mad1 k ex (a ++ b) = mad1 k ex a ++ mad1 k ex b := by simp [mad1]
theorem mad1_len (k : Int) (ex : List E) (us : List Up) : (mad1 k ex us).length ≤ us.length := by
  induction us with
  | nil => simp [mad1]
  | cons u us ih =>
    have h1 : (oneR k ex u).1.length ≤ 1 := by
      unfold oneR
      split
      · simp
      · split
        · unfold sevR
          split
          · simp
          · split <;> simp
        · split
          · simp
          · split
            · simp
            · rw [List.length_map]; exact oneM_len _ _ _
    have : mad1 k ex (u :: us) = (oneR k ex u).1 ++ mad1 k ex us := by simp [mad1]
    rw [this, List.length_append, List.length_cons]
    omega
/-- What a plan makes, if it makes it. -/
theorem do_ok {k : Int} {ex : List E} {us : List Up} (hg : gds us) (hl : us.length ≤ 4294967296) (h : (doR k ex us).2.2 = 0) :
    rts us ∧ (∀ u ∈ us, (oneR k ex u).2 = true) ∧ rts (mad1 k ex us) ∧ gds (mad1 k ex us) ∧ (consR [mad1 k ex us]).2 = 0 ∧ (doR k ex us).1 = (consR [mad1 k ex us]).1 := by
  unfold doR at h ⊢
  split at h
  · rename_i hc
    simp only at h
    rw [h] at hc
    exact absurd hc (by simp)
  · rename_i hc
    rw [if_neg hc]
    have hr : rts us := chkUs_iff.1 (by simpa using hc)
    split at h
    · rename_i hk
      rw [if_pos hk]
      obtain ⟨f1, f2⟩ := mad_fold k ex us ([], (false, Tm.zero))
      have e1 : (madL k ex us).1 = mad1 k ex us := by rw [madL, f1, List.nil_append]
      have hmr : rts (mad1 k ex us) ∧ gds (mad1 k ex us) := by
        constructor
        · intro v hv
          obtain ⟨u, hu, hv⟩ := List.mem_flatMap.1 hv
          exact (one_rt (hr u hu) (hg u hu) v hv).1
        · intro v hv
          obtain ⟨u, hu, hv⟩ := List.mem_flatMap.1 hv
          exact (one_rt (hr u hu) (hg u hu) v hv).2
      rw [e1] at h ⊢
      obtain ⟨d1, d2, d3⟩ := done_ok hmr.1 hmr.2 (Nat.le_trans (mad1_len k ex us) hl) h
      exact ⟨hr, (f2 d1).2, hmr.1, hmr.2, d2, d3⟩
    · simp at h
/-- Together, and one by one. -/
theorem parts_law {k : Int} {ex : List E} {a b : List Up} (ha : gds a) (hb : gds b) (la : a.length ≤ 1048576) (lb : b.length ≤ 1048576) (h1 : (doR k ex a).2.2 = 0) (h2 : (doR k ex b).2.2 = 0) (h3 : (doR k ex (a ++ b)).2.2 = 0) :
    (consR [(doR k ex a).1, (doR k ex b).1]).2 = 0 ∧ (consR [(doR k ex a).1, (doR k ex b).1]).1 = (doR k ex (a ++ b)).1 := by
  have hab : gds (a ++ b) := fun u hu => by rcases List.mem_append.1 hu with h | h; exact ha u h; exact hb u h
  obtain ⟨a1, a2, a3, a4, a5, a6⟩ := do_ok ha (by omega) h1
  obtain ⟨b1, b2, b3, b4, b5, b6⟩ := do_ok hb (by omega) h2
  obtain ⟨z1, z2, z3, z4, z5, z6⟩ := do_ok hab (by simp; omega) h3
  have la1 := mad1_len k ex a
  have lb1 := mad1_len k ex b
  have lz1 := mad1_len k ex (a ++ b)
  have A := cons_ok (ls := [mad1 k ex a]) (by rw [cat_one]; exact a4) (by rw [cat_one]; omega)
  have B := cons_ok (ls := [mad1 k ex b]) (by rw [cat_one]; exact b4) (by rw [cat_one]; omega)
  have Z := cons_ok (ls := [mad1 k ex (a ++ b)]) (by rw [cat_one]; exact z4) (by rw [cat_one, mad1_app]; simp; omega)
  rw [cat_one] at A B Z
  obtain ⟨EA, TA, _⟩ := A.2.1 a5
  obtain ⟨EB, TB, _⟩ := B.2.1 b5
  obtain ⟨EZ, TZ, _⟩ := Z.2.1 z5
  have lA := cons_len [mad1 k ex a]
  have lB := cons_len [mad1 k ex b]
  rw [cat_one] at lA lB
  rw [a6, b6, z6]
  generalize hX : (consR [mad1 k ex a]).1 = X at *
  generalize hY : (consR [mad1 k ex b]).1 = Y at *
  generalize hW : (consR [mad1 k ex (a ++ b)]).1 = W at *
  have hcat : cat [X, Y] = X ++ Y := by simp [cat]
  have hg : gds (cat [X, Y]) := by rw [hcat]; intro u hu; rcases List.mem_append.1 hu with h | h; exact EA.gd u h; exact EB.gd u h
  have hrt : rts (cat [X, Y]) := by rw [hcat]; intro u hu; rcases List.mem_append.1 hu with h | h; exact EA.rt u h; exact EB.rt u h
  have hT : ∀ r, T (cat [X, Y]) r = T (mad1 k ex (a ++ b)) r := by intro r; rw [hcat, T_app, TA, TB, mad1_app, T_app]
  have hin : ∀ u ∈ cat [X, Y], ∃ v ∈ mad1 k ex (a ++ b), cmpU v u = 0 := by
    intro u hu
    rw [hcat] at hu
    rw [mad1_app]
    rcases List.mem_append.1 hu with h | h
    · obtain ⟨v, hv, e1, e2, e3⟩ := A.2.2 u h
      exact ⟨v, List.mem_append_left _ hv, (cmpU_eq (a3 v hv) (EA.rt u h)).2 ⟨e1.symm, e2.symm, e3.symm⟩⟩
    · obtain ⟨v, hv, e1, e2, e3⟩ := B.2.2 u h
      exact ⟨v, List.mem_append_right _ hv, (cmpU_eq (b3 v hv) (EB.rt u h)).2 ⟨e1.symm, e2.symm, e3.symm⟩⟩
  have C := cons_ok (ls := [X, Y]) hg (by rw [hcat]; simp; omega)
  have hc0 : (consR [X, Y]).2 = 0 := C.1.2 ⟨hrt, fun u hu => by
    obtain ⟨v, hv, hc⟩ := hin u hu
    rw [hT, ← T_congr hc]
    exact (Z.1.1 z5).2 v hv⟩
  obtain ⟨EC, TC, _⟩ := C.2.1 hc0
  exact ⟨hc0, EC.ext EZ fun r => by rw [TC, hT, TZ]⟩
/-! ### twice -/
def negU (u : Up) : Up := ⟨[], u.r, u.t, -u.d⟩
theorem sum_map {P : Up → Bool} {f : Up → Up} (l : List Up) : sumP P Up.d (l.map f) = sumP (fun u => P (f u)) (fun u => (f u).d) l := by
  unfold sumP
  rw [List.filter_map, List.map_map]
  rfl
theorem sum_neg {P : Up → Bool} {nm : Up → Int} (l : List Up) : sumP P (fun u => - nm u) l = - sumP P nm l := by
  induction l with
  | nil => simp [sumP]
  | cons x l ih =>
    rw [sumP_cons, sumP_cons, ih]
    split <;> omega
theorem T_neg (l : List Up) (r : Up) : T (l.map negU) r = - T (l.map Up.bare) r := by
  unfold T
  rw [sum_map, sum_map]
  exact sum_neg (P := fun u => decide (cmpU r u.bare = 0)) (nm := Up.d) l
theorem one_neg {u : Up} (hd : i64 u.d) (h : (oneR 6 [] u).2 = true) : (oneR 6 [] u).1 = [negU u] := by
  have e : oneM 6 [] ⟨u.r, u.d⟩ = ([⟨u.r, (timesR u.d (-1)).1⟩], (timesR u.d (-1)).2) := rfl
  unfold oneR at h ⊢
  rw [e] at h ⊢
  simp only [show ((6 : Int) == 5) = false from rfl, show ((6 : Int) == 4) = false from rfl, Bool.false_and, Bool.false_eq_true, if_false] at h ⊢
  split at h
  · simp at h
  · rename_i hc
    rw [if_neg hc]
    split at h
    · simp at h
    · rename_i hb
      rw [if_neg hb]
      have h0 : (timesR u.d (-1)).2 = 0 := by simpa using hc
      simp only [List.map_cons, List.map_nil, Up.ofC, negU]
      rw [times_neg hd h0]
theorem mad_neg {us : List Up} (hd : gds us) (h : ∀ u ∈ us, (oneR 6 [] u).2 = true) : mad1 6 [] us = us.map negU := by
  induction us with
  | nil => rfl
  | cons u us ih =>
    have e : mad1 6 [] (u :: us) = (oneR 6 [] u).1 ++ mad1 6 [] us := by simp [mad1]
    rw [e, one_neg (hd u (by simp)) (h u (by simp)), ih (fun v hv => hd v (by simp [hv])) (fun v hv => h v (by simp [hv]))]
    rfl
theorem mad_bare (us : List Up) : mad1 5 [] us = us.map Up.bare := by
  induction us with
  | nil => rfl
  | cons u us ih =>
    have e : mad1 5 [] (u :: us) = (oneR 5 [] u).1 ++ mad1 5 [] us := by simp [mad1]
    rw [e, ih]
    rfl
theorem twice_law {l : List Up} (hg : gds l) (hl : l.length ≤ 1048576) (h1 : (doR 6 [] l).2.2 = 0) (h2 : (doR 6 [] (doR 6 [] l).1).2.2 = 0) (h3 : (doR 5 [] l).2.2 = 0) : (doR 6 [] (doR 6 [] l).1).1 = (doR 5 [] l).1 := by
  obtain ⟨a1, a2, a3, a4, a5, a6⟩ := do_ok hg (by omega) h1
  obtain ⟨c1, c2, c3, c4, c5, c6⟩ := do_ok hg (by omega) h3
  rw [mad_neg hg a2] at a3 a4 a5 a6
  rw [mad_bare] at c3 c4 c5 c6
  have A := cons_ok (ls := [l.map negU]) (by rw [cat_one]; exact a4) (by rw [cat_one]; simp; omega)
  have C := cons_ok (ls := [l.map Up.bare]) (by rw [cat_one]; exact c4) (by rw [cat_one]; simp; omega)
  rw [cat_one] at A C
  obtain ⟨EA, TA, _⟩ := A.2.1 a5
  obtain ⟨EC, TC, _⟩ := C.2.1 c5
  have lA := cons_len [l.map negU]
  rw [cat_one, List.length_map] at lA
  rw [a6] at h2 ⊢
  rw [c6]
  have hkey : ∀ u ∈ (consR [l.map negU]).1, u.k = [] := by
    intro u hu
    obtain ⟨v, hv, e1, _⟩ := A.2.2 u hu
    obtain ⟨w, _, rfl⟩ := List.mem_map.1 hv
    exact e1
  generalize hX : (consR [l.map negU]).1 = X at *
  obtain ⟨b1, b2, b3, b4, b5, b6⟩ := do_ok EA.gd (by omega) h2
  rw [mad_neg EA.gd b2] at b3 b4 b5 b6
  have hbare : X.map Up.bare = X := by
    have : ∀ u ∈ X, u.bare = u := by
      intro u hu
      have := hkey u hu
      obtain ⟨k, r, t, d⟩ := u
      simp only at this
      subst this
      rfl
    exact (List.map_congr_left this).trans (List.map_id' _)
  have B := cons_ok (ls := [X.map negU]) (by rw [cat_one]; exact b4) (by rw [cat_one]; simp; omega)
  rw [cat_one] at B
  obtain ⟨EB, TB, _⟩ := B.2.1 b5
  rw [b6]
  refine EB.ext EC fun r => ?_
  rw [TB, TC, T_neg, hbare, TA, T_neg]
  omega
/-! ### keys -/
theorem arr_ok {cols : List Int} {us : List Up} (h : (arrR cols us).2 = 0) : rts us ∧ (∀ u ∈ us, (colsR u.r cols).2 = 0) ∧ (consR [us.map (keyd cols)]).2 = 0 ∧ arrR cols us = consR [us.map (keyd cols)] := by
  unfold arrR at h ⊢
  split at h
  · rename_i hc
    simp only at h
    rw [h] at hc
    exact absurd hc (by simp)
  · rename_i hc
    rw [if_neg hc]
    split at h
    · rename_i hc2
      simp only at h
      rw [h] at hc2
      exact absurd hc2 (by simp)
    · rename_i hc2
      rw [if_neg hc2]
      have h3 : arrErr cols us = 0 := by simpa using hc2
      rw [arrErr, orI_zero] at h3
      exact ⟨chkUs_iff.1 (by simpa using hc), fun u hu => h3 _ (List.mem_map.2 ⟨u, hu, rfl⟩), h, rfl⟩
theorem cons_fail {ls : List (List Up)} (h : (consR ls).2 ≠ 0) : (consR ls).1 = [] := by
  unfold consR at h ⊢
  split
  · rfl
  · rename_i hc
    rw [if_neg hc] at h
    simp only at h ⊢
    rw [if_pos (by simpa using h)]
theorem arr_fail {cols : List Int} {us : List Up} (h : (arrR cols us).2 ≠ 0) : (arrR cols us).1 = [] := by
  unfold arrR at h ⊢
  split
  · rfl
  · rename_i hc
    rw [if_neg hc] at h
    split
    · rfl
    · rename_i hc2
      rw [if_neg hc2] at h
      exact cons_fail h
theorem cols_ok {row : List Val} {cols : List Int} (h : (colsR row cols).2 = 0) : (colsR row cols).1 = cols.map (colV2 row) ∧ ∀ c ∈ cols, offC row.length c = false := by
  unfold colsR at h ⊢
  split at h
  · rename_i hc
    simp only at h
    rw [h] at hc
    exact absurd hc (by simp)
  · rename_i hc
    rw [if_neg hc]
    split at h
    · simp at h
    · rename_i hc2
      rw [if_neg hc2]
      split at h
      · simp at h
      · rename_i hc3
        rw [if_neg hc3]
        refine ⟨rfl, fun c hm => ?_⟩
        simp only [List.any_eq_true, not_exists, not_and, Bool.not_eq_true] at hc2
        exact hc2 c hm
theorem check_cols {row : List Val} {cols : List Int} (h : (colsR row cols).2 = 0) : checkRow (colsR row cols).1 = 0 := by
  obtain ⟨h1, h2⟩ := cols_ok h
  have hrow : checkRow row = 0 := by
    unfold colsR at h
    split at h
    · rename_i hc; simp only at h; exact h
    · rename_i hc; simpa using hc
  have hlen : cols.length ≤ 8 := by
    unfold colsR at h
    split at h
    · rename_i hc; simp only at h; rw [h] at hc; exact absurd hc (by simp)
    · split at h
      · simp at h
      · split at h
        · simp at h
        · rename_i hc; simp at hc; omega
  rw [h1]
  have hr := row_right hrow
  have hall : ∀ v ∈ cols.map (colV2 row), v.right = true := by
    intro v hv
    obtain ⟨c, hc, rfl⟩ := List.mem_map.1 hv
    obtain ⟨k, rfl, hk⟩ := off_in (h2 c hc)
    refine hr _ ?_
    rw [colV2, Int.toNat_natCast, List.getD_eq_getElem?_getD, List.getElem?_eq_getElem hk]
    exact List.getElem_mem hk
  have hfb : ∀ (l : List Val) (i : Nat), (∀ v ∈ l, v.right = true) → firstBad l i = -1 := by
    intro l
    induction l with
    | nil => intro i _; rfl
    | cons x l ih =>
      intro i hv
      rw [firstBad, hv x (by simp)]
      simpa using ih (i + 1) fun v hv' => hv v (by simp [hv'])
  unfold checkRow badRow
  rw [hfb _ 0 hall, List.length_map]
  rw [if_neg]
  simp
  omega
theorem keyd_rt {cols : List Int} {us : List Up} (hr : rts us) (hc : ∀ u ∈ us, (colsR u.r cols).2 = 0) : rts (us.map (keyd cols)) := by
  intro v hv
  obtain ⟨u, hu, rfl⟩ := List.mem_map.1 hv
  exact chk_mk (check_cols (hc u hu)) (chkU_parts (hr u hu)).2.1 (chkU_parts (hr u hu)).2.2
theorem bare_cmp {x y : Up} (h : cmpU x y = 0) : cmpU x.bare y.bare = 0 := by
  rw [cmpU, orI_zero] at h ⊢
  simp only [List.mem_cons, List.not_mem_nil, or_false, forall_eq_or_imp, forall_eq] at h ⊢
  exact ⟨rfl, h.2.1, h.2.2⟩
/-- Arranged updates: their keys, and what they are without. -/
theorem keys_law {cols : List Int} {l : List Up} (hg : gds l) (hl : l.length ≤ 1048576) (h : (arrR cols l).2 = 0) :
    (∀ u ∈ (arrR cols l).1, u.k = cols.map (colV2 u.r) ∧ ∀ c ∈ cols, offC u.r.length c = false) ∧ Even (arrR cols l).1 ∧ (arrR cols l).1.length ≤ 1048576 ∧ ((doR 5 [] (arrR cols l).1).2.2 = 0 → (doR 5 [] l).2.2 = 0 → (doR 5 [] (arrR cols l).1).1 = (doR 5 [] l).1) := by
  obtain ⟨a1, a2, a3, a4⟩ := arr_ok h
  have hgk : gds (l.map (keyd cols)) := fun v hv => by obtain ⟨u, hu, rfl⟩ := List.mem_map.1 hv; exact hg u hu
  have A := cons_ok (ls := [l.map (keyd cols)]) (by rw [cat_one]; exact hgk) (by rw [cat_one]; simp; omega)
  rw [cat_one] at A
  obtain ⟨EA, TA, PA⟩ := A.2.1 a3
  have lA := cons_len [l.map (keyd cols)]
  rw [cat_one, List.length_map] at lA
  rw [a4]
  refine ⟨?_, EA, by omega, ?_⟩
  · intro u hu
    obtain ⟨v, hv, e1, e2, _⟩ := A.2.2 u hu
    obtain ⟨w, hw, rfl⟩ := List.mem_map.1 hv
    obtain ⟨q1, q2⟩ := cols_ok (a2 w hw)
    refine ⟨?_, ?_⟩
    · rw [e1, e2]; exact q1
    · rw [e2]; exact q2
  · intro h2 h3
    generalize hX : (consR [l.map (keyd cols)]).1 = X at *
    obtain ⟨b1, b2, b3, b4, b5, b6⟩ := do_ok EA.gd (by omega) h2
    obtain ⟨c1, c2, c3, c4, c5, c6⟩ := do_ok hg (by omega) h3
    rw [mad_bare] at b3 b4 b5 b6 c3 c4 c5 c6
    have B := cons_ok (ls := [X.map Up.bare]) (by rw [cat_one]; exact b4) (by rw [cat_one]; simp; omega)
    have C := cons_ok (ls := [l.map Up.bare]) (by rw [cat_one]; exact c4) (by rw [cat_one]; simp; omega)
    rw [cat_one] at B C
    obtain ⟨EB, TB, _⟩ := B.2.1 b5
    obtain ⟨EC, TC, _⟩ := C.2.1 c5
    rw [b6, c6]
    refine EB.ext EC fun r => ?_
    rw [TB, TC]
    unfold T
    rw [sum_map, sum_map]
    have h4 := PA (fun u => decide (cmpU r u.bare = 0)) (fun x y hxy => inv_P r _ _ (bare_cmp hxy))
    have h5 := sum_map (P := fun u => decide (cmpU r u.bare = 0)) (f := keyd cols) l
    rw [h5] at h4
    exact h4
end Go.Proofs
end
section
set_option linter.unusedVariables false
set_option linter.unusedSimpArgs false
namespace Go.Proofs
open Go.Flat
set_option linter.unusedVariables false
theorem pcs_sms : ∀ (n : Nat) (r o : List Up) (f : Fa), r.length ≤ n → Up.sms r → Up.sms o → Up.sms (pcs o f r).1 ∧ (pcs o f r).1.length ≤ o.length + r.length
  | _, [], o, f, _, _, h => by rw [pcs_nil]; exact ⟨h, by simp⟩
  | 0, x :: r, o, f, hn, _, _ => by simp at hn
  | n + 1, x :: r, o, f, hn, hr, ho => by
    rw [pcs]
    have hs : Up.sms (consR [x :: r.take (alk x r)]).1 := cons_sms fun l hl => by
      rw [List.mem_singleton] at hl
      rw [hl]
      intro u hu
      rcases List.mem_cons.1 hu with rfl | hu
      · exact hr _ (by simp)
      · exact hr u (List.mem_cons_of_mem _ (List.mem_of_mem_take hu))
    have hl := cons_len [x :: r.take (alk x r)]
    rw [cat_one] at hl
    have ho2 : Up.sms (o ++ (consR [x :: r.take (alk x r)]).1) := fun u hu => by
      rcases List.mem_append.1 hu with hu | hu
      · exact ho u hu
      · exact hs u hu
    obtain ⟨i1, i2⟩ := pcs_sms n (r.drop (alk x r)) _ (if (consR [x :: r.take (alk x r)]).2 != 0 then noteR f x.t else f) (by simp only [List.length_drop]; simp only [List.length_cons] at hn; omega) (fun u hu => hr u (List.mem_cons_of_mem _ (List.mem_of_mem_drop hu))) ho2
    refine ⟨i1, Nat.le_trans i2 ?_⟩
    have := alk_le x r
    simp only [List.length_append, List.length_drop, List.length_cons, List.length_take] at hl ⊢
    omega
theorem done_sms {f : Fa} {us : List Up} (h : Up.sms us) : Up.sms (finR3 (doneR f us)).1 ∧ (finR3 (doneR f us)).1.length ≤ us.length := by
  show Up.sms (doneR f us).1 ∧ (doneR f us).1.length ≤ us.length
  unfold doneR
  split
  · have hperm : (isrt (ltU cmpU) us).Perm us := isrt_perm _
    have := pcs_sms _ (isrt (ltU cmpU) us) [] f (Nat.le_refl _) (fun u hu => h u (hperm.mem_iff.1 hu)) (fun u hu => by simp at hu)
    rw [isrt_length] at this
    exact ⟨this.1, by simpa using this.2⟩
  · refine ⟨cons_sms fun l hl => by rw [List.mem_singleton] at hl; rw [hl]; exact h, ?_⟩
    have := cons_len [us]
    rw [cat_one] at this
    exact this
theorem doR_sms {k : Int} {ex : List E} (he : ex.length ≤ Bnd) {us : List Up} (h : Up.sms us) : Up.sms (doR k ex us).1 ∧ (doR k ex us).1.length ≤ us.length := by
  have h0 : Up.sms ([] : List Up) := fun v hv => by simp at hv
  unfold doR
  split
  · exact ⟨h0, Nat.zero_le _⟩
  · split
    · have h1 := mad_ok k he h us.length (Nat.le_refl _)
      rw [List.take_length] at h1
      obtain ⟨i1, i2⟩ := done_sms (f := (madL k ex us).2) h1.1
      exact ⟨i1, by omega⟩
    · exact ⟨h0, Nat.zero_le _⟩
theorem arr_sms {cols : List Int} (hc : cols.length ≤ Bnd) {us : List Up} (h : Up.sms us) : Up.sms (arrR cols us).1 ∧ (arrR cols us).1.length ≤ us.length := by
  have h0 : Up.sms ([] : List Up) := fun v hv => by simp at hv
  unfold arrR
  split
  · exact ⟨h0, Nat.zero_le _⟩
  · split
    · exact ⟨h0, Nat.zero_le _⟩
    · refine ⟨cons_sms fun l hl => ?_, ?_⟩
      · rw [List.mem_singleton] at hl
        rw [hl]
        intro u hu
        obtain ⟨v, hv, rfl⟩ := List.mem_map.1 hu
        exact ⟨Nat.le_trans (colsR_len v.r cols) hc, (h v hv).2⟩
      · have := cons_len [us.map (keyd cols)]
        rw [cat_one, List.length_map] at this
        exact this
end Go.Proofs
end
section
set_option linter.unusedVariables false
set_option linter.unusedSimpArgs false
namespace Go.Proofs
open Go.Flat
set_option maxRecDepth 100000
set_option linter.unusedSimpArgs false
set_option linter.unusedVariables false
attribute [local simp] Bool.and_assoc Bool.or_assoc evalG evalX efD skF guardG guardL isCall stepL evalOp ev evs lk tmpsL app AV.ok fresh vv putCells insV ins del putL place Go.Flat.look fillC fillR getCells loadF storeF binF scalarBin intBin strBin isShift shiftBin unF lenF maxF minF rowsF appendF builtinF idxF natOf sliceP sliceF optEv Flat.cut overwrite toPV toPVs constAV scalarC scalarCs AV.cells TI.isAgg allSome andAll scalarEq buildable Go.Flat.lim retQ resL resAll resOne PartOf noTmp closedIn refs refs.refsL isSomeV hasB ids leA leA.leL renA renA.renL callB refsAll backL dropIds renS LiesAt injB ownB freshB memN locId insAll leA_refl leL_refl okS frzS frzA frzA.frzL evalD feet fine updCells cellsFrom memP footRf footWf noTmpU updIds opOps opIds idsA footR footW guardTs opTs dstTs callR callW renLoc renC inBlockQ thenQ Value.oneCell' IntKind.bits IntKind.signed

attribute [local simp] Up.row Up.av Tm.av Tm.zero Pl.av irow lv0 lv1 lv2 lvA lvB lvV Val.row in
set_option maxHeartbeats 2000000 in
theorem spec43  : Flat.Sp Try.prog 43 [] [] (vv (.bool true)) [] := by
  refine sk Try.func43 ?_
  intro F G hn hG
  have s1 : Up.sms [lv0] := fun u hu => lvs u (by simp at hu; simp [hu])
  have hA : Flat.Sp Try.prog 44 [(Pl.mk 6 0 [] [] [] [] 0 0).av, .p (.ps [lv0.row])] [] (.tup [.p (.ps [lvA.row]), Tm.zero.av, vv (.int .i64 0)]) [] := by have h := spec44 6 0 [] [] [] [] 0 0 (Nat.zero_le _) [lv0] (by decide) s1; rw [liv_a] at h; exact h
  have hF : Flat.Sp Try.prog 44 [(Pl.mk 0 0 [] [] [] [] 0 0).av, .p (.ps [lv0.row])] [] (.tup [.p (.ps []), Tm.zero.av, vv (.int .i64 4)]) [] := by have h := spec44 0 0 [] [] [] [] 0 0 (Nat.zero_le _) [lv0] (by decide) s1; rw [liv_f] at h; exact h
  have hB : Flat.Sp Try.prog 47 [.p (.ps [irow 0]), .p (.ps [lv0.row])] [] (.tup [.p (.ps [lvB.row]), vv (.int .i64 0)]) [] := by have h := spec47 [0] (by decide) [lv0] (by decide) s1; rw [liv_b] at h; exact h
  have hC : Flat.Sp Try.prog 49 [vv (.int .i64 0), vv (.int .i64 3), .p (.ps [lv0.row])] [] (.tup [.p (.ps [lv0.row, lv1.row]), Tm.zero.av, vv (.int .i64 0)]) [] := by have h := spec49_0 3 [lv0] (by decide) s1 (by rw [ref_of liv_chk0 (by decide)]; rfl); rw [liv_c] at h; exact h
  have hD := spec79 (by rw [ref_of liv_chk01 (by decide)]; rfl) [lv2] liv_d
  have hE : Flat.Sp Try.prog 51 [vv (.int .i64 0), .p (.ps [lv0.row, lv1.row])] [] (.tup [.p (.ps []), Tm.zero.av, vv (.int .i64 0)]) [] := by have h := spec51_0 [lv0, lv1] (by decide) lvs (by rw [ref_of liv_chk01 (by decide)]; rfl); rw [liv_e] at h; exact h
  refine sq ?_
  refine rg 1000 ?_
  refine pr [0, 1, 2, 3, 4, 5, 6, 7, 8, 9, 10, 11, 12, 13, 14, 16, 17, 18, 19, 20, 21, 22, 23, 24, 25, 26, 27, 28, 29, 30, 31, 32, 33, 34, 35, 36, 37, 38, 39, 40, 41, 42, 43, 44, 45, 46, 47, 48, 49, 50, 51, 52, 53, 54, 55, 56, 57, 58, 59, 60, 61, 62, 63, 64, 65, 66, 67, 68, 69, 70, 71, 72, 73, 74, 75, 76, 77, 78, 79, 80, 81, 82, 83, 84, 85, 86, 87, 88, 89, 90, 91, 92, 93, 94, 95, 96, 97, 98, 99, 100, 101, 102, 103, 104, 105, 106, 107, 108, 109, 110, 111, 112, 113, 114, 115, 116, 117, 118, 119, 120, 121, 122, 123, 124, 125, 126, 127, 128, 129, 130] ?_
  refine sq ?_
  refine rc 2000 ?_
  refine oc id (spec78 1) ?_
  refine oe 2100 ?_
  refine on ?_
  refine pr [0, 1, 2, 3, 4, 5, 6, 7, 8, 9, 10, 11, 12, 13, 14, 16, 17, 21, 22, 23, 24, 25, 26, 27, 28, 29, 30, 31, 32, 33, 34, 35, 36, 37, 38, 39, 40, 41, 42, 43, 44, 45, 46, 47, 48, 49, 50, 51, 52, 53, 54, 55, 56, 57, 58, 59, 60, 61, 62, 63, 64, 65, 66, 67, 68, 69, 70, 71, 72, 73, 74, 75, 76, 77, 78, 79, 80, 81, 82, 83, 84, 85, 86, 87, 88, 89, 90, 91, 92, 93, 94, 95, 96, 97, 98, 99, 100, 101, 102, 103, 104, 105, 106, 107, 108, 109, 110, 111, 112, 113, 114, 115, 116, 117, 118, 119, 120, 121, 122, 123, 124, 125, 126, 127, 128, 129, 130] ?_
  refine sq ?_
  refine rc 3000 ?_
  refine oc id (hA) ?_
  refine oe 3100 ?_
  refine on ?_
  refine pr [0, 1, 2, 4, 5, 6, 7, 8, 9, 10, 11, 12, 13, 14, 16, 17, 28, 29, 30, 31, 32, 33, 34, 35, 36, 37, 38, 39, 40, 41, 42, 43, 44, 45, 46, 47, 48, 49, 50, 51, 52, 53, 54, 55, 56, 57, 58, 59, 60, 61, 62, 63, 64, 65, 66, 67, 68, 69, 70, 71, 72, 73, 74, 75, 76, 77, 78, 79, 80, 81, 82, 83, 84, 85, 86, 87, 88, 89, 90, 91, 92, 93, 94, 95, 96, 97, 98, 99, 100, 101, 102, 103, 104, 105, 106, 107, 108, 109, 110, 111, 112, 113, 114, 115, 116, 117, 118, 119, 120, 121, 122, 123, 124, 125, 126, 127, 128, 129, 130] ?_
  refine sq ?_
  refine rc 4000 ?_
  refine oc id (hB) ?_
  refine oe 4100 ?_
  refine on ?_
  refine pr [0, 1, 2, 4, 5, 6, 7, 8, 9, 10, 11, 12, 13, 14, 16, 17, 34, 35, 36, 37, 38, 39, 40, 41, 42, 43, 44, 45, 46, 47, 48, 49, 50, 51, 52, 53, 54, 55, 56, 57, 58, 59, 60, 61, 62, 63, 64, 65, 66, 67, 68, 69, 70, 71, 72, 73, 74, 75, 76, 77, 78, 79, 80, 81, 82, 83, 84, 85, 86, 87, 88, 89, 90, 91, 92, 93, 94, 95, 96, 97, 98, 99, 100, 101, 102, 103, 104, 105, 106, 107, 108, 109, 110, 111, 112, 113, 114, 115, 116, 117, 118, 119, 120, 121, 122, 123, 124, 125, 126, 127, 128, 129, 130] ?_
  refine sq ?_
  refine rc 5000 ?_
  refine oc id (hC) ?_
  refine oe 5100 ?_
  refine on ?_
  refine pr [0, 1, 2, 4, 5, 6, 7, 9, 10, 11, 12, 13, 14, 16, 17, 40, 41, 42, 43, 44, 45, 46, 47, 48, 49, 50, 51, 52, 53, 54, 55, 56, 57, 58, 59, 60, 61, 62, 63, 64, 65, 66, 67, 68, 69, 70, 71, 72, 73, 74, 75, 76, 77, 78, 79, 80, 81, 82, 83, 84, 85, 86, 87, 88, 89, 90, 91, 92, 93, 94, 95, 96, 97, 98, 99, 100, 101, 102, 103, 104, 105, 106, 107, 108, 109, 110, 111, 112, 113, 114, 115, 116, 117, 118, 119, 120, 121, 122, 123, 124, 125, 126, 127, 128, 129, 130] ?_
  refine sq ?_
  refine rc 6000 ?_
  refine oc id (hD) ?_
  refine oe 6100 ?_
  refine on ?_
  refine pr [0, 1, 2, 4, 5, 6, 7, 9, 10, 11, 12, 13, 14, 16, 17, 45, 46, 47, 48, 49, 50, 51, 52, 53, 54, 55, 56, 57, 58, 59, 60, 61, 62, 63, 64, 65, 66, 67, 68, 69, 70, 71, 72, 73, 74, 75, 76, 77, 78, 79, 80, 81, 82, 83, 84, 85, 86, 87, 88, 89, 90, 91, 92, 93, 94, 95, 96, 97, 98, 99, 100, 101, 102, 103, 104, 105, 106, 107, 108, 109, 110, 111, 112, 113, 114, 115, 116, 117, 118, 119, 120, 121, 122, 123, 124, 125, 126, 127, 128, 129, 130] ?_
  refine sq ?_
  refine rc 7000 ?_
  refine oc id (hE) ?_
  refine oe 7100 ?_
  refine on ?_
  refine pr [0, 1, 2, 4, 5, 6, 7, 9, 10, 11, 12, 14, 16, 17, 51, 52, 53, 54, 55, 56, 57, 58, 59, 60, 61, 62, 63, 64, 65, 66, 67, 68, 69, 70, 71, 72, 73, 74, 75, 76, 77, 78, 79, 80, 81, 82, 83, 84, 85, 86, 87, 88, 89, 90, 91, 92, 93, 94, 95, 96, 97, 98, 99, 100, 101, 102, 103, 104, 105, 106, 107, 108, 109, 110, 111, 112, 113, 114, 115, 116, 117, 118, 119, 120, 121, 122, 123, 124, 125, 126, 127, 128, 129, 130] ?_
  refine sq ?_
  refine rc 8000 ?_
  refine oc id (hF) ?_
  refine oe 8100 ?_
  refine on ?_
  refine pr [0, 2, 4, 5, 6, 7, 9, 10, 11, 12, 14, 17, 58, 59, 60, 61, 62, 63, 64, 65, 66, 67, 68, 69, 70, 71, 72, 73, 74, 75, 76, 77, 78, 79, 80, 81, 82, 83, 84, 85, 86, 87, 88, 89, 90, 91, 92, 93, 94, 95, 96, 97, 98, 99, 100, 101, 102, 103, 104, 105, 106, 107, 108, 109, 110, 111, 112, 113, 114, 115, 116, 117, 118, 119, 120, 121, 122, 123, 124, 125, 126, 127, 128, 129, 130] ?_
  refine sq ?_
  refine rc 9000 ?_
  iterate 5 (first | refine gp 9450 ?_ | refine os ?_ | refine gt 9450 ?_)
  refine oe 9500 ?_
  iterate 2 (first | refine gp 9650 ?_ | refine os ?_ | refine gt 9650 ?_)
  refine oe 9700 ?_
  iterate 3 (first | refine gp 9950 ?_ | refine os ?_ | refine gt 9950 ?_)
  refine oe 10000 ?_
  iterate 8 (first | refine gp 10750 ?_ | refine os ?_ | refine gt 10750 ?_)
  refine oe 10800 ?_
  iterate 2 (first | refine gp 10950 ?_ | refine os ?_ | refine gt 10950 ?_)
  refine oe 11000 ?_
  iterate 3 (first | refine gp 11250 ?_ | refine os ?_ | refine gt 11250 ?_)
  refine oe 11300 ?_
  iterate 7 (first | refine gp 11950 ?_ | refine os ?_ | refine gt 11950 ?_)
  refine oe 12000 ?_
  iterate 2 (first | refine gp 12150 ?_ | refine os ?_ | refine gt 12150 ?_)
  refine oe 12200 ?_
  iterate 3 (first | refine gp 12450 ?_ | refine os ?_ | refine gt 12450 ?_)
  refine oe 12500 ?_
  iterate 2 (first | refine gp 12650 ?_ | refine os ?_ | refine gt 12650 ?_)
  refine oe 12700 ?_
  iterate 3 (first | refine gp 12950 ?_ | refine os ?_ | refine gt 12950 ?_)
  refine oe 13000 ?_
  iterate 2 (first | refine gp 13150 ?_ | refine os ?_ | refine gt 13150 ?_)
  refine oe 13200 ?_
  iterate 2 (first | refine gp 13350 ?_ | refine os ?_ | refine gt 13350 ?_)
  refine oe 13400 ?_
  refine on ?_
  refine pr [0] ?_
  refine k_ret ?_
  show retQ _ _ _ _ _ _ _
  simp [*]

end Go.Proofs
end
section
set_option linter.unusedVariables false
set_option linter.unusedSimpArgs false
namespace Go.Proofs
open Go.Flat
set_option maxRecDepth 100000
set_option linter.unusedSimpArgs false
set_option linter.unusedVariables false
attribute [local simp] Bool.and_assoc Bool.or_assoc evalG evalX efD skF guardG guardL isCall stepL evalOp ev evs lk tmpsL app AV.ok fresh vv putCells insV ins del putL place Go.Flat.look fillC fillR getCells loadF storeF binF scalarBin intBin strBin isShift shiftBin unF lenF maxF minF rowsF appendF builtinF idxF natOf sliceP sliceF optEv Flat.cut overwrite toPV toPVs constAV scalarC scalarCs AV.cells TI.isAgg allSome andAll scalarEq buildable Go.Flat.lim retQ resL resAll resOne PartOf noTmp closedIn refs refs.refsL isSomeV hasB ids leA leA.leL renA renA.renL callB refsAll backL dropIds renS LiesAt injB ownB freshB memN locId insAll leA_refl leL_refl okS frzS frzA frzA.frzL evalD feet fine updCells cellsFrom memP footRf footWf noTmpU updIds opOps opIds idsA footR footW guardTs opTs dstTs callR callW renLoc renC inBlockQ thenQ Value.oneCell' IntKind.bits IntKind.signed

def KeyOK (cols : List Int) (u : Up) : Prop := u.k = cols.map (colV2 u.r) ∧ ∀ c ∈ cols, offC u.r.length c = false
theorem KeyOK.len {cols : List Int} {u : Up} (h : KeyOK cols u) : u.k.length = cols.length := by rw [h.1, List.length_map]
theorem KeyOK.at_ {cols : List Int} {u : Up} (h : KeyOK cols u) {j : Nat} {y : Int} {v : Val} (hy : cols[j]? = some y) (hv : colV2 u.r y = v) : u.k[j]? = some v := by rw [h.1, List.getElem?_map, hy, ← hv]; rfl

attribute [local simp] Pl.av Tm.av lrow sameUs in
set_option maxHeartbeats 1000000 in
theorem spec16 (k m : Int) (kids : List Pl) (ex : List E) (cols wth : List Int) (agg rds : Int) (he : ex.length ≤ Bnd) (xs ys : List Up) (hx : xs.length ≤ Bnd) (hy : ys.length ≤ Bnd) (sx : Up.sms xs) (sy : Up.sms ys) (gx : gds xs) (gy : gds ys) : Flat.Sp Try.prog 16 [(Pl.mk k m kids ex cols wth agg rds).av, .p (.ps (xs.map Up.row)), .p (.ps (ys.map Up.row))] [] (vv (.bool true)) [] := by
  refine sk Try.func16 ?_
  intro F G hn hG
  have hcap : Cap ≤ Flat.lim := by decide
  have hcap2 : Cap = 1073741824 := rfl
  have hb4 : 4 * Bnd = 4194304 := rfl
  have hb1 : Bnd = 1048576 := rfl
  have hlm : Flat.lim = 140737488355328 := rfl
  have sxy : Up.sms (xs ++ ys) := fun u hu => by rcases List.mem_append.1 hu with h | h; exact sx u h; exact sy u h
  obtain ⟨ax, al⟩ := doR_sms (k := k) he sx
  obtain ⟨bx, bl⟩ := doR_sms (k := k) he sy
  obtain ⟨zx, zl⟩ := doR_sms (k := k) he sxy
  rw [List.length_append] at zl
  have h44 := spec44 k m kids ex cols wth agg rds he xs (by omega) sx
  have h44b := spec44 k m kids ex cols wth agg rds he ys (by omega) sy
  have h44c := spec44 k m kids ex cols wth agg rds he (xs ++ ys) (by simp; omega) sxy
  have hlaw := parts_law (k := k) (ex := ex) gx gy (by omega) (by omega)
  generalize doR k ex xs = A at *
  generalize doR k ex ys = B at *
  generalize doR k ex (xs ++ ys) = Z at *
  obtain ⟨a1, ⟨ae, aa, ab⟩, a3⟩ := A
  obtain ⟨b1, ⟨be, ba, bb⟩, b3⟩ := B
  obtain ⟨z1, ⟨ze, za, zb⟩, z3⟩ := Z
  simp only at ax al bx bl zx zl hlaw h44 h44b h44c
  have hl1 : (xs.length + ys.length) * 80 ≤ 140737488355328 := by omega
  have hl2 : xs.length + ys.length ≤ 140737488355328 := by omega
  have hl3 : xs.length * 80 ≤ 140737488355328 := by omega
  have hl4 : xs.length ≤ 140737488355328 := by omega
  refine sq ?_
  refine rg 1000 ?_
  refine pr [1, 2, 3, 6, 7, 8, 9, 10, 11, 12, 13, 14, 15, 16, 17, 18, 19, 20, 21, 22, 23, 24, 25, 26, 27, 28, 29, 30, 31, 32, 33, 34, 35, 36, 37, 38, 39, 40, 41, 42, 43, 44, 45, 46, 47, 48, 49, 50, 51, 52, 53, 54, 55, 56, 57, 58, 59, 60, 61, 62, 63, 64, 65, 66, 67, 68] ?_
  refine sq ?_
  refine sq ?_
  refine rc 2000 ?_
  refine oc id (spec43) ?_
  refine oe 2100 ?_
  refine on ?_
  refine pr [1, 2, 3, 6, 7, 8, 9, 10, 11, 12, 13, 14, 15, 16, 17, 19, 20, 21, 22, 23, 24, 25, 26, 27, 28, 29, 30, 31, 32, 33, 34, 35, 36, 37, 38, 39, 40, 41, 42, 43, 44, 45, 46, 47, 48, 49, 50, 51, 52, 53, 54, 55, 56, 57, 58, 59, 60, 61, 62, 63, 64, 65, 66, 67, 68] ?_
  refine ce ?_
  refine k_skip ?_
  refine sq ?_
  refine rc 4000 ?_
  refine oc id (h44) ?_
  refine oe 4100 ?_
  refine on ?_
  refine pr [1, 2, 3, 6, 7, 9, 10, 11, 12, 13, 14, 15, 16, 17, 27, 28, 29, 30, 31, 32, 33, 34, 35, 36, 37, 38, 39, 40, 41, 42, 43, 44, 45, 46, 47, 48, 49, 50, 51, 52, 53, 54, 55, 56, 57, 58, 59, 60, 61, 62, 63, 64, 65, 66, 67, 68] ?_
  refine sq ?_
  refine rc 5000 ?_
  refine oc id (h44b) ?_
  refine oe 5100 ?_
  refine on ?_
  refine pr [1, 2, 3, 6, 7, 9, 10, 12, 13, 14, 15, 16, 17, 34, 35, 36, 37, 38, 39, 40, 41, 42, 43, 44, 45, 46, 47, 48, 49, 50, 51, 52, 53, 54, 55, 56, 57, 58, 59, 60, 61, 62, 63, 64, 65, 66, 67, 68] ?_
  refine sq ?_
  refine dr ?_
  refine dt 6000 ?_
  refine dt 6001 ?_
  refine dt 6002 ?_
  refine dt 6003 ?_
  refine dt 6004 ?_
  refine dpub 6005 ?_
  refine dc id h44c ?_
  refine de 6100 ?_
  refine dn ?_
  refine pr [6, 7, 9, 10, 12, 13, 15, 16, 17, 45, 46, 47, 48, 49, 50, 51, 52, 53, 54, 55, 56, 57, 58, 59, 60, 61, 62, 63, 64, 65, 66, 67, 68] ?_
  refine sq ?_
  refine sq ?_
  refine rc 7000 ?_
  iterate 2 (first | refine gp 7150 ?_ | refine os ?_ | refine gt 7150 ?_)
  refine oe 7200 ?_
  iterate 2 (first | refine gp 7350 ?_ | refine os ?_ | refine gt 7350 ?_)
  refine oe 7400 ?_
  refine on ?_
  refine pr [6, 7, 10, 13, 16, 17, 54, 55, 56, 57, 58, 59, 60, 61, 62, 63, 64, 65, 66, 67, 68] ?_
  refine cd ?_ ?_
  · intro h54_1
    refine sq ?_
    refine rg 8000 ?_
    refine pr [6, 7, 10, 13, 16, 17, 55, 56, 57, 58, 59, 60, 61, 62, 63, 64, 65, 66, 67, 68] ?_
    refine k_ret ?_
    show retQ _ _ _ _ _ _ _
    simp [*]
  · intro h54_1
    have h54_1q : (a3 != 0 || (b3 != 0 || z3 != 0)) = false := h54_1
    simp only [Bool.or_eq_false_iff] at h54_1q
    have q1 : a3 = 0 := by simpa using h54_1q.1
    have q2 : b3 = 0 := by simpa using h54_1q.2.1
    have q3 : z3 = 0 := by simpa using h54_1q.2.2
    obtain ⟨hc0, hc1⟩ := hlaw q1 q2 q3
    have hcs : Up.sms (consR [a1, b1]).1 := cons_sms (by intro l hl; simp at hl; rcases hl with rfl | rfl; exact ax; exact bx)
    have h46 := spec46 z1 z1 (by omega) (by omega) zx zx
    have hs1 : sameBy sameU z1 z1 = true := (sameUs_iff z1 z1).2 rfl
    rw [hs1] at h46
    refine k_skip ?_
    refine sq ?_
    refine rc 9000 ?_
    refine oc id (spec45 [a1, b1] (by simp [Cap]) (by simp [cat]; omega) (by intro l hl; simp at hl; rcases hl with rfl | rfl; exact ax; exact bx)) ?_
    refine oe 9100 ?_
    refine on ?_
    refine pr [6, 13, 16, 17, 62, 63, 64, 65, 66, 67, 68] ?_
    refine sq ?_
    refine rc 10000 ?_
    iterate 2 (first | refine gp 10150 ?_ | refine os ?_ | refine gt 10150 ?_)
    refine oc id (h46) ?_
    refine oe 10300 ?_
    refine on ?_
    refine pr [6] ?_
    refine k_ret ?_
    show retQ _ _ _ _ _ _ _
    simp [*]

attribute [local simp] Pl.av Tm.av sameUs in
set_option maxHeartbeats 1000000 in
theorem spec17 (xs : List Up) (hx : xs.length ≤ Bnd) (sx : Up.sms xs) (gx : gds xs) : Flat.Sp Try.prog 17 [.p (.ps (xs.map Up.row))] [] (vv (.bool true)) [] := by
  refine sk Try.func17 ?_
  intro F G hn hG
  have hcap : Cap ≤ Flat.lim := by decide
  have hcap2 : Cap = 1073741824 := rfl
  have hb4 : 4 * Bnd = 4194304 := rfl
  have hb1 : Bnd = 1048576 := rfl
  have hlm : Flat.lim = 140737488355328 := rfl
  have he : ([] : List E).length ≤ Bnd := Nat.zero_le _
  obtain ⟨ax, al⟩ := doR_sms (k := 6) he sx
  obtain ⟨bx, bl⟩ := doR_sms (k := 6) he ax
  obtain ⟨cx, cl⟩ := doR_sms (k := 5) he sx
  have h44 := spec44 6 0 [] [] [] [] 0 0 he xs (by omega) sx
  have h44b := spec44 6 0 [] [] [] [] 0 0 he (doR 6 [] xs).1 (by omega) ax
  have h44c := spec44 5 0 [] [] [] [] 0 0 he xs (by omega) sx
  have hlaw := twice_law gx (by omega)
  generalize doR 6 [] (doR 6 [] xs).1 = B at *
  generalize doR 6 [] xs = A at *
  generalize doR 5 [] xs = C at *
  obtain ⟨a1, ⟨ae, aa, ab⟩, a3⟩ := A
  obtain ⟨b1, ⟨be, ba, bb⟩, b3⟩ := B
  obtain ⟨c1, ⟨te, ta, tb⟩, c3⟩ := C
  simp only at ax al bx bl cx cl hlaw h44 h44b h44c
  refine sq ?_
  refine rg 1000 ?_
  refine pr [0, 2, 3, 4, 5, 6, 7, 8, 9, 10, 11, 12, 13, 14, 15, 16, 17, 18, 19, 20, 21, 22, 23, 24, 25, 26, 27, 28, 29, 30, 31, 32, 33, 34, 35, 36, 37, 38, 39, 40, 41, 42, 43, 44, 45, 46, 47, 48, 49] ?_
  refine sq ?_
  refine sq ?_
  refine rc 2000 ?_
  refine oc id (spec43) ?_
  refine oe 2100 ?_
  refine on ?_
  refine pr [0, 2, 3, 4, 5, 6, 7, 8, 9, 10, 11, 13, 14, 15, 16, 17, 18, 19, 20, 21, 22, 23, 24, 25, 26, 27, 28, 29, 30, 31, 32, 33, 34, 35, 36, 37, 38, 39, 40, 41, 42, 43, 44, 45, 46, 47, 48, 49] ?_
  refine ce ?_
  refine k_skip ?_
  refine sq ?_
  refine rc 4000 ?_
  refine oc id (h44) ?_
  refine oe 4100 ?_
  refine on ?_
  refine pr [0, 2, 3, 5, 6, 7, 8, 9, 10, 11, 21, 22, 23, 24, 25, 26, 27, 28, 29, 30, 31, 32, 33, 34, 35, 36, 37, 38, 39, 40, 41, 42, 43, 44, 45, 46, 47, 48, 49] ?_
  refine sq ?_
  refine rc 5000 ?_
  refine oc id (h44b) ?_
  refine oe 5100 ?_
  refine on ?_
  refine pr [0, 2, 5, 6, 8, 9, 10, 11, 28, 29, 30, 31, 32, 33, 34, 35, 36, 37, 38, 39, 40, 41, 42, 43, 44, 45, 46, 47, 48, 49] ?_
  refine sq ?_
  refine rc 6000 ?_
  refine oc id (h44c) ?_
  refine oe 6100 ?_
  refine on ?_
  refine pr [2, 5, 6, 8, 9, 11, 35, 36, 37, 38, 39, 40, 41, 42, 43, 44, 45, 46, 47, 48, 49] ?_
  refine sq ?_
  refine cv [(.tmp 2, vv (.bool true))] ?_ ?_
  · skip
    rcases q1 : (a3 != 0 : Bool) with _ | _
    · skip
      rcases q2 : (b3 != 0 : Bool) with _ | _
      · skip
        rcases q3 : (c3 != 0 : Bool) with _ | _
        · skip
          have hbc : b1 = c1 := hlaw (by simpa using q1) (by simpa using q2) (by simpa using q3)
          subst hbc
          have h46 := spec46 b1 b1 (by omega) (by omega) bx bx
          have hs1 : sameBy sameU b1 b1 = true := (sameUs_iff b1 b1).2 rfl
          rw [hs1] at h46
          refine rc 7000 ?_ (h := by simp [*, q1, q2, q3]; exact is_rfl _)
          iterate 2 (first | refine gp 7150 ?_ (he := by intro hgg; (try simp only [Bool.and_eq_true] at hgg); simp [*, q1, q2, q3]; exact is_rfl _) | refine os ?_ | refine gt 7150 ?_ (he := by simp [*, q1, q2, q3]; exact is_rfl _))
          refine oe 7200 ?_ (h := by simp [*, q1, q2, q3]; exact is_rfl _)
          iterate 2 (first | refine gp 7350 ?_ (he := by intro hgg; (try simp only [Bool.and_eq_true] at hgg); simp [*, q1, q2, q3]; exact is_rfl _) | refine os ?_ | refine gt 7350 ?_ (he := by simp [*, q1, q2, q3]; exact is_rfl _))
          refine oe 7400 ?_ (h := by simp [*, q1, q2, q3]; exact is_rfl _)
          iterate 2 (first | refine gp 7550 ?_ (he := by intro hgg; (try simp only [Bool.and_eq_true] at hgg); simp [*, q1, q2, q3]; exact is_rfl _) | refine os ?_ | refine gt 7550 ?_ (he := by simp [*, q1, q2, q3]; exact is_rfl _))
          refine oc id (h46) ?_ (hg := by simp [*, q1, q2, q3]) (hf := by simp [*, q1, q2, q3]; exact is_rfl _) (hx := by simp [*, q1, q2, q3]; exact is_rfl _) (hargs := by simp [*, q1, q2, q3]) (hB := by simp [*, q1, q2, q3]) (hL := by simp [*, q1, q2, q3]) (hd := by simp [*, q1, q2, q3]; exact is_rfl _)
          refine oe 7700 ?_ (h := by simp [*, q1, q2, q3]; exact is_rfl _)
          refine on ?_
          refine k_nil ?_
          refine ⟨rfl, ?_, ?_, ?_⟩ <;> simp [*, q1, q2, q3]
        · skip
          refine rc 1007000 ?_ (h := by simp [*, q1, q2, q3]; exact is_rfl _)
          iterate 2 (first | refine gp 1007150 ?_ (he := by intro hgg; (try simp only [Bool.and_eq_true] at hgg); simp [*, q1, q2, q3]; exact is_rfl _) | refine os ?_ | refine gt 1007150 ?_ (he := by simp [*, q1, q2, q3]; exact is_rfl _))
          refine oe 1007200 ?_ (h := by simp [*, q1, q2, q3]; exact is_rfl _)
          iterate 2 (first | refine gp 1007350 ?_ (he := by intro hgg; (try simp only [Bool.and_eq_true] at hgg); simp [*, q1, q2, q3]; exact is_rfl _) | refine os ?_ | refine gt 1007350 ?_ (he := by simp [*, q1, q2, q3]; exact is_rfl _))
          refine oe 1007400 ?_ (h := by simp [*, q1, q2, q3]; exact is_rfl _)
          iterate 2 (first | refine gp 1007550 ?_ (he := by intro hgg; (try simp only [Bool.and_eq_true] at hgg); simp [*, q1, q2, q3]; exact is_rfl _) | refine os ?_ | refine gt 1007550 ?_ (he := by simp [*, q1, q2, q3]; exact is_rfl _))
          refine os ?_
          refine oe 1007700 ?_ (h := by simp [*, q1, q2, q3]; exact is_rfl _)
          refine on ?_
          refine k_nil ?_
          refine ⟨rfl, ?_, ?_, ?_⟩ <;> simp [*, q1, q2, q3]
      · skip
        refine rc 2007000 ?_ (h := by simp [*, q1, q2]; exact is_rfl _)
        iterate 2 (first | refine gp 2007150 ?_ (he := by intro hgg; (try simp only [Bool.and_eq_true] at hgg); simp [*, q1, q2]; exact is_rfl _) | refine os ?_ | refine gt 2007150 ?_ (he := by simp [*, q1, q2]; exact is_rfl _))
        refine oe 2007200 ?_ (h := by simp [*, q1, q2]; exact is_rfl _)
        iterate 2 (first | refine gp 2007350 ?_ (he := by intro hgg; (try simp only [Bool.and_eq_true] at hgg); simp [*, q1, q2]; exact is_rfl _) | refine os ?_ | refine gt 2007350 ?_ (he := by simp [*, q1, q2]; exact is_rfl _))
        refine oe 2007400 ?_ (h := by simp [*, q1, q2]; exact is_rfl _)
        iterate 2 (first | refine gp 2007550 ?_ (he := by intro hgg; (try simp only [Bool.and_eq_true] at hgg); simp [*, q1, q2]; exact is_rfl _) | refine os ?_ | refine gt 2007550 ?_ (he := by simp [*, q1, q2]; exact is_rfl _))
        refine os ?_
        refine oe 2007700 ?_ (h := by simp [*, q1, q2]; exact is_rfl _)
        refine on ?_
        refine k_nil ?_
        refine ⟨rfl, ?_, ?_, ?_⟩ <;> simp [*, q1, q2]
    · skip
      refine rc 3007000 ?_ (h := by simp [*, q1]; exact is_rfl _)
      iterate 2 (first | refine gp 3007150 ?_ (he := by intro hgg; (try simp only [Bool.and_eq_true] at hgg); simp [*, q1]; exact is_rfl _) | refine os ?_ | refine gt 3007150 ?_ (he := by simp [*, q1]; exact is_rfl _))
      refine oe 3007200 ?_ (h := by simp [*, q1]; exact is_rfl _)
      iterate 2 (first | refine gp 3007350 ?_ (he := by intro hgg; (try simp only [Bool.and_eq_true] at hgg); simp [*, q1]; exact is_rfl _) | refine os ?_ | refine gt 3007350 ?_ (he := by simp [*, q1]; exact is_rfl _))
      refine oe 3007400 ?_ (h := by simp [*, q1]; exact is_rfl _)
      iterate 2 (first | refine gp 3007550 ?_ (he := by intro hgg; (try simp only [Bool.and_eq_true] at hgg); simp [*, q1]; exact is_rfl _) | refine os ?_ | refine gt 3007550 ?_ (he := by simp [*, q1]; exact is_rfl _))
      refine os ?_
      refine oe 3007700 ?_ (h := by simp [*, q1]; exact is_rfl _)
      refine on ?_
      refine k_nil ?_
      refine ⟨rfl, ?_, ?_, ?_⟩ <;> simp [*, q1]
  refine pr [2] ?_
  refine k_ret ?_
  show retQ _ _ _ _ _ _ _
  simp [*]

attribute [local simp] Pl.av Tm.av irow Up.row Val.row Val.av in
set_option maxHeartbeats 2000000 in
theorem spec18 (cols : List Int) (hc : cols.length ≤ Bnd) (xs : List Up) (hx : xs.length ≤ Bnd) (sx : Up.sms xs) (gx : gds xs) : Flat.Sp Try.prog 18 [.p (.ps (cols.map irow)), .p (.ps (xs.map Up.row))] [] (vv (.bool true)) [] := by
  refine sk Try.func18 ?_
  intro F G hn hG
  have hcap : Cap ≤ Flat.lim := by decide
  have hcap2 : Cap = 1073741824 := rfl
  have hb4 : 4 * Bnd = 4194304 := rfl
  have hb1 : Bnd = 1048576 := rfl
  have hlm : Flat.lim = 140737488355328 := rfl
  have he : ([] : List E).length ≤ Bnd := Nat.zero_le _
  obtain ⟨ax, al⟩ := arr_sms hc sx
  obtain ⟨bx, bl⟩ := doR_sms (k := 5) he ax
  obtain ⟨cx, cl⟩ := doR_sms (k := 5) he sx
  have h47 := spec47 cols hc xs (by omega) sx
  have h44b := spec44 5 0 [] [] [] [] 0 0 he (arrR cols xs).1 (by omega) ax
  have h44c := spec44 5 0 [] [] [] [] 0 0 he xs (by omega) sx
  have hlaw := keys_law (cols := cols) gx (by omega)
  have hfl := arr_fail (cols := cols) (us := xs)
  generalize doR 5 [] (arrR cols xs).1 = B at *
  generalize doR 5 [] xs = C at *
  generalize arrR cols xs = A at *
  obtain ⟨ar, a3⟩ := A
  obtain ⟨b1, ⟨be, ba, bb⟩, b3⟩ := B
  obtain ⟨c1, ⟨te, ta, tb⟩, c3⟩ := C
  simp only at ax al bx bl cx cl hlaw h47 h44b h44c hfl
  refine sq ?_
  refine rg 1000 ?_
  refine pr [0, 1, 4, 5, 6, 8, 9, 10, 11, 12, 13, 14, 15, 16, 17, 18, 19, 20, 21, 22, 23, 24, 25, 26, 27, 28, 29, 30, 31, 32, 33, 34, 35, 36, 37, 38, 39, 40, 41, 42, 43, 44, 45, 46, 47, 48, 49, 50, 51, 52, 53, 54, 55, 56, 57, 58, 59, 60, 61, 62, 63, 64, 65, 66, 67, 68, 69, 70, 71, 72, 73, 74, 75, 76, 77, 78, 79, 80, 81, 82, 83, 84, 85, 86, 87, 88, 89, 90, 91, 92, 93, 94, 95, 96, 97, 98, 99, 100, 101, 102, 103] ?_
  refine sq ?_
  refine sq ?_
  refine rc 2000 ?_
  refine oc id (spec43) ?_
  refine oe 2100 ?_
  refine on ?_
  refine pr [0, 1, 4, 5, 6, 8, 9, 10, 11, 12, 13, 14, 15, 16, 18, 19, 20, 21, 22, 23, 24, 25, 26, 27, 28, 29, 30, 31, 32, 33, 34, 35, 36, 37, 38, 39, 40, 41, 42, 43, 44, 45, 46, 47, 48, 49, 50, 51, 52, 53, 54, 55, 56, 57, 58, 59, 60, 61, 62, 63, 64, 65, 66, 67, 68, 69, 70, 71, 72, 73, 74, 75, 76, 77, 78, 79, 80, 81, 82, 83, 84, 85, 86, 87, 88, 89, 90, 91, 92, 93, 94, 95, 96, 97, 98, 99, 100, 101, 102, 103] ?_
  refine ce ?_
  refine k_skip ?_
  refine sq ?_
  refine rc 4000 ?_
  refine oc id (h47) ?_
  refine oe 4100 ?_
  refine on ?_
  refine pr [0, 1, 4, 5, 6, 8, 9, 10, 11, 12, 13, 14, 15, 16, 25, 26, 27, 28, 29, 30, 31, 32, 33, 34, 35, 36, 37, 38, 39, 40, 41, 42, 43, 44, 45, 46, 47, 48, 49, 50, 51, 52, 53, 54, 55, 56, 57, 58, 59, 60, 61, 62, 63, 64, 65, 66, 67, 68, 69, 70, 71, 72, 73, 74, 75, 76, 77, 78, 79, 80, 81, 82, 83, 84, 85, 86, 87, 88, 89, 90, 91, 92, 93, 94, 95, 96, 97, 98, 99, 100, 101, 102, 103] ?_
  refine sq ?_
  refine sq ?_
  refine rg 5000 ?_
  refine pr [0, 1, 4, 5, 8, 9, 10, 11, 12, 13, 14, 15, 16, 26, 27, 28, 29, 30, 31, 32, 33, 34, 35, 36, 37, 38, 39, 40, 41, 42, 43, 44, 45, 46, 47, 48, 49, 50, 51, 52, 53, 54, 55, 56, 57, 58, 59, 60, 61, 62, 63, 64, 65, 66, 67, 68, 69, 70, 71, 72, 73, 74, 75, 76, 77, 78, 79, 80, 81, 82, 83, 84, 85, 86, 87, 88, 89, 90, 91, 92, 93, 94, 95, 96, 97, 98, 99, 100, 101, 102, 103] ?_
  refine cd ?_ ?_
  · intro h26_1
    have hnil : ar = [] := hfl (by simpa using h26_1)
    subst hnil
    refine sq ?_
    refine rg 6000 ?_
    refine pr [0, 1, 4, 5, 8, 9, 10, 11, 12, 13, 14, 15, 16, 30, 31, 32, 33, 34, 35, 36, 37, 38, 39, 40, 41, 42, 43, 44, 45, 46, 47, 48, 49, 50, 51, 52, 53, 54, 55, 56, 57, 58, 59, 60, 61, 62, 63, 64, 65, 66, 67, 68, 69, 70, 71, 72, 73, 74, 75, 76, 77, 78, 79, 80, 81, 82, 83, 84, 85, 86, 87, 88, 89, 90, 91, 92, 93, 94, 95, 96, 97, 98, 99, 100, 101, 102, 103] ?_
    refine k_ret ?_
    show retQ _ _ _ _ _ _ _
    simp [*]
  · intro h26_1
    have h30 : a3 = 0 := by simpa using h26_1
    obtain ⟨hk1, hE, hk3, hk4⟩ := hlaw h30
    replace hk1 : ∀ u ∈ ar, KeyOK cols u := hk1
    clear hlaw hfl
    refine k_skip ?_
    refine sq ?_
    refine sq ?_
    refine rg 7000 ?_
    refine pr [0, 1, 4, 5, 8, 9, 10, 11, 12, 13, 14, 15, 16, 30, 31, 32, 33, 34, 35, 36, 37, 38, 39, 40, 41, 42, 43, 44, 45, 46, 47, 48, 49, 50, 51, 52, 53, 54, 55, 56, 57, 58, 59, 60, 61, 62, 63, 64, 65, 66, 67, 68, 69, 70, 71, 72, 73, 74, 75, 76, 77, 78, 79, 80, 81, 82, 83, 84, 85, 86, 87, 88, 89, 90, 91, 92, 93, 94, 95, 96, 97, 98, 99, 100, 101, 102, 103] ?_
    refine k_block ?_
    refine k_loop (fun n l => ∃ i, i + n = ar.length ∧ (True) ∧ l = [(.tmp 0, .av (.p (.ps (cols.map irow)))), (.tmp 1, .av (.p (.ps (xs.map Up.row)))), (.tmp 5, .av (.p (.ps (ar.map Up.row)))), (.tmp 30, .av (.p (.ps (ar.map Up.row)))), (.tmp 31, .av (vv (.int .i64 ar.length))), (.tmp 32, .av (vv (.int .i64 i)))]) (ar.length) hG ⟨_, ⟨by simp, by simp, by simp⟩, 0, by simp, trivial, rfl⟩ ?_
    rintro n _ ⟨i, hin, hfa, rfl⟩
    refine sq ?_
    refine rg 8000 ?_
    refine pr [0, 1, 4, 5, 8, 9, 10, 11, 12, 13, 14, 15, 16, 30, 31, 32, 33, 34, 35, 36, 37, 38, 39, 40, 41, 42, 43, 44, 45, 46, 47, 48, 49, 50, 51, 52, 53, 54, 55, 56, 57, 58, 59, 60, 61, 62, 63, 64, 65, 66, 67, 68, 69, 70, 71, 72, 73, 74, 75, 76, 77, 78, 79, 80, 81, 82, 83, 84, 85, 86, 87, 88, 89, 90, 91, 92, 93, 94, 95, 96, 97, 98, 99, 100, 101, 102, 103] ?_
    refine sq ?_
    refine cd ?_ ?_
    · intro h33_2
      have hlt : i < ar.length := by simpa using h33_2
      obtain ⟨x, hxe⟩ : ∃ x, ar[i] = x := ⟨_, rfl⟩
      have hx : ar[i]? = some x := by simp [hlt, hxe]
      have hw := wrap_succ (show i < Flat.lim by omega)
      have hko := hk1 x (List.mem_of_getElem? hx)
      have hxl := hko.len
      refine k_skip ?_
      refine sq ?_
      refine k_block ?_
      refine sq ?_
      refine rg 9000 ?_
      refine pr [0, 1, 4, 5, 8, 9, 10, 11, 12, 13, 14, 15, 16, 30, 31, 32, 33, 34, 35, 36, 37, 38, 39, 40, 41, 42, 43, 44, 45, 46, 47, 48, 49, 50, 51, 52, 53, 54, 55, 56, 57, 58, 59, 60, 61, 62, 63, 64, 65, 66, 67, 68, 69, 70, 71, 72, 73, 74, 75, 76, 77, 78, 79, 80, 81, 82, 83, 84, 85, 86, 87, 88, 89, 90, 91, 92, 93, 94, 95, 96, 97, 98, 99, 100, 101, 102, 103] ?_
      refine sq ?_
      refine rg 10000 ?_
      refine pr [0, 1, 4, 5, 8, 9, 10, 11, 12, 13, 14, 15, 16, 30, 31, 32, 33, 34, 35, 36, 37, 38, 39, 40, 41, 42, 43, 44, 45, 46, 47, 48, 49, 50, 51, 52, 53, 54, 55, 56, 57, 58, 59, 60, 61, 62, 63, 64, 65, 66, 67, 68, 69, 70, 71, 72, 73, 74, 75, 76, 77, 78, 79, 80, 81, 82, 83, 84, 85, 86, 87, 88, 89, 90, 91, 92, 93, 94, 95, 96, 97, 98, 99, 100, 101, 102, 103] ?_
      refine k_block ?_
      refine k_loop (fun n l => ∃ j, j + n = cols.length ∧ (True) ∧ l = [(.tmp 0, .av (.p (.ps (cols.map irow)))), (.tmp 1, .av (.p (.ps (xs.map Up.row)))), (.tmp 5, .av (.p (.ps (ar.map Up.row)))), (.tmp 30, .av (.p (.ps (ar.map Up.row)))), (.tmp 31, .av (vv (.int .i64 ar.length))), (.tmp 32, .av (vv (.int .i64 i))), (.tmp 8, .av (.ptr 9002 0)), (.var 9002, .n 6), (.cell 9002 0, .av (.p (.ps (x.k.map Val.row)))), (.cell 9002 1, .av (.p (.ps (x.r.map Val.row)))), (.cell 9002 2, .av (vv (.int .u64 x.t.e))), (.cell 9002 3, .av (vv (.int .u64 x.t.a))), (.cell 9002 4, .av (vv (.int .u64 x.t.b))), (.cell 9002 5, .av (vv (.int .i64 x.d))), (.tmp 36, .av (.p (.ps (cols.map irow)))), (.tmp 37, .av (vv (.int .i64 cols.length))), (.tmp 38, .av (vv (.int .i64 j)))]) (cols.length) hG ⟨_, ⟨by simp, by simp, by simp⟩, 0, by simp, trivial, rfl⟩ ?_
      rintro n2 _ ⟨j, hin2, hfa2, rfl⟩
      refine sq ?_
      refine rg 11000 ?_
      refine pr [0, 1, 4, 5, 8, 9, 10, 11, 12, 13, 14, 15, 16, 30, 31, 32, 33, 34, 35, 36, 37, 38, 39, 40, 41, 42, 43, 44, 45, 46, 47, 48, 49, 50, 51, 52, 53, 54, 55, 56, 57, 58, 59, 60, 61, 62, 63, 64, 65, 66, 67, 68, 69, 70, 71, 72, 73, 74, 75, 76, 77, 78, 79, 80, 81, 82, 83, 84, 85, 86, 87, 88, 89, 90, 91, 92, 93, 94, 95, 96, 97, 98, 99, 100, 101, 102, 103] ?_
      refine sq ?_
      refine cd ?_ ?_
      · intro h39_3
        have hlt : j < cols.length := by simpa using h39_3
        obtain ⟨y, hye⟩ : ∃ y, cols[j] = y := ⟨_, rfl⟩
        have hx_ : cols[j]? = some y := by simp [hlt, hye]
        have hwj := wrap_succ (show j < Flat.lim by omega)
        obtain ⟨yn, rfl, hyn⟩ := off_in (hko.2 y (List.mem_of_getElem? hx_))
        obtain ⟨v, hv⟩ : ∃ v, x.r[yn]? = some v := ⟨_, List.getElem?_eq_getElem hyn⟩
        have hv2 : ∀ h : yn < x.r.length, x.r[yn]'h = v := fun h => (List.getElem?_eq_some_iff.1 hv).2
        have hkv : x.k[j]? = some v := hko.at_ hx_ (by simp [colV2, hv])
        have hkv2 : ∀ h : j < x.k.length, x.k[j]'h = v := fun h => (List.getElem?_eq_some_iff.1 hkv).2
        have hjk : j < x.k.length := by omega
        have hvv : Val.eqB v v = true := (eqB_iff v v).2 rfl
        have hn0 : ¬ (yn : Int) < 0 := by omega
        have hn1 : ¬ (x.r.length : Int) ≤ (yn : Int) := by omega
        refine k_skip ?_
        refine sq ?_
        refine k_block ?_
        refine sq ?_
        refine rg 12000 ?_
        refine pr [0, 1, 4, 5, 8, 9, 10, 11, 12, 13, 14, 15, 16, 30, 31, 32, 33, 34, 35, 36, 37, 38, 39, 40, 41, 42, 43, 44, 45, 46, 47, 48, 49, 50, 51, 52, 53, 54, 55, 56, 57, 58, 59, 60, 61, 62, 63, 64, 65, 66, 67, 68, 69, 70, 71, 72, 73, 74, 75, 76, 77, 78, 79, 80, 81, 82, 83, 84, 85, 86, 87, 88, 89, 90, 91, 92, 93, 94, 95, 96, 97, 98, 99, 100, 101, 102, 103] ?_
        refine sq ?_
        refine cv [(.tmp 72, vv (.bool false))] ?_ ?_
        · skip
          refine dr ?_
          refine de 13000 ?_
          iterate 2 (first | refine dp 13150 ?_ | refine ds ?_ | refine dt 13150 ?_)
          refine de 13200 ?_
          iterate 5 (first | refine dp 13650 ?_ | refine ds ?_ | refine dt 13650 ?_)
          refine de 13700 ?_
          iterate 11 (first | refine dp 14750 ?_ | refine ds ?_ | refine dt 14750 ?_)
          refine de 14800 ?_
          refine dn ?_
          refine k_nil ?_
          refine ⟨rfl, ?_, ?_, ?_⟩ <;> simp [*]
        refine pr [0, 1, 4, 5, 8, 9, 10, 11, 12, 13, 14, 15, 16, 30, 31, 32, 33, 34, 35, 36, 37, 38, 39, 40, 41, 42, 43, 44, 45, 46, 47, 48, 49, 50, 51, 52, 53, 54, 55, 56, 57, 58, 59, 60, 61, 62, 63, 64, 65, 66, 67, 68, 69, 70, 71, 72, 73, 74, 75, 76, 77, 78, 79, 80, 81, 82, 83, 84, 85, 86, 87, 88, 89, 90, 91, 92, 93, 94, 95, 96, 97, 98, 99, 100, 101, 102, 103] ?_
        refine ce ?_
        refine k_skip ?_
        refine k_nil ?_
        show AK _ _ _ _ _ _
        refine rg 15000 ?_
        refine k_nil ?_
        refine ⟨n2 - 1, by omega, _, ⟨?_, ?_, ?_⟩, j + 1, by omega, trivial, rfl⟩ <;> simp [*]
      · intro h39_3
        have hge : cols.length ≤ j := by simpa using h39_3
        refine k_exit ?_
        show AK _ _ _ _ _ _
        refine k_nil ?_
        show AK _ _ _ _ _ _
        refine rg 16000 ?_
        refine k_nil ?_
        refine ⟨n - 1, by omega, _, ⟨?_, ?_, ?_⟩, i + 1, by omega, trivial, rfl⟩ <;> simp [*]
    · intro h33_2
      have hge : ar.length ≤ i := by simpa using h33_2
      refine k_exit ?_
      show AK _ _ _ _ _ _
      refine sq ?_
      refine rc 17000 ?_
      refine oc id (h44b) ?_
      refine oe 17100 ?_
      refine on ?_
      refine pr [1, 4, 5, 11, 13, 14, 15, 16, 82, 83, 84, 85, 86, 87, 88, 89, 90, 91, 92, 93, 94, 95, 96, 97, 98, 99, 100, 101, 102, 103] ?_
      refine sq ?_
      refine rc 18000 ?_
      refine oc id (h44c) ?_
      refine oe 18100 ?_
      refine on ?_
      refine pr [4, 5, 11, 13, 14, 16, 89, 90, 91, 92, 93, 94, 95, 96, 97, 98, 99, 100, 101, 102, 103] ?_
      refine sq ?_
      refine cv [(.tmp 4, vv (.bool true))] ?_ ?_
      · skip
        rcases q2 : (b3 != 0 : Bool) with _ | _
        · skip
          rcases q3 : (c3 != 0 : Bool) with _ | _
          · skip
            have hbc : b1 = c1 := hk4 (by simpa using q2) (by simpa using q3)
            subst hbc
            have h46 := spec46 b1 b1 (by omega) (by omega) bx bx
            have hs1 : sameBy sameU b1 b1 = true := (sameUs_iff b1 b1).2 rfl
            rw [hs1] at h46
            have h48 := spec48 ar (by omega) ax (fun u hu => by simpa using hE.nz u hu) hE.st (chkUs_iff.2 hE.rt)
            refine rc 19000 ?_ (h := by simp [*, q2, q3]; exact is_rfl _)
            iterate 2 (first | refine gp 19150 ?_ (he := by intro hgg; (try simp only [Bool.and_eq_true] at hgg); simp [*, q2, q3]; exact is_rfl _) | refine os ?_ | refine gt 19150 ?_ (he := by simp [*, q2, q3]; exact is_rfl _))
            refine oe 19200 ?_ (h := by simp [*, q2, q3]; exact is_rfl _)
            first | refine gp 19250 ?_ (he := by intro hgg; (try simp only [Bool.and_eq_true] at hgg); simp [*, q2, q3]; exact is_rfl _) | refine os ?_ | refine gt 19250 ?_ (he := by simp [*, q2, q3]; exact is_rfl _)
            refine oc id (h48) ?_ (hg := by simp [*, q2, q3]) (hf := by simp [*, q2, q3]; exact is_rfl _) (hx := by simp [*, q2, q3]; exact is_rfl _) (hargs := by simp [*, q2, q3]) (hB := by simp [*, q2, q3]) (hL := by simp [*, q2, q3]) (hd := by simp [*, q2, q3]; exact is_rfl _)
            iterate 3 (first | refine gp 19650 ?_ (he := by intro hgg; (try simp only [Bool.and_eq_true] at hgg); simp [*, q2, q3]; exact is_rfl _) | refine os ?_ | refine gt 19650 ?_ (he := by simp [*, q2, q3]; exact is_rfl _))
            refine oc id (h46) ?_ (hg := by simp [*, q2, q3]) (hf := by simp [*, q2, q3]; exact is_rfl _) (hx := by simp [*, q2, q3]; exact is_rfl _) (hargs := by simp [*, q2, q3]) (hB := by simp [*, q2, q3]) (hL := by simp [*, q2, q3]) (hd := by simp [*, q2, q3]; exact is_rfl _)
            first | refine gp 19850 ?_ (he := by intro hgg; (try simp only [Bool.and_eq_true] at hgg); simp [*, q2, q3]; exact is_rfl _) | refine os ?_ | refine gt 19850 ?_ (he := by simp [*, q2, q3]; exact is_rfl _)
            refine oe 19900 ?_ (h := by simp [*, q2, q3]; exact is_rfl _)
            refine on ?_
            refine k_nil ?_
            refine ⟨rfl, ?_, ?_, ?_⟩ <;> simp [*, q2, q3]
          · skip
            refine rc 1019000 ?_ (h := by simp [*, q2, q3]; exact is_rfl _)
            iterate 2 (first | refine gp 1019150 ?_ (he := by intro hgg; (try simp only [Bool.and_eq_true] at hgg); simp [*, q2, q3]; exact is_rfl _) | refine os ?_ | refine gt 1019150 ?_ (he := by simp [*, q2, q3]; exact is_rfl _))
            refine oe 1019200 ?_ (h := by simp [*, q2, q3]; exact is_rfl _)
            first | refine gp 1019250 ?_ (he := by intro hgg; (try simp only [Bool.and_eq_true] at hgg); simp [*, q2, q3]; exact is_rfl _) | refine os ?_ | refine gt 1019250 ?_ (he := by simp [*, q2, q3]; exact is_rfl _)
            refine os ?_
            iterate 3 (first | refine gp 1019650 ?_ (he := by intro hgg; (try simp only [Bool.and_eq_true] at hgg); simp [*, q2, q3]; exact is_rfl _) | refine os ?_ | refine gt 1019650 ?_ (he := by simp [*, q2, q3]; exact is_rfl _))
            refine os ?_
            first | refine gp 1019850 ?_ (he := by intro hgg; (try simp only [Bool.and_eq_true] at hgg); simp [*, q2, q3]; exact is_rfl _) | refine os ?_ | refine gt 1019850 ?_ (he := by simp [*, q2, q3]; exact is_rfl _)
            refine oe 1019900 ?_ (h := by simp [*, q2, q3]; exact is_rfl _)
            refine on ?_
            refine k_nil ?_
            refine ⟨rfl, ?_, ?_, ?_⟩ <;> simp [*, q2, q3]
        · skip
          refine rc 2019000 ?_ (h := by simp [*, q2]; exact is_rfl _)
          iterate 2 (first | refine gp 2019150 ?_ (he := by intro hgg; (try simp only [Bool.and_eq_true] at hgg); simp [*, q2]; exact is_rfl _) | refine os ?_ | refine gt 2019150 ?_ (he := by simp [*, q2]; exact is_rfl _))
          refine oe 2019200 ?_ (h := by simp [*, q2]; exact is_rfl _)
          first | refine gp 2019250 ?_ (he := by intro hgg; (try simp only [Bool.and_eq_true] at hgg); simp [*, q2]; exact is_rfl _) | refine os ?_ | refine gt 2019250 ?_ (he := by simp [*, q2]; exact is_rfl _)
          refine os ?_
          iterate 3 (first | refine gp 2019650 ?_ (he := by intro hgg; (try simp only [Bool.and_eq_true] at hgg); simp [*, q2]; exact is_rfl _) | refine os ?_ | refine gt 2019650 ?_ (he := by simp [*, q2]; exact is_rfl _))
          refine os ?_
          first | refine gp 2019850 ?_ (he := by intro hgg; (try simp only [Bool.and_eq_true] at hgg); simp [*, q2]; exact is_rfl _) | refine os ?_ | refine gt 2019850 ?_ (he := by simp [*, q2]; exact is_rfl _)
          refine oe 2019900 ?_ (h := by simp [*, q2]; exact is_rfl _)
          refine on ?_
          refine k_nil ?_
          refine ⟨rfl, ?_, ?_, ?_⟩ <;> simp [*, q2]
      refine pr [4] ?_
      refine k_ret ?_
      show retQ _ _ _ _ _ _ _
      simp [*]

end Go.Proofs
end
