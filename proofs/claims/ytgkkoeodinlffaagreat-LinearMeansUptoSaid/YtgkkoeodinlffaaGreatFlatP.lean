/-
  Flat, part 27: a family of own arrays, as a part of a state that has no fixed length. (and 2 texts more)
-/
import Derived.Test.YtgkkoeodinlffaaGreatFlatN
section
set_option linter.unusedVariables false
set_option linter.unusedSimpArgs false
namespace Go.Flat
def fid (k : Nat) : Nat := 8589934592 + k
@[simp] theorem fid_lt {k n : Nat} (h : n ≤ 8589934592) : (fid k < n) = False := by simp [fid]; omega
@[simp] theorem fid_le {k n : Nat} (h : n ≤ 8589934592) : (n ≤ fid k) = True := by simp [fid]; omega
@[simp] theorem fid_inj {j k : Nat} : (fid j = fid k) = (j = k) := by simp [fid]
@[simp] theorem fid_ne {k n : Nat} (h : n < 8589934592) : (fid k = n) = False := by simp [fid]; omega
@[simp] theorem ne_fid {k n : Nat} (h : n < 8589934592) : (n = fid k) = False := by simp [fid]; omega
def famC (e sz : Nat) : Nat → List (List (List PV)) → List (Loc × C) → List (Loc × C)
 | _, [], r => r
 | k, xs :: tbl, r => (.arr (fid k), .arr e sz xs 0) :: famC e sz (k + 1) tbl r
def fids : Nat → Nat → List Nat
 | _, 0 => []
 | k, n + 1 => fid k :: fids (k + 1) n
section
variable {e sz : Nat}
@[simp] theorem famC_nil {k : Nat} {r : List (Loc × C)} : famC e sz k [] r = r := rfl
theorem mem_fids {x : Nat} : ∀ {n k : Nat}, x ∈ fids k n ↔ ∃ j, k ≤ j ∧ j < k + n ∧ x = fid j
 | 0, k => by simp [fids]; intro j h1 h2; omega
 | n + 1, k => by
   simp only [fids, List.mem_cons, mem_fids (n := n)]; constructor
   · rintro (rfl | ⟨j, h1, h2, h3⟩)
     · exact ⟨k, Nat.le_refl _, by omega, rfl⟩
     · exact ⟨j, by omega, by omega, h3⟩
   · rintro ⟨j, h1, h2, h3⟩
     by_cases h : j = k
     · exact .inl (by rw [h3, h])
     · exact .inr ⟨j, by omega, by omega, h3⟩
@[simp] theorem memN_fid {j n : Nat} {b : List Nat} : memN (fid j) (fids 0 n ++ b) = (decide (j < n) || memN (fid j) b) := by
 rw [Bool.eq_iff_iff]; simp only [memN_iff, List.mem_append, mem_fids, Bool.or_eq_true, decide_eq_true_eq, fid_inj]; constructor
 · rintro (⟨q, _, h2, rfl⟩ | h)
   · exact .inl (by omega)
   · exact .inr h
 · rintro (h | h)
   · exact .inl ⟨j, by omega, by omega, rfl⟩
   · exact .inr h
@[simp] theorem memN_lit {k x n : Nat} {b : List Nat} (h : x < 8589934592) : memN x (fids k n ++ b) = memN x b := by
 rw [Bool.eq_iff_iff]; simp only [memN_iff, List.mem_append, mem_fids]; constructor
 · rintro (⟨q, _, _, rfl⟩ | h')
   · simp at h
   · exact h'
 · exact fun h => .inr h
@[simp] theorem memN_fid' {j n : Nat} : memN (fid j) (fids 0 n) = decide (j < n) := by
 have := memN_fid (j := j) (n := n) (b := []); rw [List.append_nil] at this; rw [this]; simp [memN]
@[simp] theorem memN_lit' {k x n : Nat} (h : x < 8589934592) : memN x (fids k n) = false := by
 have := memN_lit (k := k) (n := n) (b := []) h; rw [List.append_nil] at this; rw [this]; rfl
theorem lk_famC : ∀ (tbl : List (List (List PV))) (k : Nat) (r : List (Loc × C)) (j : Nat), lk (famC e sz k tbl r) (.arr (fid j)) = if k ≤ j ∧ j < k + tbl.length then some (.arr e sz (tbl.getD (j - k) []) 0) else lk r (.arr (fid j))
 | [], k, r, j => by
   rw [if_neg]
   · rfl
   · simp only [List.length_nil]; omega
 | xs :: tbl, k, r, j => by
   simp only [famC, lk, Loc.arr.injEq, fid_inj, lk_famC tbl, List.length_cons]
   by_cases h : j = k
   · subst h
     rw [if_pos rfl, if_pos (by omega)]
     simp
   · rw [if_neg h]
     by_cases h2 : k + 1 ≤ j ∧ j < k + 1 + tbl.length
     · rw [if_pos h2, if_pos (by omega), show j - k = (j - (k + 1)) + 1 by omega]
       simp
     · rw [if_neg h2, if_neg (by omega)]
theorem lk_fam_other : ∀ (tbl : List (List (List PV))) (k : Nat) (r : List (Loc × C)) (x : Loc), (∀ j, x ≠ .arr (fid j)) → lk (famC e sz k tbl r) x = lk r x
 | [], _, _, _, _ => rfl
 | _ :: tbl, k, r, x, h => by
   simp only [famC, lk]; rw [if_neg (h k)]; exact lk_fam_other tbl _ r x h
variable {k : Nat} {tbl : List (List (List PV))} {r : List (Loc × C)}
@[simp] theorem lk_fam0 {j : Nat} : lk (famC e sz 0 tbl r) (.arr (fid j)) = if j < tbl.length then some (.arr e sz (tbl.getD j []) 0) else lk r (.arr (fid j)) := by
 rw [lk_famC]; simp
@[simp] theorem lk_fam_tmp {i : Nat} : lk (famC e sz k tbl r) (.tmp i) = lk r (.tmp i) := lk_fam_other _ _ _ _ (by simp)
@[simp] theorem lk_fam_cell {i j : Nat} : lk (famC e sz k tbl r) (.cell i j) = lk r (.cell i j) := lk_fam_other _ _ _ _ (by simp)
@[simp] theorem lk_fam_var {i : Nat} : lk (famC e sz k tbl r) (.var i) = lk r (.var i) := lk_fam_other _ _ _ _ (by simp)
@[simp] theorem lk_fam_lit {i : Nat} (h : i < 8589934592) : lk (famC e sz k tbl r) (.arr i) = lk r (.arr i) := lk_fam_other _ _ _ _ (by simp [h])
theorem ins_fam_other {x : Loc} {c : C} : ∀ {tbl : List (List (List PV))} {k : Nat}, (∀ j, x ≠ .arr (fid j)) → ins x c (famC e sz k tbl r) = famC e sz k tbl (ins x c r)
 | [], _, _ => rfl
 | _ :: tbl, k, h => by
   simp only [famC, ins]; rw [if_neg (h k), ins_fam_other h]
@[simp] theorem ins_fam_tmp {i : Nat} {c : C} : ins (.tmp i) c (famC e sz k tbl r) = famC e sz k tbl (ins (.tmp i) c r) := ins_fam_other (by simp)
@[simp] theorem ins_fam_cell {i j : Nat} {c : C} : ins (.cell i j) c (famC e sz k tbl r) = famC e sz k tbl (ins (.cell i j) c r) := ins_fam_other (by simp)
@[simp] theorem ins_fam_var {i : Nat} {c : C} : ins (.var i) c (famC e sz k tbl r) = famC e sz k tbl (ins (.var i) c r) := ins_fam_other (by simp)
@[simp] theorem ins_fam_lit {i : Nat} {c : C} (h : i < 8589934592) : ins (.arr i) c (famC e sz k tbl r) = famC e sz k tbl (ins (.arr i) c r) := ins_fam_other (by simp [h])
theorem ins_famC {xs : List (List PV)} : ∀ {tbl : List (List (List PV))} {k j : Nat}, k ≤ j → j < k + tbl.length → ins (.arr (fid j)) (.arr e sz xs 0) (famC e sz k tbl r) = famC e sz k (tbl.set (j - k) xs) r
 | [], k, j, h1, h2 => by simp only [List.length_nil] at h2; omega
 | ys :: tbl, k, j, h1, h2 => by
   simp only [famC, ins, Loc.arr.injEq, fid_inj]
   by_cases h : j = k
   · subst h
     simp [famC]
   · rw [if_neg h, ins_famC (by omega) (by simp only [List.length_cons] at h2; omega), show j - k = (j - (k + 1)) + 1 by omega]
     simp [famC]
@[simp] theorem ins_fam_at {xs : List (List PV)} {j : Nat} (h : j < tbl.length) : ins (.arr (fid j)) (.arr e sz xs 0) (famC e sz 0 tbl r) = famC e sz 0 (tbl.set j xs) r := by
 rw [ins_famC (by omega) (by omega)]; simp
@[simp] theorem keepT_fam {ks : List Nat} : ∀ {tbl : List (List (List PV))} {k : Nat}, keepT ks (famC e sz k tbl r) = famC e sz k tbl (keepT ks r)
 | [], _ => rfl
 | _ :: tbl, k => by simp only [famC, keepT, keepT_fam]
@[simp] theorem noTmp_fam : ∀ {tbl : List (List (List PV))} {k : Nat}, noTmp (famC e sz k tbl r) = noTmp r
 | [], _ => rfl
 | _ :: tbl, k => by simp only [famC, noTmp, noTmp_fam]
@[simp] theorem okS_fam : ∀ {tbl : List (List (List PV))} {k : Nat}, okS (famC e sz k tbl r) = okS r
 | [], _ => rfl
 | _ :: tbl, k => by simp only [famC, okS, okS_fam]
theorem famOK_fid {s : List (Loc × C)} {j : Nat} {xs : List (List PV)} : famOK s (fid j) xs = true := by simp [famOK]
@[simp] theorem closedIn_famC {s : List (Loc × C)} : ∀ {tbl : List (List (List PV))} {k : Nat}, closedIn s (famC e sz k tbl r) = closedIn s r
 | [], _ => rfl
 | _ :: tbl, k => by simp only [famC, closedIn, closedIn_famC, famOK_fid, Bool.true_and]
@[simp] theorem ownB_famC {s : List (Loc × C)} : ∀ {tbl : List (List (List PV))} {k : Nat}, ownB s (famC e sz k tbl r) = ownB s r
 | [], _ => rfl
 | _ :: tbl, k => by simp only [famC, ownB, ownB_famC, famOK_fid, Bool.true_and]
@[simp] theorem ids_fam : ∀ {tbl : List (List (List PV))} {k : Nat}, ids (famC e sz k tbl r) = fids k tbl.length ++ ids r
 | [], _ => rfl
 | _ :: tbl, k => by simp only [famC, ids, ids_fam, List.length_cons, fids, List.cons_append]
@[simp] theorem app_fam {m : List (Loc × C)} : ∀ {tbl : List (List (List PV))} {k : Nat}, app (famC e sz k tbl r) m = famC e sz k tbl (app r m)
 | [], _ => rfl
 | _ :: tbl, k => by simp only [famC, app, app_fam]
@[simp] theorem frzS_fam {id : Nat} {xs : List (List PV)} (h : id < 8589934592) : ∀ {tbl : List (List (List PV))} {k : Nat}, frzS id xs (famC e sz k tbl r) = famC e sz k tbl (frzS id xs r)
 | [], _ => rfl
 | _ :: tbl, k => by
   simp only [famC, frzS]; rw [if_neg (by simp [h]), frzS_fam h]
@[simp] theorem frvS_fam {id : Nat} {cs : List PV} (h : id < 8589934592) : ∀ {tbl : List (List (List PV))} {k : Nat}, frvS id cs (famC e sz k tbl r) = famC e sz k tbl (frvS id cs r)
 | [], _ => rfl
 | _ :: tbl, k => by
   simp only [famC, frvS]; rw [if_neg (by simp [h]), frvS_fam h]
@[simp] theorem famOK_append {s : List (Loc × C)} {i : Nat} {xs ys : List (List PV)} : famOK s i (xs ++ ys) = (famOK s i xs && famOK s i ys) := by
 simp only [famOK, List.all_append]; cases decide (i < 4294967296) <;> cases decide (8589934592 ≤ i) <;> simp
@[simp] theorem famOK_one {s : List (Loc × C)} {i : Nat} {row : List PV} : famOK s i [row] = (decide (i < 4294967296) || (decide (8589934592 ≤ i) || row.all fun x => match x with
   | .han k _ _ _ => (lk s (.arr k)).isSome
   | _ => true)) := by
 simp only [famOK, List.all_cons, List.all_nil, Bool.and_true]; rfl
def FamAt (l : List (Loc × C)) (e sz k : Nat) (tbl : List (List (List PV))) : Prop := ∀ j, j < tbl.length → lk l (.arr (fid (k + j))) = some (.arr e sz (tbl.getD j []) 0)
theorem famAt_cons {l : List (Loc × C)} {xs : List (List PV)} : FamAt l e sz k (xs :: tbl) ↔ lk l (.arr (fid k)) = some (.arr e sz xs 0) ∧ FamAt l e sz (k + 1) tbl := by
 constructor
 · intro h
   refine ⟨by simpa using h 0 (by simp), fun j hj => ?_⟩
   have := h (j + 1) (by simp [hj])
   rw [show k + 1 + j = k + (j + 1) by omega]
   simpa using this
 · rintro ⟨h1, h2⟩ j hj
   cases j with
   | zero => simpa using h1
   | succ j =>
     have := h2 j (by simpa using hj)
     rw [show k + (j + 1) = k + 1 + j by omega]
     simpa using this
theorem famAt_skip {l : List (Loc × C)} {x : Loc} {c : C} (h : ∀ j, x ≠ .arr (fid j)) : FamAt ((x, c) :: l) e sz k tbl = FamAt l e sz k tbl := by
 simp only [FamAt, lk]; refine forall_congr fun j => forall_congr fun _ => ?_
 rw [if_neg (Ne.symm (h _))]
@[simp] theorem famAt_tmp {l : List (Loc × C)} {i : Nat} {c : C} : FamAt ((.tmp i, c) :: l) e sz k tbl = FamAt l e sz k tbl := famAt_skip (by simp)
@[simp] theorem famAt_cell {l : List (Loc × C)} {i j : Nat} {c : C} : FamAt ((.cell i j, c) :: l) e sz k tbl = FamAt l e sz k tbl := famAt_skip (by simp)
@[simp] theorem famAt_var {l : List (Loc × C)} {i : Nat} {c : C} : FamAt ((.var i, c) :: l) e sz k tbl = FamAt l e sz k tbl := famAt_skip (by simp)
@[simp] theorem famAt_lit {l : List (Loc × C)} {i : Nat} {c : C} (h : i < 8589934592) : FamAt ((.arr i, c) :: l) e sz k tbl = FamAt l e sz k tbl := famAt_skip (by simp [h])
@[simp] theorem famAt_self : FamAt (famC e sz 0 tbl r) e sz 0 tbl = True := by
 simp only [eq_iff_iff, iff_true]; intro j hj; rw [Nat.zero_add, lk_fam0, if_pos hj]
@[simp] theorem PartOf_fam {l : List (Loc × C)} : ∀ {tbl : List (List (List PV))} {k : Nat}, PartOf l (famC e sz k tbl r) = (FamAt l e sz k tbl ∧ PartOf l r)
 | [], k => by simp [FamAt]
 | xs :: tbl, k => by simp only [famC, PartOf, PartOf_fam, famAt_cons, and_assoc]
@[simp] theorem LiesAt_fam {l : List (Loc × C)} : ∀ {tbl : List (List (List PV))} {k : Nat}, LiesAt id l (famC e sz k tbl r) = (FamAt l e sz k tbl ∧ LiesAt id l r)
 | [], k => by simp [FamAt]
 | xs :: tbl, k => by simp only [famC, LiesAt, LiesAt_fam, famAt_cons, and_assoc, renLoc, renC, id_eq]
def FamGe (l : List (Loc × C)) (n : Nat) : Prop := ∀ j, j < n → lk l (.arr (fid j)) ≠ none
theorem famGe_skip {l : List (Loc × C)} {x : Loc} {c : C} {n : Nat} (h : ∀ j, x ≠ .arr (fid j)) : FamGe ((x, c) :: l) n = FamGe l n := by
 simp only [FamGe, lk]; refine forall_congr fun j => forall_congr fun _ => ?_
 rw [if_neg (Ne.symm (h _))]
@[simp] theorem famGe_tmp {l : List (Loc × C)} {i n : Nat} {c : C} : FamGe ((.tmp i, c) :: l) n = FamGe l n := famGe_skip (by simp)
@[simp] theorem famGe_cell {l : List (Loc × C)} {i j n : Nat} {c : C} : FamGe ((.cell i j, c) :: l) n = FamGe l n := famGe_skip (by simp)
@[simp] theorem famGe_var {l : List (Loc × C)} {i n : Nat} {c : C} : FamGe ((.var i, c) :: l) n = FamGe l n := famGe_skip (by simp)
@[simp] theorem famGe_lit {l : List (Loc × C)} {i n : Nat} {c : C} (h : i < 8589934592) : FamGe ((.arr i, c) :: l) n = FamGe l n := famGe_skip (by simp [h])
@[simp] theorem famGe_fam {n : Nat} (h : n ≤ tbl.length) : FamGe (famC e sz 0 tbl r) n = True := by
 simp only [eq_iff_iff, iff_true]; intro j hj; rw [lk_fam0, if_pos (by omega)]
 simp
theorem hasB_append {s l : List (Loc × C)} : ∀ {a b : List Nat}, hasB s l (a ++ b) = (hasB s l a && hasB s l b)
 | [], b => by simp [hasB]
 | k :: a, b => by simp only [List.cons_append, hasB, hasB_append, Bool.and_assoc]
theorem hasB_all {s l : List (Loc × C)} : ∀ {a : List Nat}, (∀ k ∈ a, lk s (.var k) = none ∧ lk l (.arr k) ≠ none) → hasB s l a = true
 | [], _ => rfl
 | k :: a, h => by
   obtain ⟨h1, h2⟩ := h k (by simp)
   rw [← Option.isSome_iff_ne_none] at h2; have ih : hasB s l a = true := hasB_all fun j hj => h j (by simp [hj])
   simp [hasB, h1, h2, ih]
@[simp] theorem hasB_fids {s l : List (Loc × C)} {n : Nat} {b : List Nat} (hv : ∀ j, lk s (.var (fid j)) = none) (hg : FamGe l n) : hasB s l (fids 0 n ++ b) = hasB s l b := by
 rw [hasB_append, hasB_all, Bool.true_and]; intro k hk; obtain ⟨j, _, h2, rfl⟩ := mem_fids.1 hk; exact ⟨hv j, hg j (by omega)⟩
@[simp] theorem hasB_fids' {s l : List (Loc × C)} {n : Nat} (hv : ∀ j, lk s (.var (fid j)) = none) (hg : FamGe l n) : hasB s l (fids 0 n) = true := by
 have := hasB_fids (b := []) hv hg; rw [List.append_nil] at this; rw [this]; rfl
def CovN (b : List Nat) (n : Nat) : Prop := ∀ j, j < n → memN (fid j) b = true
@[simp] theorem covN_cons {i n : Nat} {b : List Nat} (h : i < 8589934592) : CovN (i :: b) n = CovN b n := by simp [CovN, memN, h]
@[simp] theorem covN_fids {m n : Nat} {b : List Nat} (h : n ≤ m) : CovN (fids 0 m ++ b) n = True := by
 simp only [eq_iff_iff, iff_true]; intro j hj; have : j < m := by omega
 simp [this]
@[simp] theorem covN_fids' {m n : Nat} (h : n ≤ m) : CovN (fids 0 m) n = True := by
 have := covN_fids (b := []) h
 rwa [List.append_nil] at this
theorem dropIds_famC {bad : List Nat} : ∀ {tbl : List (List (List PV))} {k : Nat}, (∀ j, k ≤ j → j < k + tbl.length → memN (fid j) bad = true) → dropIds bad (famC e sz k tbl r) = dropIds bad r
 | [], _, _ => rfl
 | _ :: tbl, k, h => by
   simp only [famC, dropIds, locId]; rw [if_pos (h k (Nat.le_refl _) (by simp)), dropIds_famC fun j h1 h2 => h j (by omega) (by simp only [List.length_cons]; omega)]
@[simp] theorem dropIds_fam {bad : List Nat} (h : CovN bad tbl.length) : dropIds bad (famC e sz 0 tbl r) = dropIds bad r := dropIds_famC fun j _ h2 => h j (by omega)
theorem dropIds_keep' {bad : List Nat} (h : ∀ j, memN (fid j) bad = false) : ∀ {tbl : List (List (List PV))} {k : Nat}, dropIds bad (famC e sz k tbl r) = famC e sz k tbl (dropIds bad r)
 | [], _ => rfl
 | _ :: tbl, k => by
   simp only [famC, dropIds, locId, h, dropIds_keep' h]; simp
def NoFam (bad : List Nat) : Prop := ∀ j, memN (fid j) bad = false
@[simp] theorem noFam_nil : NoFam [] = True := by simp [NoFam, memN]
@[simp] theorem noFam_cons {i : Nat} {b : List Nat} (h : i < 8589934592) : NoFam (i :: b) = NoFam b := by simp [NoFam, memN, h]
@[simp] theorem dropIds_keep {bad : List Nat} (h : NoFam bad) : dropIds bad (famC e sz k tbl r) = famC e sz k tbl (dropIds bad r) := dropIds_keep' h
theorem freshB_append {ι : Nat → Nat} {s l : List (Loc × C)} : ∀ {a b : List Nat}, freshB ι s l (a ++ b) = (freshB ι s l a && freshB ι s l b)
 | [], b => by simp [freshB]
 | k :: a, b => by simp only [List.cons_append, freshB, freshB_append, Bool.and_assoc]
theorem freshB_all {s l : List (Loc × C)} : ∀ {a : List Nat}, (∀ k ∈ a, memN k (ids s) = true ∨ (lk l (.var k) = none ∧ lk l (.arr k) = none)) → freshB id s l a = true
 | [], _ => rfl
 | k :: a, h => by
   simp only [freshB, Bool.and_eq_true, Bool.or_eq_true, id_eq, Option.isNone_iff_eq_none]; exact ⟨h k (by simp), freshB_all fun j hj => h j (by simp [hj])⟩
def FamNew (s l : List (Loc × C)) : Prop := ∀ j, ¬ memN (fid j) (ids s) = true → lk l (.var (fid j)) = none ∧ lk l (.arr (fid j)) = none
@[simp] theorem famNew_eq {s l : List (Loc × C)} : FamNew s l = (∀ j, ¬ memN (fid j) (ids s) = true → lk l (.var (fid j)) = none ∧ lk l (.arr (fid j)) = none) := propext Iff.rfl
@[simp] theorem freshB_fids {s l : List (Loc × C)} {n : Nat} {b : List Nat} (h : FamNew s l) : freshB id s l (fids 0 n ++ b) = freshB id s l b := by
 rw [freshB_append, freshB_all, Bool.true_and]; intro k hk; obtain ⟨j, _, h2, rfl⟩ := mem_fids.1 hk
 by_cases hm : memN (fid j) (ids s) = true
 · exact .inl hm
 · exact .inr (h j hm)
@[simp] theorem freshB_fids' {s l : List (Loc × C)} {n : Nat} (h : FamNew s l) : freshB id s l (fids 0 n) = true := by
 have := freshB_fids (n := n) (b := []) h; rw [List.append_nil] at this; rw [this]; rfl
end
end Go.Flat
end
section
set_option linter.unusedVariables false
set_option linter.unusedSimpArgs false
namespace Go.Flat
section
variable {P : Program} {F : Nat → Nat → Prop} {G : Start} {ρ : Ren} {t : Sto} {l l' : List (Loc × C)} {a : Act} {w : World} {Q : Post}
theorem rows_rel {id e sz pub : Nat} {xs ys : List (List PV)} (hr : Rel F G ρ t a w) (ha : t (.arr id) = some (.arr e sz xs pub)) (hl : ys.length = xs.length)
   (hrow : ∀ (i : Nat) (r s : List PV), xs[i]? = some r → ys[i]? = some s → s.length = r.length ∧ ∀ (j : Nat) (x y : PV), r[j]? = some x → s[j]? = some y → ∀ u, PQ F ρ t w id x u → PQ F ρ t w id y u) :
   Rel F G ρ (upd t (.arr id) (some (.arr e sz ys pub))) a w := by
 generalize ht' : upd t (.arr id) (some (.arr e sz ys pub)) = t'; have hat : ∀ x, x ≠ .arr id → t' x = t x := fun x hx => by rw [← ht']; exact upd_ne _ _ hx
 have hid : t' (.arr id) = some (.arr e sz ys pub) := by rw [← ht']; simp
 have hv : ∀ k, t' (.var k) = t (.var k) := fun k => hat _ (by simp)
 have hlive : ∀ q, live t' q ↔ live t q := by
   intro q
   by_cases hq : q = id
   · subst hq; exact ⟨fun _ => .inr (by rw [ha]; simp), fun _ => .inr (by rw [hid]; simp)⟩
   · simp [live, hv, hat (.arr q) (by simp [hq])]
 have hE : Ext F ρ t w ρ t' w := by
   refine ⟨rfl, rfl, rfl, Nat.le_refl _, fun k hk => ⟨by rw [hv]; exact hk, rfl⟩, ?_, ?_⟩
   · intro k e2 sz2 xs2 pub2 hk
     by_cases q : k = id
     · subst q
       rw [ha] at hk; simp only [Option.some.injEq, C.arr.injEq] at hk; obtain ⟨rfl, rfl, rfl, rfl⟩ := hk; exact ⟨ys, _, hid, by omega, fun _ => ⟨rfl, fun _ _ _ h => h⟩⟩
     · exact ⟨xs2, pub2, by rw [hat _ (by simp [q])]; exact hk, Nat.le_refl _, fun _ => ⟨rfl, fun _ _ _ h => h⟩⟩
   · intro b o u hs hc
     refine ⟨hc, hs.1, fun k hk => ?_⟩
     obtain ⟨h1, h2⟩ := hs.2 k hk; refine ⟨by rw [hv]; exact h1, fun e2 sz2 zs pub2 hq => ?_⟩
     by_cases q : k = id
     · subst q
       rw [hid] at hq; simp only [Option.some.injEq, C.arr.injEq] at hq; obtain ⟨rfl, rfl, rfl, rfl⟩ := hq; exact h2 _ _ _ _ ha
     · rw [hat _ (by simp [q])] at hq
       exact h2 _ _ _ _ hq
 refine hr.step hE ⟨?_, ?_, ?_, ?_, ?_, ?_, hr.o.bound⟩ (fun k => hat _ (by simp)) (fun k b hk hb => .inl ⟨(hlive k).1 hk, hb⟩) (fun b hb _ => rfl)
 · intro k c hk; rw [hv] at hk; exact hr.o.var k c hk
 · intro k j c hk
   rw [hat _ (by simp)] at hk
   obtain ⟨z, n, b, u, h1, h2, h3, h4, h5, h6, h7⟩ := hr.o.cell k j c hk; exact ⟨z, n, b, u, h1, by rw [hv]; exact h2, h3, h4, h5, h6.ext hE, h7⟩
 · intro k c hk
   by_cases q : k = id
   · subst q
     rw [hid] at hk; simp only [Option.some.injEq] at hk; subst hk; obtain ⟨e2, sz2, xs2, pub2, hc, q1, q2, q3, q4⟩ := hr.o.arr k _ ha; simp only [C.arr.injEq] at hc; obtain ⟨rfl, rfl, rfl, rfl⟩ := hc
     have hget : ∀ {i : Nat} {s : List PV}, ys[i]? = some s → ∃ r, xs[i]? = some r := by
       intro i s hi; have := (List.getElem?_eq_some_iff.1 hi).1; exact ⟨xs[i], by simp [← hl, this]⟩
     refine ⟨e, sz, ys, pub, rfl, q1, by omega, ?_, ?_⟩
     · intro s hs
       obtain ⟨i, hi⟩ := List.mem_iff_getElem?.1 hs; obtain ⟨r, hr'⟩ := hget hi; rw [(hrow i r s hr' hi).1]; exact q3 r (List.mem_of_getElem? hr')
     · rcases q4 with ⟨q4, rfl⟩ | ⟨b, cs, q4, q5, q6, q7⟩
       · exact .inl ⟨q4, List.eq_nil_of_length_eq_zero (by simpa using hl)⟩
       · refine .inr ⟨b, cs, q4, q5, by rw [hl]; exact q6, fun i s hi j y hj => ?_⟩
         obtain ⟨r, hr'⟩ := hget hi; obtain ⟨g1, g2⟩ := hrow i r s hr' hi; have hjr : j < r.length := by have := (List.getElem?_eq_some_iff.1 hj).1; omega
         obtain ⟨u, u1, u2⟩ := q7 i r hr' j r[j] (by simp [hjr])
         exact ⟨u, u1, (g2 j r[j] y (by simp [hjr]) hj u u2).ext hE⟩
   · rw [hat _ (by simp [q])] at hk
     obtain ⟨e2, sz2, xs2, pub2, rfl, q1, q2, q3, q4⟩ := hr.o.arr k c hk; refine ⟨e2, sz2, xs2, pub2, rfl, q1, q2, q3, ?_⟩; rcases q4 with q4 | ⟨b, cs, q4, q5, q6, q7⟩
     · exact .inl q4
     · exact .inr ⟨b, cs, q4, q5, q6, fun i row hi j x hj => by obtain ⟨u, u1, u2⟩ := q7 i row hi j x hj; exact ⟨u, u1, u2.ext hE⟩⟩
 · intro k k' b h1 h2; rw [hlive] at h1 h2; exact hr.o.inj k k' b h1 h2
 · intro k h1
   rw [hv] at h1; have := hr.o.excl k h1
   by_cases q : k = id
   · subst q; rw [ha] at this; simp at this
   · rw [hat _ (by simp [q])]; exact this
 · intro k b o h1; rw [hlive] at h1; exact hr.o.apart k b o h1
theorem hz_rel {W e sz pub k j f e2 sz2 : Nat} {xs : List (List PV)} (hr : Rel F G ρ t a w) (ha : t (.arr W) = some (.arr e sz xs pub)) (hW : 4294967296 ≤ W ∧ W < 8589934592) (hx : (xs.getD k [])[j]? = some .pz)
   (h1 : t (.var f) = none) (h2 : t (.arr f) = none) (hf : 8589934592 ≤ f) (hs : 0 < sz2) :
   ∃ ρ', Rel F G ρ' (upd (upd t (.arr f) (some (.arr e2 sz2 [] 0))) (.arr W) (some (.arr e sz (xs.set k ((xs.getD k []).set j (.han f 0 0 0))) pub))) a w := by
 obtain ⟨g1, _⟩ := newNone (e := e2) (sz := sz2) hr h1 h2 hs; generalize (fun k => if k = f then none else ρ k : Ren) = ρ' at g1
 have e1 : appU [(.arr f, some (.arr e2 sz2 [] 0))] t = upd t (.arr f) (some (.arr e2 sz2 [] 0)) := rfl; rw [e1] at g1; refine ⟨ρ', rows_rel g1 (xs := xs) (by rw [upd_ne _ _ (by simp only [ne_eq, Loc.arr.injEq]; omega)]; exact ha) (by simp) ?_⟩
 intro i r s hi hs'
 by_cases hik : i = k
 · subst hik
   have hlt : i < xs.length := (List.getElem?_eq_some_iff.1 hi).1; rw [List.getElem?_set_self hlt] at hs'; simp only [Option.some.injEq] at hs'; have hr' : xs.getD i [] = r := by simp [List.getD, hi]
   rw [hr'] at hs' hx; subst hs'; refine ⟨by simp, fun q x y hx' hy' u hu => ?_⟩
   by_cases hq : q = j
   · subst hq
     have hl : q < r.length := (List.getElem?_eq_some_iff.1 hx).1; rw [List.getElem?_set_self hl] at hy'; simp only [Option.some.injEq] at hy'; subst hy'; rw [hx] at hx'; simp only [Option.some.injEq] at hx'; subst hx'; rcases hu with hu | ⟨_, _, _, _, _, hh, _⟩
     · cases hu with
       | pz => exact .inr ⟨hW, f, 0, 0, 0, rfl, hf, e2, sz2, [], 0, by simp, by simp, _, 0, rfl, fun _ => ⟨by simp, by simp, by simp, .inl rfl⟩⟩
     · simp at hh
   · rw [List.getElem?_set_ne (Ne.symm hq), hx'] at hy'
     simp only [Option.some.injEq] at hy'; subst hy'; exact hu
 · rw [List.getElem?_set_ne (Ne.symm hik), hi] at hs'
   simp only [Option.some.injEq] at hs'; subst hs'; exact ⟨rfl, fun q x y hx' hy' u hu => by rw [hx'] at hy'; simp only [Option.some.injEq] at hy'; subst hy'; exact hu⟩
theorem lk_famC_snoc {e sz : Nat} {xs : List (List PV)} {r : List (Loc × C)} : ∀ {tbl : List (List (List PV))} {k : Nat}, lk (famC e sz k (tbl ++ [xs]) r) = upd (lk (famC e sz k tbl r)) (.arr (fid (k + tbl.length))) (some (.arr e sz xs 0))
 | [], k => by
   funext x; simp only [List.nil_append, famC, lk, upd, List.length_nil, Nat.add_zero]
 | ys :: tbl, k => by
   funext x; simp only [List.cons_append, famC, lk, lk_famC_snoc, upd, List.length_cons]
   by_cases h : x = .arr (fid k)
   · subst h
     have hne : ¬ (k = k + 1 + tbl.length) := by omega
     have hne2 : ¬ (k = k + (tbl.length + 1)) := by omega
     simp [hne, hne2]
   · rw [if_neg h, if_neg h, show k + 1 + tbl.length = k + (tbl.length + 1) by omega]
theorem app_eq : ∀ a b : List (Loc × C), app a b = a ++ b
 | [], _ => rfl
 | p :: a, b => by simp [app, app_eq a b]
theorem hz {c : Code} {cs : List Code} (m W k j : Nat) {e sz pub e2 sz2 : Nat} {xs : List (List PV)} {tbl : List (List (List PV))} {r : List (Loc × C)} (h : AK P F G (c :: cs) Q l') (hm : Is (l.drop m) (famC e2 sz2 0 tbl r) := by exact is_rfl _)
   (ha : Is (lk l (.arr W)) (some (.arr e sz xs pub)) := by simp [*]; exact is_rfl _) (hx : (xs.getD k [])[j]? = some .pz := by simp [*]) (hf : fresh (lk l) (fid tbl.length) = true := by simp [*]) (hs : 0 < sz2 := by decide) (hW : 4294967296 ≤ W ∧ W < 8589934592 := by decide)
   (hl : Is (ins (.arr W) (.arr e sz (xs.set k ((xs.getD k []).set j (.han (fid tbl.length) 0 0 0))) pub) (app (l.take m) (famC e2 sz2 0 (tbl ++ [[]]) r))) l' := by simp [*]; exact is_rfl _) : AK P F G (c :: cs) Q l := by
 unfold Is at hl hm ha; subst hl; refine fun ρ a w hr => ?_
 obtain ⟨h1, h2⟩ := fresh_inv hf; obtain ⟨ρ', g⟩ := hz_rel (e2 := e2) (sz2 := sz2) hr ha hW hx h1 h2 (by simp) hs
 refine h ρ' a w ?_; rw [lk_ins]
 have he : lk (app (l.take m) (famC e2 sz2 0 (tbl ++ [[]]) r)) = upd (lk l) (.arr (fid tbl.length)) (some (.arr e2 sz2 [] 0)) := by
   have hl : lk l = lk (app (l.take m) (famC e2 sz2 0 tbl r)) := by rw [← hm, app_eq, List.take_append_drop]
   rw [hl] at h2 ⊢; funext x; rw [lk_app] at h2 ⊢; simp only [upd]; rw [lk_famC_snoc, Nat.zero_add, lk_app]
   by_cases hx : x = .arr (fid tbl.length)
   · subst hx
     rw [if_pos rfl]; split at h2
     · simp at h2
     · simp
   · rw [if_neg hx]
     simp only [upd, hx, if_false]
 rw [he]; exact g
end
end Go.Flat
end
section
set_option linter.unusedVariables false
set_option linter.unusedSimpArgs false
namespace Go.Flat
section
variable {P : Program} {F : Nat → Nat → Prop} {G : Start} {Q : Post} {l l' : List (Loc × C)} {ρ : Ren} {t : Sto} {w : World}
theorem rs {id : Nat} {ops : Array Oper} {cs : List Code} (h : AOps P F G ops (thenQ (AK P F G cs Q) Q) ops.toList l) : AK P F G (.region id ops false :: cs) Q l := awp_region h
end
end Go.Flat
end
