/-
  Plans: schemas are short where there is no fault.
  Plans: what is checked is right, all the way down.
  Contracts: plans: whether one is right, by the document.
  Plans: the document's check is the program's.
  Plans: a check's measures.
-/
import Derived.Test.YtgkkoeodinlffaaPartE
section
set_option linter.unusedVariables false
set_option linter.unusedSimpArgs false
namespace Go.Proofs
open Go.Flat
theorem unlessF_zero {w y : Int} {b : Bool} (h : unlessF w b y = 0) : w = 0 := by
  unfold unlessF at h
  by_cases hw : w = 0
  · exact hw
  · simp [hw] at h
theorem unlessF_zero2 {w y : Int} {b : Bool} (hy : y ≠ 0) (h : unlessF w b y = 0) : w = 0 ∧ b = true := by
  have h0 := unlessF_zero h
  subst h0
  cases b with
  | true => exact ⟨rfl, rfl⟩
  | false => simp [unlessF] at h; exact absurd h hy
theorem foldl_zero {α : Type} {f : Int → α → Int} (hf : ∀ w a, f w a = 0 → w = 0) : ∀ (l : List α) (w : Int), l.foldl f w = 0 → w = 0
  | [], w, h => h
  | a :: l, w, h => hf w a (foldl_zero hf l (f w a) h)
theorem exsW_zero {ts : List Int} {ex : List E} {w : Int} (h : exsW ts ex w = 0) : w = 0 := foldl_zero (fun _ _ h => unlessF_zero h) ex w h
theorem foldl_atF_zero (ts : List Int) : ∀ (cols : List Int) (r : List Int × Int), (cols.foldl (atF ts) r).2 = 0 → r.2 = 0
  | [], r, h => h
  | c :: q, r, h => by
    have := foldl_atF_zero ts q (atF ts r c) h
    simp only [atF] at this
    split at this
    · exact unlessF_zero this
    · exact unlessF_zero this
theorem atL_zero {ts cols : List Int} {w : Int} (h : (atL ts cols w).2 = 0) : w = 0 := foldl_atF_zero ts cols _ h
theorem redR_zero {ts cols : List Int} {m agg w : Int} (h : (redR ts cols m agg w).2 = 0) : w = 0 := by
  simp only [redR] at h
  split at h
  · exact atL_zero h
  · split at h
    · exact atL_zero (unlessF_zero h)
    · exact atL_zero (atL_zero (unlessF_zero h))
theorem finR_zero {k m : Int} {ex : List E} {cols wth : List Int} {agg : Int} {l : List (List Int)} {w : Int} (h : (finR k m ex cols wth agg l w).2 = 0) : w = 0 := by
  unfold finR at h
  split at h
  · exact exsW_zero h
  · split at h
    · exact exsW_zero (unlessF_zero h)
    · split at h
      · exact atL_zero (atL_zero (unlessF_zero h))
      · split at h
        · exact redR_zero h
        · exact unlessF_zero h
theorem finJ_zero {k m : Int} {ex : List E} {cols wth : List Int} {agg : Int} {l : List (List Int)} {w : Int} (h : (finJ k m ex cols wth agg l w).2 = 0) : w = 0 ∧ (finJ k m ex cols wth agg l w).1.length ≤ 8 := by
  simp only [finJ] at h ⊢
  obtain ⟨h1, h2⟩ := unlessF_zero2 (by decide) h
  refine ⟨finR_zero h1, ?_⟩
  simp only [decide_eq_true_eq] at h2
  omega
theorem oneR_len {l : List (List Int)} (h : ∀ s ∈ l, s.length ≤ 8) (i : Int) : (oneR l i).length ≤ 8 := by
  unfold oneR
  split
  · simp
  · rw [List.getD_eq_getElem?_getD]
    cases hq : l[i.toNat]? with
    | none => simp
    | some x => exact h x (List.mem_of_getElem? hq)
theorem oneW_zero {l : List (List Int)} {i w : Int} (h : oneW l i w = 0) : w = 0 := by
  unfold oneW at h
  split at h
  · exact unlessF_zero h
  · exact h
def Sh (A : List (List Int)) (nd : Nat) (w : Int) : Prop := w = 0 → ∀ s ∈ A.take nd, s.length ≤ 8
def JOk (S : List (List Int)) (p : Pl) (d : Nat) : Prop := ∀ nd w A, nd < d → nd ≤ A.length → A.length ≤ 16 → Sh A nd w → (jdg S p nd w A).2.1 = 0 → w = 0 ∧ (jdg S p nd w A).1.length ≤ 8
def LOk (r : List (List Int) × JR) (w : Int) : Prop := r.2.1 = 0 → w = 0 ∧ ∀ s ∈ r.1, s.length ≤ 8
theorem jdgL_ok {S : List (List Int)} {d : Nat} {l : List Pl} (hg : Pl.goodL l d) (ih : ∀ x ∈ l, JOk S x d) : ∀ nd w A, nd < d → nd ≤ A.length → A.length ≤ 16 → Sh A nd w → LOk (jdgL S l nd w A) w := by
  induction l with
  | nil => intro nd w A _ _ _ _ h; simp only [jdgL] at h ⊢; exact ⟨h, by simp⟩
  | cons x l ihl =>
    intro nd w A h1 h2 h3 h4 h
    rw [Pl.goodL] at hg
    simp only [jdgL] at h ⊢
    have g := jdg_grows S x d hg.1 nd w A h1 h2 h3
    have hx := ih x (by simp) nd w A h1 h2 h3 h4
    have hl := ihl hg.2 (fun y hy => ih y (by simp [hy])) nd (jdg S x nd w A).2.1 (jdg S x nd w A).2.2 h1 (Nat.le_trans h2 g.1) g.2.1 (fun hz => by rw [g.2.2]; exact h4 (hx hz).1) h
    have hx2 := hx hl.1
    refine ⟨hx2.1, fun s hs => ?_⟩
    rcases List.mem_cons.1 hs with rfl | hs
    · exact hx2.2
    · exact hl.2 s hs
theorem jdgI_ok {S : List (List Int)} {d : Nat} (hd : d ≤ 16) {l : List Pl} (hg : Pl.goodL l (d + 1)) (ih : ∀ x ∈ l, JOk S x (d + 1)) : ∀ nd w A, nd < d → nd ≤ A.length → A.length ≤ 16 → Sh A nd w → LOk (jdgI S l nd w A) w := by
  intro nd w A h1 h2 h3 h4 h
  cases l with
  | nil => simp only [jdgI] at h ⊢; exact ⟨h, by simp⟩
  | cons x l =>
    rw [Pl.goodL] at hg
    simp only [jdgI] at h ⊢
    have g := jdg_grows S x (d + 1) hg.1 nd w A (by omega) h2 h3
    have hx := ih x (by simp) nd w A (by omega) h2 h3 h4
    have h5 := Nat.le_trans h2 g.1
    have hp := pushA_len (jdg S x nd w A).1 h5
    have hq := g.2.1
    have hl := jdgL_ok (S := S) (d := d + 1) hg.2 (fun y hy => ih y (by simp [hy])) (nd + 1) (jdg S x nd w A).2.1 (pushA (jdg S x nd w A).2.2 nd (jdg S x nd w A).1) (by omega) (by rw [hp]; omega) (by rw [hp]; omega) (fun hz s hs => by
      rw [pushA_take1 _ h5, g.2.2] at hs
      rcases List.mem_append.1 hs with hs | hs
      · exact h4 (hx hz).1 s hs
      · rw [List.mem_singleton] at hs; rw [hs]; exact (hx hz).2) h
    have hx2 := hx hl.1
    refine ⟨hx2.1, fun s hs => ?_⟩
    rcases List.mem_cons.1 hs with rfl | hs
    · exact hx2.2
    · exact hl.2 s hs
theorem jdg_ok {S : List (List Int)} (hS : ∀ s ∈ S, s.length ≤ 8) : ∀ (p : Pl) (d : Nat), p.good d → JOk S p d := by
  refine Pl.ind fun k m kids ex cols wth agg rds ih d hg nd w A h1 h2 h3 h4 h => ?_
  rw [Pl.good] at hg
  obtain ⟨hd, -, -, hgl⟩ := hg
  have ih' : ∀ x ∈ kids, JOk S x (d + 1) := fun x hx => ih x hx (d + 1) (Pl.goodL_mem hgl x hx)
  have gI := jdgI_ok hd hgl ih' nd w A h1 h2 h3 h4
  have gL := jdgL_ok hgl ih' nd w A (by omega) h2 h3 h4
  rw [jdg] at h ⊢
  split at h
  · rename_i hk
    rw [if_pos hk]
    exact ⟨oneW_zero h, oneR_len hS m⟩
  · rename_i hk
    rw [if_neg hk]
    split at h
    · rename_i hk2
      rw [if_pos hk2]
      split at h
      · rename_i hm
        rw [if_pos hm]
        exact ⟨unlessF_zero h, by simp⟩
      · rename_i hm
        rw [if_neg hm]
        have := oneW_zero h
        exact ⟨this, oneR_len (h4 this) _⟩
    · rename_i hk2
      rw [if_neg hk2]
      have hK : LOk (if k == 10 then jdgI S kids nd w A else jdgL S kids nd w A) w := by split <;> assumption
      simp only at h ⊢
      generalize (if k == 10 then jdgI S kids nd w A else jdgL S kids nd w A) = r at h hK ⊢
      split at h
      · rename_i hr
        simp only at h
        simp [h] at hr
      · rename_i hr
        rw [if_neg hr]
        simp only at h ⊢
        have hr0 : r.2.1 = 0 := by simpa using hr
        exact ⟨(hK hr0).1, (finJ_zero h).2⟩
theorem jdgK_ok {S : List (List Int)} (hS : ∀ s ∈ S, s.length ≤ 8) {k : Int} {kids : List Pl} {d : Nat} (hd : d ≤ 16) (hgl : Pl.goodL kids (d + 1)) {nd : Nat} {w : Int} {A : List (List Int)} (h1 : nd < d) (h2 : nd ≤ A.length) (h3 : A.length ≤ 16) (h4 : Sh A nd w) : LOk (jdgK S k kids nd w A) w := by
  have ih' : ∀ x ∈ kids, JOk S x (d + 1) := fun x hx => jdg_ok hS x (d + 1) (Pl.goodL_mem hgl x hx)
  unfold jdgK
  split
  · exact jdgI_ok hd hgl ih' nd w A h1 h2 h3 h4
  · exact jdgL_ok hgl ih' nd w A (by omega) h2 h3 h4
end Go.Proofs
end
section
set_option linter.unusedVariables false
set_option linter.unusedSimpArgs false
namespace Go.Proofs
open Go.Flat
theorem exL_cons (e : E) (ex : List E) (r : Bool × Bool) : exL (e :: ex) r = exL ex (exF r e) := rfl
theorem exL_long : ∀ (ex : List E) (r : Bool × Bool), r.2 = true → (exL ex r).2 = true
  | [], r, h => h
  | e :: ex, r, h => exL_long ex _ (by simp [exF, h])
theorem exL_ok : ∀ (ex : List E) (r : Bool × Bool), (exL ex r).1 = true → (exL ex r).2 = false → r.1 = true ∧ r.2 = false ∧ ∀ e ∈ ex, checkE e ≠ 4 ∧ checkE e ≠ 2
  | [], r, h1, h2 => ⟨h1, h2, by simp⟩
  | e :: ex, r, h1, h2 => by
    obtain ⟨g1, g2, g3⟩ := exL_ok ex (exF r e) h1 h2
    simp only [exF, Bool.and_eq_true, Bool.or_eq_false_iff, bne_iff_ne, ne_eq, beq_eq_false_iff_ne] at g1 g2
    refine ⟨g1.1, g2.1, fun x hx => ?_⟩
    rcases List.mem_cons.1 hx with rfl | hx
    · exact ⟨g1.2, g2.2⟩
    · exact g3 x hx
theorem checkE_vals (e : E) : checkE e = 0 ∨ checkE e = 2 ∨ checkE e = 4 := by
  unfold checkE
  simp only
  split
  · simp
  · split
    · simp
    · split <;> simp
def PMono (s t : PSrv) : Prop := (s.2.2.2.1 = true → t.2.2.2.1 = true) ∧ (s.2.2.2.2 = true → t.2.2.2.2 = true) ∧ s.2.1 ≤ t.2.1
theorem PMono.rfl' (s : PSrv) : PMono s s := ⟨id, id, Int.le_refl _⟩
theorem PMono.trans {s t u : PSrv} (h1 : PMono s t) (h2 : PMono t u) : PMono s u := ⟨fun h => h2.1 (h1.1 h), fun h => h2.2.1 (h1.2.1 h), Int.le_trans h1.2.2 h2.2.2⟩
theorem plookL_mono {l : List Pl} (ih : ∀ x ∈ l, ∀ d lo s, PMono s (plook x d lo s)) : ∀ k i d lo s, PMono s (plookL l k i d lo s) := by
  induction l with
  | nil => intro k i d lo s; rw [plookL]; exact .rfl' s
  | cons x l ihl =>
    intro k i d lo s
    rw [plookL]
    exact (ih x (by simp) _ _ s).trans (ihl (fun y hy => ih y (by simp [hy])) _ _ _ _ _)
theorem plook_step (k m : Int) (kids : List Pl) (ex : List E) (cols wth : List Int) (agg rds d lo : Int) (s : PSrv) : PMono s (IntKind.i64.wrap (s.1 + 1), (if d > s.2.1 then d else s.2.1), (if lo > s.2.2.1 then lo else s.2.2.1), s.2.2.2.1 || !(exL ex (formedP k m kids.length ex cols wth agg rds, s.2.2.2.2)).1, (exL ex (formedP k m kids.length ex cols wth agg rds, s.2.2.2.2)).2) := by
  refine ⟨fun h => by simp [h], fun h => exL_long _ _ h, ?_⟩
  simp only
  split <;> omega
theorem plook_mono : ∀ (p : Pl) (d lo : Int) (s : PSrv), PMono s (plook p d lo s) := by
  refine Pl.ind fun k m kids ex cols wth agg rds ih d lo s => ?_
  rw [plook]
  have h := plook_step k m kids ex cols wth agg rds d lo s
  split
  · exact h
  · exact h.trans (plookL_mono ih _ _ _ _ _)
def PFine (s : PSrv) : Prop := s.2.2.2.1 = false ∧ s.2.2.2.2 = false ∧ s.2.1 ≤ 16
theorem PFine.back {s t : PSrv} (h : PMono s t) (g : PFine t) : PFine s := by
  refine ⟨?_, ?_, Int.le_trans h.2.2 g.2.2⟩
  · cases hq : s.2.2.2.1 with
    | false => rfl
    | true => exact absurd (h.1 hq) (by rw [g.1]; simp)
  · cases hq : s.2.2.2.2 with
    | false => rfl
    | true => exact absurd (h.2.1 hq) (by rw [g.2.1]; simp)
theorem wrap_d {d : Nat} (h : d ≤ 16) : IntKind.i64.wrap ((d : Int) + 1) = ((d + 1 : Nat) : Int) := by
  rw [wrap_succ (by simp only [Flat.lim]; omega)]
  simp
theorem plookL_good {l : List Pl} {d : Nat} (hd : d ≤ 16) (ih : ∀ x ∈ l, ∀ (d : Nat) lo s, PFine (plook x d lo s) → x.good d) : ∀ k i lo s, PFine (plookL l k i d lo s) → Pl.goodL l (d + 1) := by
  induction l with
  | nil => intro k i lo s _; simp [Pl.goodL]
  | cons x l ihl =>
    intro k i lo s h
    rw [plookL, wrap_d hd] at h
    rw [Pl.goodL]
    exact ⟨ih x (by simp) (d + 1) _ s (PFine.back (plookL_mono (fun y _ => plook_mono y) _ _ _ _ _) h), ihl (fun y hy => ih y (by simp [hy])) _ _ _ _ h⟩
theorem plook_good : ∀ (p : Pl) (d : Nat) (lo : Int) (s : PSrv), PFine (plook p d lo s) → p.good d := by
  refine Pl.ind fun k m kids ex cols wth agg rds ih d lo s h => ?_
  rw [plook] at h
  rw [Pl.good]
  split at h
  · rename_i hc
    obtain ⟨h1, h2, h3⟩ := h
    simp only [Bool.or_eq_false_iff, Bool.not_eq_false'] at h1
    simp only [Bool.or_eq_true, Bool.not_eq_true', decide_eq_true_eq] at hc
    rcases hc with hc | hc
    · rw [h1.2] at hc; simp at hc
    · simp only at h3
      split at h3 <;> omega
  · rename_i hc
    simp only [Bool.or_eq_true, Bool.not_eq_true', decide_eq_true_eq, not_or, Bool.not_eq_false] at hc
    have hd : d ≤ 16 := by omega
    have hb := PFine.back (plookL_mono (fun y _ => plook_mono y) _ _ _ _ _) h
    obtain ⟨g1, g2, g3⟩ := exL_ok _ _ hc.1 hb.2.1
    refine ⟨hd, g1, fun e he => ?_, plookL_good hd ih _ _ _ _ h⟩
    obtain ⟨q1, q2⟩ := g3 e he
    rcases checkE_vals e with h | h | h
    · exact h
    · exact absurd h q2
    · exact absurd h q1
theorem checkP_fine {p : Pl} (h : checkP p = 0) : PFine (surveyP p) := by
  unfold checkP at h
  simp only at h
  split at h
  · simp at h
  · rename_i h1
    split at h
    · simp at h
    · rename_i h2
      split at h
      · simp at h
      · split at h
        · simp at h
        · rename_i h3
          simp only [decide_eq_true_eq] at h3
          exact ⟨by simpa using h1, by simpa using h2, by omega⟩
theorem checkP_good {p : Pl} (h : checkP p = 0) : p.good 1 := plook_good p 1 0 _ (checkP_fine h)
theorem checkSch_ok {ss : List (List Int)} (h : checkSch ss = 0) : ss.length ≤ 8 ∧ ∀ s ∈ ss, s.length ≤ 8 := by
  unfold checkSch at h
  split at h
  · simp at h
  · rename_i hc
    simp only [Bool.or_eq_true, decide_eq_true_eq, List.any_eq_true, not_or, not_exists, not_and] at hc
    refine ⟨by omega, fun s hs => ?_⟩
    have := hc.2 s hs
    simp only [badS, Bool.or_eq_true, decide_eq_true_eq, not_or] at this
    omega
/-- A plan's schema, or why it has none. -/
def inferP (ss : List (List Int)) (p : Pl) : List Int × Int :=
  if checkSch ss != 0 then ([], checkSch ss) else if checkP p != 0 then ([], checkP p)
  else if (jdg ss p 0 0 []).2.1 != 0 then ([], (jdg ss p 0 0 []).2.1) else ((jdg ss p 0 0 []).1, 0)
end Go.Proofs
end
section
set_option linter.unusedVariables false
set_option linter.unusedSimpArgs false
namespace Go.Proofs
open Go.Flat
set_option maxRecDepth 100000
set_option linter.unusedSimpArgs false
set_option linter.unusedVariables false
attribute [local simp] Bool.and_assoc Bool.or_assoc evalG evalX efD skF guardG guardL isCall stepL evalOp ev evs lk tmpsL app AV.ok fresh vv putCells insV ins del putL place Go.Flat.look fillC fillR getCells loadF storeF binF scalarBin intBin strBin isShift shiftBin unF lenF maxF minF rowsF appendF builtinF idxF natOf sliceP sliceF optEv Flat.cut overwrite toPV toPVs constAV scalarC scalarCs AV.cells TI.isAgg allSome andAll scalarEq buildable Go.Flat.lim retQ resL resAll resOne PartOf noTmp closedIn refs refs.refsL isSomeV hasB ids leA leA.leL renA renA.renL callB refsAll backL dropIds renS LiesAt injB ownB freshB memN locId insAll leA_refl leL_refl okS frzS frzA frzA.frzL evalD feet fine updCells cellsFrom memP footRf footWf noTmpU updIds opOps opIds idsA footR footW guardTs opTs dstTs callR callW renLoc renC inBlockQ thenQ Value.oneCell' IntKind.bits IntKind.signed PV.up toPH toPHs

theorem spec207 : ∀ (e : E) (d : Int), 1 ≤ d → d ≤ 17 → wrg e d = false → Flat.Sp Try.prog 207 [e.av, vv (.int .i64 (18 - d))] [] (vv (.int .i64 (dpE e (18 - d)))) [] := by
  refine E.ind fun op col c kids ih d h0 h1 hw => ?_
  obtain ⟨hok, hk⟩ := wrg_ok hw
  refine spec207_step op col c kids (Nat.le_trans (okE_len hok) (by simp [Flat.lim])) (18 - d) fun hm x hx => ?_
  have hd : d ≤ 16 := by simp at hm; omega
  have e1 : IntKind.i64.wrap (18 - d - 1) = 18 - (d + 1) := by rw [w64_in (by omega) (by omega)]; omega
  have hk2 := hk hd
  rw [w64_in (by omega) (by omega)] at hk2
  rw [e1]
  exact ih x hx (d + 1) (by omega) (by omega) (wrgL_mem hk2 x hx)
theorem sh_wrg {e : E} (h : (shE e 16).1 = true) : wrg e 1 = false := by
  rw [shE_eq e 16 (by omega) (by omega)] at h
  simpa using h

attribute [local simp] E.av in
theorem spec196 (op col : Int) (c : Val) (kids : List E) : Flat.Sp Try.prog 196 [(E.mk op col c kids).av] [] (vv (.int .i64 (checkE (E.mk op col c kids)))) [] := by
  refine sk Try.func196 ?_
  intro F G hn hG
  refine sq ?_
  refine rg 1000 ?_
  refine pr [1, 21] ?_
  refine sq ?_
  refine rc 2000 ?_
  refine oc id ((show Flat.Sp Try.prog 206 [(E.mk op col c kids).av, vv (.int .i64 16)] [] _ [] from spec206 (E.mk op col c kids) 16)) ?_
  refine oe 2100 ?_
  refine on ?_
  refine pr [1, 5, 10, 21] ?_
  refine sq ?_
  refine k_block ?_
  refine sq ?_
  refine rg 3000 ?_
  refine pr [1, 3, 4, 5, 10, 11, 13, 21] ?_
  refine cd ?_ ?_
  · intro h10_1
    have hs1 : (shE (E.mk op col c kids) 16).1 = false := by simpa using h10_1
    have hfin : checkE (E.mk op col c kids) = 4 := by rw [← checkEr_eq, checkEr, hs1]; rfl
    refine sq ?_
    refine rg 4000 ?_
    refine pr [2, 3] ?_
    refine k_ret ?_
    show retQ _ _ _ _ _ _ _
    simp [*]
  · intro h10_1
    have hs1 : (shE (E.mk op col c kids) 16).1 = true := by simpa using h10_1
    have hfin0 : checkE (E.mk op col c kids) = if decide (64 < (shE (E.mk op col c kids) 16).2) || decide (16 < dpE (E.mk op col c kids) 17) then 2 else 0 := by rw [← checkEr_eq, checkEr, hs1]; rfl
    refine sq ?_
    refine cv [(.tmp 13, vv (.bool (decide (64 < (shE (E.mk op col c kids) 16).2) || decide (16 < dpE (E.mk op col c kids) 17))))] ?_ ?_
    · skip
      refine rc 5000 ?_
      first | refine gp 5050 ?_ | refine os ?_ | refine gt 5050 ?_
      refine og (fun hg => (show Flat.Sp Try.prog 207 [(E.mk op col c kids).av, vv (.int .i64 17)] [] (vv (.int .i64 (dpE (E.mk op col c kids) 17))) [] from spec207 (E.mk op col c kids) 1 (by omega) (by omega) (sh_wrg hs1))) ?_
      first | refine gp 5250 ?_ | refine os ?_ | refine gt 5250 ?_
      refine oe 5300 ?_
      refine on ?_
      refine k_nil ?_
      refine ⟨rfl, ?_, ?_, ?_⟩ <;> simp [*]
    refine pr [2, 3, 13, 14] ?_
    refine cd ?_ ?_
    · intro h13_2
      have hfin : checkE (E.mk op col c kids) = 2 := by rw [hfin0]; exact if_pos h13_2
      refine sq ?_
      refine rg 6000 ?_
      refine pr [2, 3] ?_
      refine k_ret ?_
      show retQ _ _ _ _ _ _ _
      simp [*]
    · intro h13_2
      have hfin : checkE (E.mk op col c kids) = 0 := by rw [hfin0]; exact if_neg (by rw [h13_2]; decide)
      refine k_skip ?_
      refine k_nil ?_
      show AK _ _ _ _ _ _
      refine sq ?_
      refine rg 7000 ?_
      refine pr [2, 3] ?_
      refine k_ret ?_
      show retQ _ _ _ _ _ _ _
      simp [*]

theorem ge1 (n : Int) : decide (1 ≤ n) = decide (0 < n) := by rw [decide_eq_decide]; omega
theorem spec205 (k nk : Int) : Flat.Sp Try.prog 205 [vv (.int .u8 k), vv (.int .i64 nk)] [] (vv (.bool (manyP k nk))) [] := by
  refine sk Try.func205 ?_
  intro F G hn hG
  refine sq ?_
  refine rg 1000 ?_
  refine pr [0, 2, 4, 22] ?_
  refine sq ?_
  refine sq ?_
  refine rg 2000 ?_
  refine pr [1, 2, 4, 22] ?_
  refine k_block ?_
  refine sq ?_
  refine sq ?_
  refine rg 3000 ?_
  refine pr [1, 2, 4, 7, 8, 22] ?_
  refine cd ?_ ?_
  · intro h6_1
    refine k_skip ?_
    refine ct ?_
    refine sq ?_
    refine rg 5000 ?_
    refine pr [1, 2, 4, 5, 20, 22] ?_
    refine k_ret ?_
    show retQ _ _ _ _ _ _ _
    simp [*, manyP, ge1]
  · intro h6_1
    refine rg 4000 ?_
    refine pr [1, 2, 4, 7, 9, 22] ?_
    refine cd ?_ ?_
    · intro h6_2
      refine sq ?_
      refine rg 5000 ?_
      refine pr [1, 2, 4, 5, 20, 22] ?_
      refine k_ret ?_
      show retQ _ _ _ _ _ _ _
      simp [*, manyP, ge1]
    · intro h6_2
      refine sq ?_
      refine sq ?_
      refine rg 6000 ?_
      refine pr [1, 2, 4, 6, 11, 12, 13, 22] ?_
      refine cd ?_ ?_
      · intro h11_3
        refine k_skip ?_
        refine ct ?_
        refine sq ?_
        refine rg 8000 ?_
        refine pr [1, 2, 4, 5, 20, 22] ?_
        refine k_ret ?_
        show retQ _ _ _ _ _ _ _
        simp [*, manyP, ge1]
      · intro h11_3
        refine rg 7000 ?_
        refine pr [1, 2, 4, 6, 11, 12, 14, 22] ?_
        refine cd ?_ ?_
        · intro h11_4
          refine sq ?_
          refine rg 8000 ?_
          refine pr [1, 2, 4, 5, 20, 22] ?_
          refine k_ret ?_
          show retQ _ _ _ _ _ _ _
          simp [*, manyP, ge1]
        · intro h11_4
          refine sq ?_
          refine rg 9000 ?_
          refine pr [1, 2, 4, 5, 16, 17, 18, 22] ?_
          refine cd ?_ ?_
          · intro h16_5
            refine sq ?_
            refine rg 10000 ?_
            refine pr [1, 2, 4, 5, 20, 22] ?_
            refine k_ret ?_
            show retQ _ _ _ _ _ _ _
            simp [*, manyP, ge1]
          · intro h16_5
            refine k_skip ?_
            refine k_nil ?_
            show AK _ _ _ _ _ _
            refine sq ?_
            refine rg 11000 ?_
            refine pr [4, 5] ?_
            refine k_ret ?_
            show retQ _ _ _ _ _ _ _
            simp [*, manyP, ge1]

def oneQ2 (k n : Int) (nk ne : Nat) : Bool := okP1 k nk && ((k == 1 || (k == 2 || (k == 8 || n == 0))) && (k == 3 || (k == 4 || (ne : Int) == 0)))
def oneQ3 (k n : Int) (nk ne nc nw : Nat) : Bool := oneQ2 k n nk ne && ((k == 7 || (k == 8 || (nc : Int) == 0)) && ((k == 7 || (nw : Int) == 0) && (k != 4 || (ne : Int) == 1)))
def oneQ4 (k n : Int) (nk ne nc nw : Nat) (agg : Int) : Bool := if k == 8 then oneQ3 k n nk ne nc nw && (decide (0 < agg) && (decide (agg < 6) && (agg != 1 || n == 0))) else oneQ3 k n nk ne nc nw && agg == 0
def oneQ (k n : Int) (nk ne nc nw : Nat) (agg rds : Int) : Bool := if k == 10 then oneQ4 k n nk ne nc nw agg && (decide (1 ≤ rds) && decide (rds ≤ 16)) else oneQ4 k n nk ne nc nw agg && rds == 0
theorem oneQ_eq (k n : Int) (nk : Nat) (ex : List E) (cols wth : List Int) (agg rds : Int) : oneQ k n nk ex.length cols.length wth.length agg rds = formedP k n nk ex cols wth agg rds := by
  rw [Bool.eq_iff_iff]
  have hk : k ≤ 0 ∨ k = 1 ∨ k = 2 ∨ k = 3 ∨ k = 4 ∨ k = 5 ∨ k = 6 ∨ k = 7 ∨ k = 8 ∨ k = 9 ∨ k = 10 ∨ 11 ≤ k := by omega
  rcases hk with hk | rfl | rfl | rfl | rfl | rfl | rfl | rfl | rfl | rfl | rfl | hk
  · have h1 : ¬ 0 < k := by omega
    have h2 : okP1 k nk = false := by simp [okP1, h1]
    simp [oneQ, oneQ4, oneQ3, oneQ2, formedP, okP2, h2]
  all_goals first
    | (simp [oneQ, oneQ4, oneQ3, oneQ2, formedP, okP2, okP1, manyP, bareN, bareE, bareC, bareW, bareA, bareR]; done)
    | (simp [oneQ, oneQ4, oneQ3, oneQ2, formedP, okP2, okP1, manyP, bareN, bareE, bareC, bareW, bareA, bareR]; constructor <;> intro h <;> simp_all; done)
    | (simp only [oneQ, oneQ4, oneQ3, oneQ2, formedP, okP2, okP1, manyP, bareN, bareE, bareC, bareW, bareA, bareR]; simp; omega)
    | (have h1 : ¬ k < 11 := by omega
       have h2 : okP1 k nk = false := by simp [okP1, h1]
       simp [oneQ, oneQ4, oneQ3, oneQ2, formedP, okP2, h2])

attribute [local simp] Pl.av in
set_option maxHeartbeats 2000000 in
theorem spec195o (k m : Int) (kids : List Pl) (ex : List E) (cols wth : List Int) (agg rds : Int) : Flat.Sp Try.prog 195 [(Pl.mk k m kids ex cols wth agg rds).av] [] (vv (.bool (oneQ k m kids.length ex.length cols.length wth.length agg rds))) [] := by
  refine sk Try.func195 ?_
  intro F G hn hG
  refine sq ?_
  refine rg 1000 ?_
  refine pr [1, 135] ?_
  refine sq ?_
  refine rg 2000 ?_
  refine pr [1, 6, 8, 135] ?_
  refine sq ?_
  refine rg 3000 ?_
  refine pr [1, 6, 10, 135] ?_
  refine sq ?_
  refine cv [(.tmp 5, vv (.bool (okP1 k kids.length)))] ?_ ?_
  · skip
    refine rc 4000 ?_ (h := by simp [*, okP1]; exact is_rfl _)
    iterate 2 (first | refine gp 4150 ?_ (he := by intro hgg; (try simp only [Bool.and_eq_true] at hgg); simp [*, okP1]; exact is_rfl _) | refine os ?_ | refine gt 4150 ?_ (he := by simp [*, okP1]; exact is_rfl _))
    refine oe 4200 ?_ (h := by simp [*, okP1]; exact is_rfl _)
    iterate 4 (first | refine gp 4550 ?_ (he := by intro hgg; (try simp only [Bool.and_eq_true] at hgg); simp [*, okP1]; exact is_rfl _) | refine os ?_ | refine gt 4550 ?_ (he := by simp [*, okP1]; exact is_rfl _))
    refine og (fun hg => spec205 k kids.length) ?_ (hf := by intro hgg; (try simp only [Bool.and_eq_true] at hgg); simp [*, okP1]; exact is_rfl _) (hx := by intro hgg; (try simp only [Bool.and_eq_true] at hgg); simp [*, okP1]; exact is_rfl _) (hargs := by intro hgg; (try simp only [Bool.and_eq_true] at hgg); simp [*, okP1]) (hd := by simp [*, okP1]; exact is_rfl _)
    refine oe 4700 ?_ (h := by simp [*, okP1]; exact is_rfl _)
    refine on ?_
    refine k_nil ?_
    refine ⟨rfl, ?_, ?_, ?_⟩ <;> simp [*, okP1]
  refine pr [1, 6, 23, 135] ?_
  refine sq ?_
  refine cv [(.tmp 5, vv (.bool (oneQ2 k m kids.length ex.length)))] ?_ ?_
  · skip
    refine rc 5000 ?_ (h := by simp [*, oneQ2]; exact is_rfl _)
    iterate 14 (first | refine gp 6350 ?_ (he := by intro hgg; (try simp only [Bool.and_eq_true] at hgg); simp [*, oneQ2]; exact is_rfl _) | refine os ?_ | refine gt 6350 ?_ (he := by simp [*, oneQ2]; exact is_rfl _))
    refine oe 6400 ?_ (h := by simp [*, oneQ2]; exact is_rfl _)
    iterate 12 (first | refine gp 7550 ?_ (he := by intro hgg; (try simp only [Bool.and_eq_true] at hgg); simp [*, oneQ2]; exact is_rfl _) | refine os ?_ | refine gt 7550 ?_ (he := by simp [*, oneQ2]; exact is_rfl _))
    refine oe 7600 ?_ (h := by simp [*, oneQ2]; exact is_rfl _)
    refine on ?_
    refine k_nil ?_
    refine ⟨rfl, ?_, ?_, ?_⟩ <;> simp [*, oneQ2]
  refine pr [1, 6, 54, 135] ?_
  refine sq ?_
  refine cv [(.tmp 5, vv (.bool (oneQ3 k m kids.length ex.length cols.length wth.length)))] ?_ ?_
  · skip
    refine rc 6000 ?_ (h := by simp [*, oneQ3]; exact is_rfl _)
    iterate 11 (first | refine gp 7050 ?_ (he := by intro hgg; (try simp only [Bool.and_eq_true] at hgg); simp [*, oneQ3]; exact is_rfl _) | refine os ?_ | refine gt 7050 ?_ (he := by simp [*, oneQ3]; exact is_rfl _))
    refine oe 7100 ?_ (h := by simp [*, oneQ3]; exact is_rfl _)
    iterate 8 (first | refine gp 7850 ?_ (he := by intro hgg; (try simp only [Bool.and_eq_true] at hgg); simp [*, oneQ3]; exact is_rfl _) | refine os ?_ | refine gt 7850 ?_ (he := by simp [*, oneQ3]; exact is_rfl _))
    refine oe 7900 ?_ (h := by simp [*, oneQ3]; exact is_rfl _)
    iterate 8 (first | refine gp 8650 ?_ (he := by intro hgg; (try simp only [Bool.and_eq_true] at hgg); simp [*, oneQ3]; exact is_rfl _) | refine os ?_ | refine gt 8650 ?_ (he := by simp [*, oneQ3]; exact is_rfl _))
    refine oe 8700 ?_ (h := by simp [*, oneQ3]; exact is_rfl _)
    refine on ?_
    refine k_nil ?_
    refine ⟨rfl, ?_, ?_, ?_⟩ <;> simp [*, oneQ3]
  refine pr [1, 6, 88, 135] ?_
  refine sq ?_
  refine sq ?_
  refine rg 7000 ?_
  refine pr [1, 4, 5, 6, 88, 135] ?_
  refine cd ?_ ?_
  · intro h88_1
    refine rc 8000 ?_
    iterate 3 (first | refine gp 8250 ?_ | refine os ?_ | refine gt 8250 ?_)
    refine oe 8300 ?_
    iterate 3 (first | refine gp 8550 ?_ | refine os ?_ | refine gt 8550 ?_)
    refine oe 8600 ?_
    iterate 8 (first | refine gp 9350 ?_ | refine os ?_ | refine gt 9350 ?_)
    refine oe 9400 ?_
    refine on ?_
    refine pr [1, 4, 5, 6, 116, 135] ?_
    refine sq ?_
    refine sq ?_
    refine rg 10000 ?_
    refine pr [1, 3, 5, 6, 117, 135] ?_
    refine cd ?_ ?_
    · intro h117_2
      refine sq ?_
      refine rc 11000 ?_
      iterate 3 (first | refine gp 11250 ?_ | refine os ?_ | refine gt 11250 ?_)
      refine oe 11300 ?_
      iterate 3 (first | refine gp 11550 ?_ | refine os ?_ | refine gt 11550 ?_)
      refine oe 11600 ?_
      refine on ?_
      refine pr [1, 3, 5, 6, 129, 135] ?_
      refine k_ret ?_
      show retQ _ _ _ _ _ _ _
      simp [*, oneQ, oneQ4]
    · intro h117_2
      refine k_skip ?_
      refine sq ?_
      refine rc 12000 ?_
      iterate 3 (first | refine gp 12250 ?_ | refine os ?_ | refine gt 12250 ?_)
      refine oe 12300 ?_
      refine on ?_
      refine pr [2, 3] ?_
      refine k_ret ?_
      show retQ _ _ _ _ _ _ _
      simp [*, oneQ, oneQ4]
  · intro h88_1
    refine rc 9000 ?_
    iterate 3 (first | refine gp 9250 ?_ | refine os ?_ | refine gt 9250 ?_)
    refine oe 9300 ?_
    refine on ?_
    refine pr [1, 4, 5, 6, 116, 135] ?_
    refine sq ?_
    refine sq ?_
    refine rg 10000 ?_
    refine pr [1, 3, 5, 6, 117, 135] ?_
    refine cd ?_ ?_
    · intro h117_3
      refine sq ?_
      refine rc 11000 ?_
      iterate 3 (first | refine gp 11250 ?_ | refine os ?_ | refine gt 11250 ?_)
      refine oe 11300 ?_
      iterate 3 (first | refine gp 11550 ?_ | refine os ?_ | refine gt 11550 ?_)
      refine oe 11600 ?_
      refine on ?_
      refine pr [1, 3, 5, 6, 129, 135] ?_
      refine k_ret ?_
      show retQ _ _ _ _ _ _ _
      simp [*, oneQ, oneQ4]
    · intro h117_3
      refine k_skip ?_
      refine sq ?_
      refine rc 12000 ?_
      iterate 3 (first | refine gp 12250 ?_ | refine os ?_ | refine gt 12250 ?_)
      refine oe 12300 ?_
      refine on ?_
      refine pr [2, 3] ?_
      refine k_ret ?_
      show retQ _ _ _ _ _ _ _
      simp [*, oneQ, oneQ4]

theorem spec195 (k m : Int) (kids : List Pl) (ex : List E) (cols wth : List Int) (agg rds : Int) : Flat.Sp Try.prog 195 [(Pl.mk k m kids ex cols wth agg rds).av] [] (vv (.bool (formedP k m kids.length ex cols wth agg rds))) [] := by
  rw [← oneQ_eq]; exact spec195o k m kids ex cols wth agg rds

abbrev Fm := Bool × Int × Bool
mutual
/-- Whether a plan is right as far as a depth goes, how many it is, whether an expression is too long. -/
def fmP : Pl → Int → Fm
  | .mk k n kids ex cols wth agg rds, d =>
    let r := exL ex (formedP k n kids.length ex cols wth agg rds, false)
    if d == 0 || !r.1 then (r.1, 1, r.2) else fmL kids (IntKind.i64.wrap (d - 1)) (r.1, 1, r.2)
def fmL : List Pl → Int → Fm → Fm
  | [], _, t => t
  | x :: r, d, t => fmL r d (t.1 && (fmP x d).1, IntKind.i64.wrap (t.2.1 + (fmP x d).2.1), t.2.2 || (fmP x d).2.2)
end
theorem fmL_append (d : Int) : ∀ (l r : List Pl) (s : Fm), fmL (l ++ r) d s = fmL r d (fmL l d s)
  | [], r, s => by simp [fmL]
  | e :: l, r, s => by simp only [List.cons_append, fmL, fmL_append d l r]
theorem fmL_take {kids : List Pl} {d : Int} {s : Fm} {i : Nat} {x : Pl} (h : kids[i]? = some x) : (fmL (kids.take (i + 1)) d s).1 = ((fmL (kids.take i) d s).1 && (fmP x d).1) ∧ (fmL (kids.take (i + 1)) d s).2.1 = IntKind.i64.wrap ((fmL (kids.take i) d s).2.1 + (fmP x d).2.1) ∧ (fmL (kids.take (i + 1)) d s).2.2 = ((fmL (kids.take i) d s).2.2 || (fmP x d).2.2) := by
  rw [List.take_add_one, h, fmL_append]
  simp [fmL]
mutual
def dpP : Pl → Int → Int
  | .mk _ _ kids _ _ _ _ _, m => IntKind.i64.wrap ((if decide (1 < m) then dpPL kids (IntKind.i64.wrap (m - 1)) 0 else 0) + 1)
def dpPL : List Pl → Int → Int → Int
  | [], _, a => a
  | e :: r, m, a => dpPL r m (if decide (a < dpP e m) then dpP e m else a)
end
theorem dpPL_append (m : Int) : ∀ (l r : List Pl) (a : Int), dpPL (l ++ r) m a = dpPL r m (dpPL l m a)
  | [], r, a => by simp [dpPL]
  | e :: l, r, a => by simp only [List.cons_append, dpPL, dpPL_append m l r]
theorem dpPL_take {kids : List Pl} {m : Int} {a : Int} {i : Nat} {x : Pl} (h : kids[i]? = some x) : dpPL (kids.take (i + 1)) m a = if decide (dpPL (kids.take i) m a < dpP x m) then dpP x m else dpPL (kids.take i) m a := by
  rw [List.take_add_one, h, dpPL_append]
  simp [dpPL]
mutual
def lpQ : Pl → Int
  | .mk k _ kids _ _ _ _ _ => lpQL kids k 0 0
def lpQL : List Pl → Int → Int → Int → Int
  | [], _, _, a => a
  | x :: r, k, i, a => lpQL r k (i + 1) (if decide (a < (if (k == 10) && (i == 1) then IntKind.i64.wrap (lpQ x + 1) else lpQ x)) then (if (k == 10) && (i == 1) then IntKind.i64.wrap (lpQ x + 1) else lpQ x) else a)
end
/-- An iterate's second kid counts for one more. -/
def lpI (x : Pl) (k i : Int) : Int := if (k == 10) && (i == 1) then IntKind.i64.wrap (lpQ x + 1) else lpQ x
theorem lpQL_append (k : Int) : ∀ (l r : List Pl) (i a : Int), lpQL (l ++ r) k i a = lpQL r k (i + l.length) (lpQL l k i a)
  | [], r, i, a => by simp [lpQL]
  | e :: l, r, i, a => by
    simp only [List.cons_append, lpQL, lpQL_append k l r, List.length_cons]
    congr 1
    omega
theorem lpQL_take {kids : List Pl} {k a : Int} {i : Nat} {x : Pl} (h : kids[i]? = some x) : lpQL (kids.take (i + 1)) k 0 a = if decide (lpQL (kids.take i) k 0 a < lpI x k i) then lpI x k i else lpQL (kids.take i) k 0 a := by
  have hi : i < kids.length := (List.getElem?_eq_some_iff.1 h).1
  have hm : min i kids.length = i := by omega
  rw [List.take_add_one, h, lpQL_append]
  simp only [Option.toList_some, lpQL, List.length_take, hm, Int.zero_add, lpI]
  rfl

attribute [local simp] Pl.av E.av in
theorem spec172_step (k m : Int) (kids : List Pl) (ex : List E) (cols wth : List Int) (agg rds : Int) (hk : kids.length ≤ Flat.lim) (he : ex.length ≤ Flat.lim) (ih : ∀ x ∈ kids, ∀ d, Flat.Sp Try.prog 172 [x.av, vv (.int .i64 d)] [] (.tup [vv (.bool (fmP x d).1), vv (.int .i64 (fmP x d).2.1), vv (.bool (fmP x d).2.2)]) []) (d : Int) : Flat.Sp Try.prog 172 [(Pl.mk k m kids ex cols wth agg rds).av, vv (.int .i64 d)] [] (.tup [vv (.bool (fmP (Pl.mk k m kids ex cols wth agg rds) d).1), vv (.int .i64 (fmP (Pl.mk k m kids ex cols wth agg rds) d).2.1), vv (.bool (fmP (Pl.mk k m kids ex cols wth agg rds) d).2.2)]) [] := by
  refine sk Try.func172 ?_
  intro F G hn hG
  refine sq ?_
  refine rg 1000 ?_
  refine pr [1, 3, 4, 7, 8, 10, 11, 76] ?_
  refine sq ?_
  refine rc 2000 ?_
  refine oc id (spec195 k m kids ex cols wth agg rds) ?_
  refine oe 2100 ?_
  refine on ?_
  refine pr [1, 3, 4, 7, 8, 10, 11, 15, 17, 76] ?_
  refine sq ?_
  refine rg 3000 ?_
  refine pr [1, 3, 4, 7, 8, 10, 11, 15, 17, 76] ?_
  refine sq ?_
  refine sq ?_
  refine rg 4000 ?_
  refine pr [1, 3, 4, 7, 8, 10, 11, 15, 18, 76] ?_
  refine k_block ?_
  refine k_loop (fun n l => ∃ i, i + n = ex.length ∧ (True) ∧ l = [(.tmp 1, .av (vv (.int .i64 d))), (.tmp 2, .av (.ptr 1000 0)), (.tmp 4, .av (vv (.bool (exL (ex.take i) ((formedP k m kids.length ex cols wth agg rds), false)).1))), (.tmp 5, .av (vv (.int .i64 1))), (.tmp 6, .av (vv (.bool (exL (ex.take i) ((formedP k m kids.length ex cols wth agg rds), false)).2))), (.tmp 18, .av (.p (.ps (ex.map E.row)))), (.tmp 19, .av (vv (.int .i64 ex.length))), (.tmp 20, .av (vv (.int .i64 i))), (.var 1000, .n 8), (.cell 1000 0, .av (vv (.int .u8 k))), (.cell 1000 1, .av (vv (.int .i64 m))), (.cell 1000 2, .av (.p (.ps (kids.map Pl.row)))), (.cell 1000 3, .av (.p (.ps (ex.map E.row)))), (.cell 1000 4, .av (.p (.ps (cols.map irow)))), (.cell 1000 5, .av (.p (.ps (wth.map irow)))), (.cell 1000 6, .av (vv (.int .u8 agg))), (.cell 1000 7, .av (vv (.int .i64 rds)))]) (ex.length) hG ⟨_, ⟨by simp [exL], by simp, by simp⟩, 0, by simp, trivial, rfl⟩ ?_
  rintro n _ ⟨i, hin, hfa, rfl⟩
  refine sq ?_
  refine rg 5000 ?_
  refine pr [1, 3, 4, 7, 8, 10, 11, 15, 18, 76] ?_
  refine sq ?_
  refine cd ?_ ?_
  · intro h21_1
    have hlt : i < ex.length := by simpa using h21_1
    obtain ⟨x, hxe⟩ : ∃ x, ex[i] = x := ⟨_, rfl⟩
    have hx : ex[i]? = some x := by simp [hlt, hxe]
    have hw := wrap_succ (show i < Flat.lim by omega)
    have htk := exL_take (r := ((formedP k m kids.length ex cols wth agg rds), false)) hx
    simp only [exF] at htk
    obtain ⟨eo, ec, ev, ek⟩ := x
    refine k_skip ?_
    refine sq ?_
    refine k_block ?_
    refine sq ?_
    refine rg 6000 ?_ (h := by simp [*, E.row_eq]; exact is_rfl _)
    refine pr [1, 3, 4, 7, 8, 10, 11, 15, 18, 76] ?_
    refine sq ?_
    refine rc 7000 ?_
    refine oc id (spec196 eo ec ev ek) ?_
    refine oe 7100 ?_
    refine on ?_
    refine pr [1, 3, 4, 7, 8, 10, 11, 15, 18, 76] ?_
    refine sq ?_
    refine rc 8000 ?_
    iterate 2 (first | refine gp 8150 ?_ | refine os ?_ | refine gt 8150 ?_)
    refine oe 8200 ?_
    refine on ?_
    refine pr [1, 3, 4, 7, 8, 10, 11, 15, 18, 76] ?_
    refine rc 9000 ?_
    iterate 2 (first | refine gp 9150 ?_ | refine os ?_ | refine gt 9150 ?_)
    refine oe 9200 ?_
    refine on ?_
    refine k_nil ?_
    show AK _ _ _ _ _ _
    refine rg 10000 ?_
    refine k_nil ?_
    refine ⟨n - 1, by omega, _, ⟨?_, ?_, ?_⟩, i + 1, by omega, trivial, rfl⟩ <;> simp [*]
  · intro h21_1
    have hge : ex.length ≤ i := by simpa using h21_1
    have hte : ex.take i = ex := List.take_of_length_le hge
    refine k_exit ?_
    show AK _ _ _ _ _ _
    refine sq ?_
    refine sq ?_
    refine rc 11000 ?_
    iterate 2 (first | refine gp 11150 ?_ | refine os ?_ | refine gt 11150 ?_)
    refine oe 11200 ?_
    refine on ?_
    refine pr [1, 3, 4, 7, 11, 15, 42, 76] ?_
    refine cd ?_ ?_
    · intro h42_2
      have h42_2 : (d == 0 || !(exL ex ((formedP k m kids.length ex cols wth agg rds), false)).1) = true := by simpa using h42_2
      have hfin : fmP (Pl.mk k m kids ex cols wth agg rds) d = ((exL ex ((formedP k m kids.length ex cols wth agg rds), false)).1, 1, (exL ex ((formedP k m kids.length ex cols wth agg rds), false)).2) := by rw [fmP]; exact if_pos h42_2
      refine sq ?_
      refine rg 12000 ?_
      refine pr [1, 3, 4, 7, 11, 15, 46, 76] ?_
      refine k_ret ?_
      show retQ _ _ _ _ _ _ _
      simp [*]
    · intro h42_2
      have h42_2 : (d == 0 || !(exL ex ((formedP k m kids.length ex cols wth agg rds), false)).1) = false := by simpa using h42_2
      have hfin : fmP (Pl.mk k m kids ex cols wth agg rds) d = (fmL kids (IntKind.i64.wrap (d - 1)) (((exL ex ((formedP k m kids.length ex cols wth agg rds), false)).1, 1, (exL ex ((formedP k m kids.length ex cols wth agg rds), false)).2) : Fm)) := by rw [fmP]; exact if_neg (by rw [h42_2]; decide)
      refine k_skip ?_
      refine sq ?_
      refine sq ?_
      refine rg 13000 ?_
      refine pr [1, 2, 4, 7, 11, 15, 47, 76] ?_
      refine k_block ?_
      refine k_loop (fun n l => ∃ j, j + n = kids.length ∧ (True) ∧ l = [(.tmp 1, .av (vv (.int .i64 d))), (.tmp 4, .av (vv (.bool (fmL (kids.take j) (IntKind.i64.wrap (d - 1)) (((exL ex ((formedP k m kids.length ex cols wth agg rds), false)).1, 1, (exL ex ((formedP k m kids.length ex cols wth agg rds), false)).2) : Fm)).1))), (.tmp 5, .av (vv (.int .i64 (fmL (kids.take j) (IntKind.i64.wrap (d - 1)) (((exL ex ((formedP k m kids.length ex cols wth agg rds), false)).1, 1, (exL ex ((formedP k m kids.length ex cols wth agg rds), false)).2) : Fm)).2.1))), (.tmp 6, .av (vv (.bool (fmL (kids.take j) (IntKind.i64.wrap (d - 1)) (((exL ex ((formedP k m kids.length ex cols wth agg rds), false)).1, 1, (exL ex ((formedP k m kids.length ex cols wth agg rds), false)).2) : Fm)).2.2))), (.tmp 47, .av (.p (.ps (kids.map Pl.row)))), (.tmp 48, .av (vv (.int .i64 kids.length))), (.tmp 49, .av (vv (.int .i64 j)))]) (kids.length) hG ⟨_, ⟨by simp [fmL], by simp, by simp⟩, 0, by simp, trivial, rfl⟩ ?_
      rintro n _ ⟨j, hin, hfa, rfl⟩
      refine sq ?_
      refine rg 14000 ?_
      refine pr [1, 2, 4, 7, 11, 15, 47, 76] ?_
      refine sq ?_
      refine cd ?_ ?_
      · intro h50_3
        have hlt : j < kids.length := by simpa using h50_3
        obtain ⟨x, hxe⟩ : ∃ x, kids[j] = x := ⟨_, rfl⟩
        have hx : kids[j]? = some x := by simp [hlt, hxe]
        have hw := wrap_succ (show j < Flat.lim by omega)
        have htk := fmL_take (d := IntKind.i64.wrap (d - 1)) (s := (((exL ex ((formedP k m kids.length ex cols wth agg rds), false)).1, 1, (exL ex ((formedP k m kids.length ex cols wth agg rds), false)).2) : Fm)) hx
        obtain ⟨xk, xn, xq, xe, xc, xw, xa, xr⟩ := x
        have hmem : Pl.mk xk xn xq xe xc xw xa xr ∈ kids := hxe ▸ List.getElem_mem hlt
        refine k_skip ?_
        refine sq ?_
        refine k_block ?_
        refine sq ?_
        refine rg 15000 ?_ (h := by simp [*, Pl.row_eq]; exact is_rfl _)
        refine pr [1, 2, 4, 7, 11, 15, 47, 76] ?_
        refine sq ?_
        refine rc 16000 ?_
        refine oc id ((show Flat.Sp Try.prog 172 [(Pl.mk xk xn xq xe xc xw xa xr).av, _] [] _ [] from ih _ hmem (IntKind.i64.wrap (d - 1)))) ?_
        refine oe 16100 ?_
        refine on ?_
        refine pr [1, 2, 4, 7, 11, 15, 47, 76] ?_
        refine sq ?_
        refine rc 17000 ?_
        first | refine gp 17050 ?_ | refine os ?_ | refine gt 17050 ?_
        refine oe 17100 ?_
        refine on ?_
        refine pr [1, 2, 4, 7, 11, 15, 47, 76] ?_
        refine sq ?_
        refine rg 18000 ?_
        refine pr [1, 2, 4, 7, 11, 15, 47, 76] ?_
        refine rc 19000 ?_
        first | refine gp 19050 ?_ | refine os ?_ | refine gt 19050 ?_
        refine oe 19100 ?_
        refine on ?_
        refine k_nil ?_
        show AK _ _ _ _ _ _
        refine rg 20000 ?_
        refine k_nil ?_
        refine ⟨n - 1, by omega, _, ⟨?_, ?_, ?_⟩, j + 1, by omega, trivial, rfl⟩ <;> simp [*]
      · intro h50_3
        have hge : kids.length ≤ j := by simpa using h50_3
        have hta : kids.take j = kids := List.take_of_length_le hge
        refine k_exit ?_
        show AK _ _ _ _ _ _
        refine sq ?_
        refine rg 21000 ?_
        refine pr [4, 7] ?_
        refine k_ret ?_
        show retQ _ _ _ _ _ _ _
        simp [*]

theorem spec172 : ∀ (p : Pl), p.bnd → ∀ d : Int, Flat.Sp Try.prog 172 [p.av, vv (.int .i64 d)] [] (.tup [vv (.bool (fmP p d).1), vv (.int .i64 (fmP p d).2.1), vv (.bool (fmP p d).2.2)]) [] := by
  refine Pl.ind fun k m kids ex cols wth agg rds ih hb d => ?_
  rw [Pl.bnd] at hb
  exact spec172_step k m kids ex cols wth agg rds (Bnd_lim hb.1) (Bnd_lim hb.2.1) (fun x hx => ih x hx (Pl.bndL_mem hb.2.2.2.2 x hx)) d

attribute [local simp] Pl.av in
theorem spec173_step (k m : Int) (kids : List Pl) (ex : List E) (cols wth : List Int) (agg rds : Int) (hk : kids.length ≤ Flat.lim) (m1 : Int) (ih : ∀ x ∈ kids, ∀ m1, Flat.Sp Try.prog 173 [x.av, vv (.int .i64 m1)] [] (vv (.int .i64 (dpP x m1))) []) : Flat.Sp Try.prog 173 [(Pl.mk k m kids ex cols wth agg rds).av, vv (.int .i64 m1)] [] (vv (.int .i64 (dpP (Pl.mk k m kids ex cols wth agg rds) m1))) [] := by
  refine sk Try.func173 ?_
  intro F G hn hG
  refine sq ?_
  refine rg 1000 ?_
  refine pr [1, 3, 4, 6, 7, 29] ?_
  refine sq ?_
  refine rg 2000 ?_
  refine pr [1, 3, 4, 6, 7, 29] ?_
  refine sq ?_
  refine sq ?_
  refine rg 3000 ?_
  refine pr [1, 3, 4, 6, 7, 9, 10, 29] ?_
  refine cd ?_ ?_
  · intro h10_1
    have hm : decide (1 < m1) = true := h10_1
    have hfin : dpP (Pl.mk k m kids ex cols wth agg rds) m1 = IntKind.i64.wrap ((dpPL kids (IntKind.i64.wrap (m1 - 1)) 0) + 1) := by rw [dpP, if_pos hm]
    refine sq ?_
    refine rg 4000 ?_
    refine pr [1, 2, 4, 6, 7, 9, 12, 29] ?_
    refine k_block ?_
    refine k_loop (fun n l => ∃ i, i + n = kids.length ∧ (True) ∧ l = [(.tmp 1, .av (vv (.int .i64 m1))), (.tmp 5, .av (vv (.int .i64 (dpPL (kids.take i) (IntKind.i64.wrap (m1 - 1)) 0)))), (.tmp 12, .av (.p (.ps (kids.map Pl.row)))), (.tmp 13, .av (vv (.int .i64 kids.length))), (.tmp 14, .av (vv (.int .i64 i)))]) (kids.length) hG ⟨_, ⟨by simp [dpPL], by simp, by simp⟩, 0, by simp, trivial, rfl⟩ ?_
    rintro n _ ⟨i, hin, hfa, rfl⟩
    refine sq ?_
    refine rg 5000 ?_
    refine pr [1, 2, 4, 6, 7, 9, 12, 29] ?_
    refine sq ?_
    refine cd ?_ ?_
    · intro h15_2
      have hlt : i < kids.length := by simpa using h15_2
      obtain ⟨x, hxe⟩ : ∃ x, kids[i] = x := ⟨_, rfl⟩
      have hx : kids[i]? = some x := by simp [hlt, hxe]
      have hw := wrap_succ (show i < Flat.lim by omega)
      have htk := dpPL_take (m := IntKind.i64.wrap (m1 - 1)) (a := 0) hx
      obtain ⟨xk, xn, xq, xe, xc, xw, xa, xr⟩ := x
      have hmem : (Pl.mk xk xn xq xe xc xw xa xr) ∈ kids := hxe ▸ List.getElem_mem hlt
      refine k_skip ?_
      refine sq ?_
      refine k_block ?_
      refine sq ?_
      refine rg 6000 ?_ (h := by simp [*, Pl.row_eq]; exact is_rfl _)
      refine pr [1, 2, 4, 6, 7, 9, 12, 29] ?_
      refine sq ?_
      refine rc 7000 ?_
      refine oc id ((show Flat.Sp Try.prog 173 [(Pl.mk xk xn xq xe xc xw xa xr).av, _] [] _ [] from ih _ hmem (IntKind.i64.wrap (m1 - 1)))) ?_
      refine oe 7100 ?_
      refine on ?_
      refine pr [1, 2, 4, 6, 7, 9, 12, 29] ?_
      refine sq ?_
      refine rg 8000 ?_
      refine pr [1, 2, 4, 6, 7, 9, 12, 29] ?_
      refine cd ?_ ?_
      · intro h24_3
        have hnx : (dpPL (kids.take (i + 1)) (IntKind.i64.wrap (m1 - 1)) 0) = dpP (Pl.mk xk xn xq xe xc xw xa xr) (IntKind.i64.wrap (m1 - 1)) := by rw [htk]; exact if_pos h24_3
        clear htk
        refine rg 9000 ?_
        refine k_nil ?_
        show AK _ _ _ _ _ _
        refine rg 10000 ?_
        refine k_nil ?_
        refine ⟨n - 1, by omega, _, ⟨?_, ?_, ?_⟩, i + 1, by omega, trivial, rfl⟩ <;> simp [*]
      · intro h24_3
        have hnx : (dpPL (kids.take (i + 1)) (IntKind.i64.wrap (m1 - 1)) 0) = (dpPL (kids.take i) (IntKind.i64.wrap (m1 - 1)) 0) := by rw [htk]; exact if_neg (by rw [h24_3]; decide)
        clear htk
        refine k_skip ?_
        refine k_nil ?_
        show AK _ _ _ _ _ _
        refine rg 10000 ?_
        refine k_nil ?_
        refine ⟨n - 1, by omega, _, ⟨?_, ?_, ?_⟩, i + 1, by omega, trivial, rfl⟩ <;> simp [*]
    · intro h15_2
      have hge : kids.length ≤ i := by simpa using h15_2
      have hta : kids.take i = kids := List.take_of_length_le hge
      refine k_exit ?_
      show AK _ _ _ _ _ _
      refine sq ?_
      refine rg 11000 ?_
      refine pr [4, 5] ?_
      refine k_ret ?_
      show retQ _ _ _ _ _ _ _
      simp [*]
  · intro h10_1
    have hm : decide (1 < m1) = false := h10_1
    have hfin : dpP (Pl.mk k m kids ex cols wth agg rds) m1 = IntKind.i64.wrap (0 + 1) := by rw [dpP, if_neg (by rw [hm]; decide)]
    refine k_skip ?_
    refine sq ?_
    refine rg 11000 ?_
    refine pr [4, 5] ?_
    refine k_ret ?_
    show retQ _ _ _ _ _ _ _
    simp [*]

theorem spec173 : ∀ (p : Pl), p.bnd → ∀ m : Int, Flat.Sp Try.prog 173 [p.av, vv (.int .i64 m)] [] (vv (.int .i64 (dpP p m))) [] := by
  refine Pl.ind fun k n kids ex cols wth agg rds ih hb m => ?_
  rw [Pl.bnd] at hb
  exact spec173_step k n kids ex cols wth agg rds (Bnd_lim hb.1) m fun x hx => ih x hx (Pl.bndL_mem hb.2.2.2.2 x hx)

attribute [local simp] Pl.av in
theorem spec174_step (k m : Int) (kids : List Pl) (ex : List E) (cols wth : List Int) (agg rds : Int) (hk : kids.length ≤ Flat.lim) (ih : ∀ x ∈ kids, Flat.Sp Try.prog 174 [x.av] [] (vv (.int .i64 (lpQ x))) []) : Flat.Sp Try.prog 174 [(Pl.mk k m kids ex cols wth agg rds).av] [] (vv (.int .i64 (lpQ (Pl.mk k m kids ex cols wth agg rds)))) [] := by
  refine sk Try.func174 ?_
  intro F G hn hG
  refine sq ?_
  refine rg 1000 ?_
  refine pr [1, 32] ?_
  refine sq ?_
  refine rg 2000 ?_
  refine pr [1, 32] ?_
  refine sq ?_
  refine sq ?_
  refine rg 3000 ?_
  refine pr [1, 7, 8, 32] ?_
  refine k_block ?_
  refine k_loop (fun n l => ∃ i, i + n = kids.length ∧ (True) ∧ l = [(.tmp 1, .av (.ptr 1000 0)), (.tmp 3, .av (vv (.int .i64 (lpQL (kids.take i) k 0 0)))), (.tmp 8, .av (.p (.ps (kids.map Pl.row)))), (.tmp 9, .av (vv (.int .i64 kids.length))), (.tmp 10, .av (vv (.int .i64 i))), (.var 1000, .n 8), (.cell 1000 0, .av (vv (.int .u8 k))), (.cell 1000 1, .av (vv (.int .i64 m))), (.cell 1000 2, .av (.p (.ps (kids.map Pl.row)))), (.cell 1000 3, .av (.p (.ps (ex.map E.row)))), (.cell 1000 4, .av (.p (.ps (cols.map irow)))), (.cell 1000 5, .av (.p (.ps (wth.map irow)))), (.cell 1000 6, .av (vv (.int .u8 agg))), (.cell 1000 7, .av (vv (.int .i64 rds)))]) (kids.length) hG ⟨_, ⟨by simp [lpQL], by simp, by simp⟩, 0, by simp, trivial, rfl⟩ ?_
  rintro n _ ⟨i, hin, hfa, rfl⟩
  refine sq ?_
  refine rg 4000 ?_
  refine pr [1, 7, 8, 32] ?_
  refine sq ?_
  refine cd ?_ ?_
  · intro h11_1
    have hlt : i < kids.length := by simpa using h11_1
    obtain ⟨x, hxe⟩ : ∃ x, kids[i] = x := ⟨_, rfl⟩
    have hx : kids[i]? = some x := by simp [hlt, hxe]
    have hw := wrap_succ (show i < Flat.lim by omega)
    have htk := lpQL_take (k := k) (a := 0) hx
    obtain ⟨xk, xn, xq, xe, xc, xw, xa, xr⟩ := x
    have hmem : (Pl.mk xk xn xq xe xc xw xa xr) ∈ kids := hxe ▸ List.getElem_mem hlt
    refine k_skip ?_
    refine sq ?_
    refine k_block ?_
    refine sq ?_
    refine rg 5000 ?_ (h := by simp [*, Pl.row_eq]; exact is_rfl _)
    refine pr [1, 7, 8, 32] ?_
    refine sq ?_
    refine rc 6000 ?_
    refine oc id ((show Flat.Sp Try.prog 174 [(Pl.mk xk xn xq xe xc xw xa xr).av] [] _ [] from ih _ hmem)) ?_
    refine oe 6100 ?_
    refine on ?_
    refine pr [1, 7, 8, 32] ?_
    refine sq ?_
    refine sq ?_
    refine rc 7000 ?_
    iterate 2 (first | refine gp 7150 ?_ | refine os ?_ | refine gt 7150 ?_)
    refine oe 7200 ?_
    refine on ?_
    refine pr [1, 7, 8, 32] ?_
    refine cd ?_ ?_
    · intro h23_2
      have hli : lpI (Pl.mk xk xn xq xe xc xw xa xr) k i = IntKind.i64.wrap (lpQ (Pl.mk xk xn xq xe xc xw xa xr) + 1) := if_pos (by simpa using h23_2)
      rw [hli] at htk
      refine rg 8000 ?_
      refine pr [1, 7, 8, 32] ?_
      refine sq ?_
      refine rg 9000 ?_
      refine pr [1, 7, 8, 32] ?_
      refine cd ?_ ?_
      · intro h28_3
        have hnx := htk.trans (if_pos h28_3)
        clear htk
        refine rg 10000 ?_
        refine k_nil ?_
        show AK _ _ _ _ _ _
        refine rg 11000 ?_
        refine k_nil ?_
        refine ⟨n - 1, by omega, _, ⟨?_, ?_, ?_⟩, i + 1, by omega, trivial, rfl⟩ <;> simp [*]
      · intro h28_3
        have hnx := htk.trans (if_neg (by rw [h28_3]; decide))
        clear htk
        refine k_skip ?_
        refine k_nil ?_
        show AK _ _ _ _ _ _
        refine rg 11000 ?_
        refine k_nil ?_
        refine ⟨n - 1, by omega, _, ⟨?_, ?_, ?_⟩, i + 1, by omega, trivial, rfl⟩ <;> simp [*]
    · intro h23_2
      have hli : lpI (Pl.mk xk xn xq xe xc xw xa xr) k i = lpQ (Pl.mk xk xn xq xe xc xw xa xr) := if_neg (by simpa using h23_2)
      rw [hli] at htk
      refine k_skip ?_
      refine sq ?_
      refine rg 9000 ?_
      refine pr [1, 7, 8, 32] ?_
      refine cd ?_ ?_
      · intro h28_4
        have hnx := htk.trans (if_pos h28_4)
        clear htk
        refine rg 10000 ?_
        refine k_nil ?_
        show AK _ _ _ _ _ _
        refine rg 11000 ?_
        refine k_nil ?_
        refine ⟨n - 1, by omega, _, ⟨?_, ?_, ?_⟩, i + 1, by omega, trivial, rfl⟩ <;> simp [*]
      · intro h28_4
        have hnx := htk.trans (if_neg (by rw [h28_4]; decide))
        clear htk
        refine k_skip ?_
        refine k_nil ?_
        show AK _ _ _ _ _ _
        refine rg 11000 ?_
        refine k_nil ?_
        refine ⟨n - 1, by omega, _, ⟨?_, ?_, ?_⟩, i + 1, by omega, trivial, rfl⟩ <;> simp [*]
  · intro h11_1
    have hge : kids.length ≤ i := by simpa using h11_1
    have hta : kids.take i = kids := List.take_of_length_le hge
    refine k_exit ?_
    show AK _ _ _ _ _ _
    refine sq ?_
    refine rg 12000 ?_
    refine pr [2, 3] ?_
    refine k_ret ?_
    show retQ _ _ _ _ _ _ _
    simp [*, lpQ]

theorem spec174 : ∀ (p : Pl), p.bnd → Flat.Sp Try.prog 174 [p.av] [] (vv (.int .i64 (lpQ p))) [] := by
  refine Pl.ind fun k n kids ex cols wth agg rds ih hb => ?_
  rw [Pl.bnd] at hb
  exact spec174_step k n kids ex cols wth agg rds (Bnd_lim hb.1) fun x hx => ih x hx (Pl.bndL_mem hb.2.2.2.2 x hx)

end Go.Proofs
end
section
set_option linter.unusedVariables false
set_option linter.unusedSimpArgs false
namespace Go.Proofs
open Go.Flat
theorem exL_split : ∀ (ex : List E) (b g : Bool), exL ex (b, g) = ((exL ex (b, false)).1, g || (exL ex (b, false)).2)
  | [], b, g => by simp [exL]
  | e :: r, b, g => by
    simp only [exL_cons, exF, Bool.false_or]
    rw [exL_split r _ (g || _), exL_split r _ (checkE e == 2)]
    simp [Bool.or_assoc]
/-- What a plan's survey says beside the document's count. -/
def Like (p : Pl) : Prop := ∀ (d lo : Int) (s : PSrv), 1 ≤ d → d ≤ 17 →
  (plook p d lo s).1 = IntKind.i64.wrap (s.1 + (fmP p (17 - d)).2.1) ∧ (plook p d lo s).2.2.2.1 = (s.2.2.2.1 || !(fmP p (17 - d)).1) ∧ (plook p d lo s).2.2.2.2 = (s.2.2.2.2 || (fmP p (17 - d)).2.2)
theorem fmL_like {l : List Pl} (ih : ∀ x ∈ l, Like x) {d : Int} (h0 : 1 ≤ d) (h1 : d ≤ 16) (k lo : Int) : ∀ (i : Int) (s : PSrv) (t : Fm) (a : Int) (b w : Bool), s.1 = IntKind.i64.wrap (a + t.2.1) → s.2.2.2.1 = (b || !t.1) → s.2.2.2.2 = (w || t.2.2) →
    (plookL l k i d lo s).1 = IntKind.i64.wrap (a + (fmL l (17 - (d + 1)) t).2.1) ∧ (plookL l k i d lo s).2.2.2.1 = (b || !(fmL l (17 - (d + 1)) t).1) ∧ (plookL l k i d lo s).2.2.2.2 = (w || (fmL l (17 - (d + 1)) t).2.2) := by
  induction l with
  | nil => intro i s t a b w e1 e2 e3; rw [plookL, fmL]; exact ⟨e1, e2, e3⟩
  | cons x r hr =>
    intro i s t a b w e1 e2 e3
    rw [plookL, fmL]
    obtain ⟨g1, g2, g3⟩ := ih x (by simp) (d + 1) (IntKind.i64.wrap (lo + morP k i)) s (by omega) (by omega)
    rw [w64_in (n := d + 1) (by omega) (by omega)]
    refine hr (fun y hy => ih y (by simp [hy])) (i + 1) _ _ a b w ?_ ?_ ?_
    · rw [g1, e1, w64_add, w64_r, Int.add_assoc]
    · rw [g2, e2]; cases b <;> cases t.1 <;> simp
    · rw [g3, e3, Bool.or_assoc]
theorem like : ∀ p : Pl, Like p := by
  refine Pl.ind fun k m kids ex cols wth agg rds ih d lo s h0 h1 => ?_
  rw [plook, fmP]
  rw [exL_split ex _ s.2.2.2.2]
  have hd : decide (d > 16) = (17 - d == 0) := by
    by_cases h : d = 17
    · subst h; rfl
    · have e1 : ¬ d > 16 := by omega
      have e2 : ¬ 17 - d = 0 := by omega
      simp [e1, e2]
  rw [hd, Bool.or_comm (17 - d == 0)]
  split
  · exact ⟨rfl, rfl, rfl⟩
  · rename_i hc
    have hdn : d ≤ 16 := by
      by_cases h : d ≤ 16
      · exact h
      · have : d = 17 := by omega
        subst this; simp at hc
    have hok : (exL ex (formedP k m kids.length ex cols wth agg rds, false)).1 = true := by
      cases h : (exL ex (formedP k m kids.length ex cols wth agg rds, false)).1 with
      | true => rfl
      | false => rw [h] at hc; simp at hc
    have e1 : IntKind.i64.wrap (17 - d - 1) = 17 - (d + 1) := by rw [w64_in (by omega) (by omega)]; omega
    rw [e1]
    exact fmL_like ih h0 hdn k lo 0 _ _ s.1 s.2.2.2.1 s.2.2.2.2 rfl rfl rfl
theorem fmL_ok : ∀ {l : List Pl} {d : Int} {t : Fm}, (fmL l d t).1 = true → t.1 = true ∧ ∀ x ∈ l, (fmP x d).1 = true
  | [], d, t, h => ⟨by rwa [fmL] at h, by simp⟩
  | y :: r, d, t, h => by
    rw [fmL] at h
    obtain ⟨h1, h2⟩ := fmL_ok h
    simp only [Bool.and_eq_true] at h1
    refine ⟨h1.1, fun x hx => ?_⟩
    rcases List.mem_cons.1 hx with rfl | hx
    · exact h1.2
    · exact h2 x hx
/-- A right plan: its kids are. -/
theorem fmP_ok {k m : Int} {kids : List Pl} {ex : List E} {cols wth : List Int} {agg rds d : Int} (h : (fmP (.mk k m kids ex cols wth agg rds) d).1 = true) : (exL ex (formedP k m kids.length ex cols wth agg rds, false)).1 = true ∧ (d ≠ 0 → ∀ x ∈ kids, (fmP x (IntKind.i64.wrap (d - 1))).1 = true) := by
  rw [fmP] at h
  split at h
  · rename_i hc
    have hok : (exL ex (formedP k m kids.length ex cols wth agg rds, false)).1 = true := h
    refine ⟨hok, fun hd => ?_⟩
    rw [hok] at hc
    simp at hc
    exact absurd hc hd
  · obtain ⟨h1, h2⟩ := fmL_ok h
    exact ⟨h1, fun _ => h2⟩
theorem dpPL_ge : ∀ (l : List Pl) (m a : Int), a ≤ dpPL l m a ∧ ∀ x ∈ l, dpP x m ≤ dpPL l m a
  | [], m, a => by simp [dpPL]
  | y :: r, m, a => by
    rw [dpPL]
    obtain ⟨h1, h2⟩ := dpPL_ge r m (if decide (a < dpP y m) then dpP y m else a)
    have h3 : a ≤ (if decide (a < dpP y m) then dpP y m else a) ∧ dpP y m ≤ (if decide (a < dpP y m) then dpP y m else a) := by
      by_cases h : a < dpP y m
      · simp only [h, decide_true, if_true]; omega
      · simp only [h, decide_false]; simp; omega
    refine ⟨by omega, fun x hx => ?_⟩
    rcases List.mem_cons.1 hx with rfl | hx
    · omega
    · exact h2 x hx
theorem dpPL_le {l : List Pl} {m b : Int} (h : ∀ x ∈ l, dpP x m ≤ b) : ∀ a : Int, a ≤ b → dpPL l m a ≤ b := by
  induction l with
  | nil => intro a ha; rw [dpPL]; exact ha
  | cons x r hr =>
    intro a ha
    rw [dpPL]
    refine hr (fun y hy => h y (by simp [hy])) _ ?_
    split
    · exact h x (by simp)
    · exact ha
/-- How deep a plan is as far as a depth goes. -/
theorem dpP_bd : ∀ (p : Pl) (d : Int), 1 ≤ d → d ≤ 17 → 1 ≤ dpP p (18 - d) ∧ dpP p (18 - d) ≤ 18 - d := by
  refine Pl.ind fun k m kids ex cols wth agg rds ih d h0 h1 => ?_
  rw [dpP]
  by_cases h : d ≤ 16
  · have e1 : IntKind.i64.wrap (18 - d - 1) = 18 - (d + 1) := by rw [w64_in (by omega) (by omega)]; omega
    rw [if_pos (by simp; omega), e1]
    have g1 := (dpPL_ge kids (18 - (d + 1)) 0).1
    have g2 := dpPL_le (l := kids) (m := 18 - (d + 1)) (b := 18 - (d + 1)) (fun x hx => (ih x hx (d + 1) (by omega) (by omega)).2) 0 (by omega)
    rw [w64_in (by omega) (by omega)]
    omega
  · rw [if_neg (by simp; omega), w64_in (by omega) (by omega)]
    omega
theorem dpP_kids {k m : Int} {kids : List Pl} {ex : List E} {cols wth : List Int} {agg rds d : Int} (h0 : 1 ≤ d) (h1 : d ≤ 16) : dpP (.mk k m kids ex cols wth agg rds) (18 - d) = dpPL kids (18 - (d + 1)) 0 + 1 := by
  have e1 : IntKind.i64.wrap (18 - d - 1) = 18 - (d + 1) := by rw [w64_in (by omega) (by omega)]; omega
  rw [dpP, if_pos (by simp; omega), e1]
  have g1 := (dpPL_ge kids (18 - (d + 1)) 0).1
  have g2 := dpPL_le (l := kids) (m := 18 - (d + 1)) (b := 18 - (d + 1)) (fun x hx => (dpP_bd x (d + 1) (by omega) (by omega)).2) 0 (by omega)
  rw [w64_in (by omega) (by omega)]
/-- The depth that the survey comes to. -/
def Deep (p : Pl) : Prop := ∀ (d lo : Int) (s : PSrv), 1 ≤ d → d ≤ 17 → (fmP p (17 - d)).1 = true → (plook p d lo s).2.1 = max s.2.1 (d - 1 + dpP p (18 - d))
theorem deepL {l : List Pl} (ih : ∀ x ∈ l, Deep x) {d : Int} (h0 : 1 ≤ d) (h1 : d ≤ 16) (hf : ∀ x ∈ l, (fmP x (17 - (d + 1))).1 = true) (k lo : Int) : ∀ (i : Int) (s : PSrv) (a : Int), 0 ≤ a → s.2.1 ≥ d + a → (plookL l k i d lo s).2.1 = max s.2.1 (d + dpPL l (18 - (d + 1)) a) := by
  induction l with
  | nil => intro i s a ha hs; rw [plookL, dpPL]; omega
  | cons x r hr =>
    intro i s a ha hs
    rw [plookL, dpPL, w64_in (n := d + 1) (by omega) (by omega)]
    have g := ih x (by simp) (d + 1) (IntKind.i64.wrap (lo + morP k i)) s (by omega) (by omega) (hf x (by simp))
    have hb := dpP_bd x (d + 1) (by omega) (by omega)
    have hm : (if decide (a < dpP x (18 - (d + 1))) then dpP x (18 - (d + 1)) else a) = max a (dpP x (18 - (d + 1))) := by
      by_cases h : a < dpP x (18 - (d + 1))
      · simp only [h, decide_true, if_true]; omega
      · simp only [h, decide_false]; simp; omega
    rw [hm, hr (fun y hy => ih y (by simp [hy])) (fun y hy => hf y (by simp [hy])) (i + 1) (plook x (d + 1) (IntKind.i64.wrap (lo + morP k i)) s) (max a (dpP x (18 - (d + 1)))) (by omega) (by rw [g]; omega), g]
    have g1 := (dpPL_ge r (18 - (d + 1)) (max a (dpP x (18 - (d + 1))))).1
    omega
theorem deep_eq : ∀ p : Pl, Deep p := by
  refine Pl.ind fun k m kids ex cols wth agg rds ih d lo s h0 h1 hf => ?_
  obtain ⟨f1, f2⟩ := fmP_ok hf
  rw [plook]
  rw [exL_split ex _ s.2.2.2.2]
  simp only [f1]
  have hmx : (if d > s.2.1 then d else s.2.1) = max s.2.1 d := by split <;> omega
  by_cases h : d ≤ 16
  · have e1 : IntKind.i64.wrap (17 - d - 1) = 17 - (d + 1) := by rw [w64_in (by omega) (by omega)]; omega
    rw [e1] at f2
    rw [if_neg (by simp; omega), deepL ih h0 h (f2 (by omega)) k lo 0 _ 0 (by omega) (by simp only [hmx]; omega), dpP_kids h0 h]
    simp only [hmx]
    have g1 := (dpPL_ge kids (18 - (d + 1)) 0).1
    omega
  · have : d = 17 := by omega
    subst this
    rw [if_pos (by simp)]
    have := dpP_bd (.mk k m kids ex cols wth agg rds) 17 (by omega) (by omega)
    simp only [hmx]
    omega
theorem lpQL_ge : ∀ (l : List Pl) (k i a : Int), a ≤ lpQL l k i a
  | [], k, i, a => by simp [lpQL]
  | y :: r, k, i, a => by
    rw [lpQL]
    refine Int.le_trans ?_ (lpQL_ge r k (i + 1) _)
    generalize (if (k == 10 && i == 1) = true then IntKind.i64.wrap (lpQ y + 1) else lpQ y) = z
    by_cases h : a < z
    · simp only [h, decide_true, if_true]; omega
    · simp only [h, decide_false]; simp
/-- The loops that the survey comes to. -/
def Loop (p : Pl) : Prop := ∀ (d lo : Int) (s : PSrv), 1 ≤ d → d ≤ 17 → 0 ≤ lo → lo < d → (fmP p (17 - d)).1 = true → dpP p (18 - d) ≤ 17 - d → (plook p d lo s).2.2.1 = max s.2.2.1 (lo + lpQ p) ∧ 0 ≤ lpQ p ∧ lpQ p ≤ 16 - d
theorem loopL {l : List Pl} (ih : ∀ x ∈ l, Loop x) {d lo : Int} (h0 : 1 ≤ d) (h1 : d ≤ 16) (hl0 : 0 ≤ lo) (hl : lo < d) (hf : ∀ x ∈ l, (fmP x (17 - (d + 1))).1 = true) (hd : ∀ x ∈ l, dpP x (18 - (d + 1)) ≤ 17 - (d + 1)) (k : Int) : ∀ (i : Int) (s : PSrv) (a : Int), 0 ≤ a → a ≤ 16 - d → s.2.2.1 ≥ lo + a → (plookL l k i d lo s).2.2.1 = max s.2.2.1 (lo + lpQL l k i a) ∧ lpQL l k i a ≤ 16 - d := by
  induction l with
  | nil => intro i s a ha ha2 hs; rw [plookL, lpQL]; omega
  | cons x r hr =>
    intro i s a ha ha2 hs
    rw [plookL, lpQL, w64_in (n := d + 1) (by omega) (by omega)]
    have hmo : 0 ≤ morP k i ∧ morP k i ≤ 1 := by unfold morP; split <;> omega
    rw [w64_in (n := lo + morP k i) (by omega) (by omega)]
    obtain ⟨g, g2, g3⟩ := ih x (by simp) (d + 1) (lo + morP k i) s (by omega) (by omega) (by omega) (by omega) (hf x (by simp)) (hd x (by simp))
    have hz : (if (k == 10 && i == 1) = true then IntKind.i64.wrap (lpQ x + 1) else lpQ x) = lpQ x + morP k i := by
      unfold morP
      split
      · rw [w64_in (by omega) (by omega)]
      · omega
    rw [hz]
    have hm : (if decide (a < lpQ x + morP k i) then lpQ x + morP k i else a) = max a (lpQ x + morP k i) := by
      by_cases h : a < lpQ x + morP k i
      · simp only [h, decide_true, if_true]; omega
      · simp only [h, decide_false]; simp; omega
    rw [hm]
    obtain ⟨q1, q2⟩ := hr (fun y hy => ih y (by simp [hy])) (fun y hy => hf y (by simp [hy])) (fun y hy => hd y (by simp [hy])) (i + 1) (plook x (d + 1) (lo + morP k i) s) (max a (lpQ x + morP k i)) (by omega) (by omega) (by rw [g]; omega)
    refine ⟨?_, q2⟩
    rw [q1, g]
    have g1 := lpQL_ge r k (i + 1) (max a (lpQ x + morP k i))
    omega
theorem loop_eq : ∀ p : Pl, Loop p := by
  refine Pl.ind fun k m kids ex cols wth agg rds ih d lo s h0 h1 hl0 hl hf hd => ?_
  obtain ⟨f1, f2⟩ := fmP_ok hf
  rw [plook]
  rw [exL_split ex _ s.2.2.2.2]
  simp only [f1]
  have hmx : (if lo > s.2.2.1 then lo else s.2.2.1) = max s.2.2.1 lo := by split <;> omega
  have hb := dpP_bd (.mk k m kids ex cols wth agg rds) d h0 h1
  have h : d ≤ 16 := by omega
  have e1 : IntKind.i64.wrap (17 - d - 1) = 17 - (d + 1) := by rw [w64_in (by omega) (by omega)]; omega
  rw [e1] at f2
  rw [dpP_kids h0 h] at hd
  obtain ⟨q1, q2⟩ := loopL ih h0 h hl0 hl (f2 (by omega)) (fun x hx => by have := (dpPL_ge kids (18 - (d + 1)) 0).2 x hx; omega) k 0 (IntKind.i64.wrap (s.1 + 1), (if d > s.2.1 then d else s.2.1), (if lo > s.2.2.1 then lo else s.2.2.1), s.2.2.2.1 || !true, s.2.2.2.2 || (exL ex (formedP k m kids.length ex cols wth agg rds, false)).2) 0 (by omega) (by omega) (by simp only [hmx]; omega)
  have g1 := lpQL_ge kids k 0 0
  rw [if_neg (by simp; omega), q1, lpQ]
  simp only [hmx]
  omega
/-- The document's check. -/
def checkPr (p : Pl) : Int := if !(fmP p 16).1 then 4 else if (fmP p 16).2.2 || (decide (64 < (fmP p 16).2.1) || (decide (16 < dpP p 17) || decide (2 < lpQ p))) then 2 else 0
theorem fmL_wrap : ∀ (l : List Pl) (d : Int) (t : Fm), IntKind.i64.wrap t.2.1 = t.2.1 → IntKind.i64.wrap (fmL l d t).2.1 = (fmL l d t).2.1
  | [], d, t, h => by rw [fmL]; exact h
  | x :: r, d, t, h => by rw [fmL]; exact fmL_wrap r d _ (w64_w _)
theorem fmP_wrap (p : Pl) (d : Int) : IntKind.i64.wrap (fmP p d).2.1 = (fmP p d).2.1 := by
  obtain ⟨k, m, kids, ex, cols, wth, agg, rds⟩ := p
  rw [fmP]
  split
  · rfl
  · exact fmL_wrap _ _ _ rfl
theorem checkPr_eq (p : Pl) : checkPr p = checkP p := by
  obtain ⟨a1, a2, a3⟩ := like p 1 0 (0, 0, 0, false, false) (by omega) (by omega)
  simp only [show (17 : Int) - 1 = 16 by omega, Int.zero_add, Bool.false_or] at a1 a2 a3
  rw [fmP_wrap] at a1
  unfold checkP checkPr surveyP
  simp only
  rw [a1, a2, a3]
  cases hf : (fmP p 16).1 with
  | false => rfl
  | true =>
    have b := deep_eq p 1 0 (0, 0, 0, false, false) (by omega) (by omega) hf
    have hb := dpP_bd p 1 (by omega) (by omega)
    simp only [show (18 : Int) - 1 = 17 by omega] at b hb
    have b' : (plook p 1 0 (0, 0, 0, false, false)).2.1 = dpP p 17 := by rw [b]; omega
    rw [b']
    by_cases hd : dpP p 17 ≤ 16
    · obtain ⟨c, c2, c3⟩ := loop_eq p 1 0 (0, 0, 0, false, false) (by omega) (by omega) (by omega) (by omega) hf hd
      have c' : (plook p 1 0 (0, 0, 0, false, false)).2.2.1 = lpQ p := by rw [c]; show max (0 : Int) (0 + lpQ p) = lpQ p; omega
      rw [c']
      cases (fmP p 16).2.2 <;> by_cases h1 : 64 < (fmP p 16).2.1 <;> by_cases h2 : 16 < dpP p 17 <;> by_cases h3 : 2 < lpQ p <;> simp [h1, h2, h3]
    · have h2 : 16 < dpP p 17 := by omega
      cases (fmP p 16).2.2 <;> by_cases h1 : 64 < (fmP p 16).2.1 <;> simp [h1, h2]
end Go.Proofs
end
section
set_option linter.unusedVariables false
set_option linter.unusedSimpArgs false
namespace Go.Proofs
open Go.Flat
mutual
def Pl.size : Pl → Nat
  | .mk _ _ kids _ _ _ _ _ => 1 + Pl.sizeL kids
def Pl.sizeL : List Pl → Nat
  | [] => 0
  | x :: r => x.size + Pl.sizeL r
end
mutual
def Pl.hgt : Pl → Nat
  | .mk _ _ kids _ _ _ _ _ => 1 + Pl.hgtL kids
def Pl.hgtL : List Pl → Nat
  | [] => 0
  | x :: r => max x.hgt (Pl.hgtL r)
end
def morN (k : Int) (i : Nat) : Nat := if k == 10 && i == 1 then 1 else 0
theorem morP_N (k : Int) (i : Nat) : morP k i = (morN k i : Int) := by
  unfold morP morN
  have : ((i : Int) == 1) = (i == 1) := by
    rw [Bool.eq_iff_iff]; simp; omega
  rw [this]
  split <;> rfl
mutual
def Pl.lp : Pl → Nat
  | .mk k _ kids _ _ _ _ _ => Pl.lpL k 0 kids
def Pl.lpL (k : Int) (i : Nat) : List Pl → Nat
  | [] => 0
  | x :: r => max (morN k i + x.lp) (Pl.lpL k (i + 1) r)
end
mutual
/-- Right but for its depth. -/
def Pl.gd : Pl → Prop
  | .mk k m kids ex cols wth agg rds => formedP k m kids.length ex cols wth agg rds = true ∧ (∀ e ∈ ex, checkE e = 0) ∧ Pl.gdL kids
def Pl.gdL : List Pl → Prop
  | [] => True
  | x :: r => x.gd ∧ Pl.gdL r
end
theorem Pl.gdL_mem : ∀ {l : List Pl}, Pl.gdL l → ∀ x ∈ l, x.gd
  | [], _, x, h => by simp at h
  | e :: r, h, x, hx => by
    simp only [Pl.gdL] at h
    rcases List.mem_cons.1 hx with rfl | hx
    · exact h.1
    · exact Pl.gdL_mem h.2 x hx
theorem Pl.gdL_of : ∀ {l : List Pl}, (∀ x ∈ l, x.gd) → Pl.gdL l
  | [], _ => by simp [Pl.gdL]
  | e :: r, h => by
    rw [Pl.gdL]
    exact ⟨h e (by simp), Pl.gdL_of fun x hx => h x (by simp [hx])⟩
theorem Pl.good_gd : ∀ (p : Pl) (d : Nat), p.good d → p.gd ∧ d + p.hgt ≤ 17 := by
  refine Pl.ind fun k m kids ex cols wth agg rds ih d h => ?_
  rw [Pl.good] at h
  obtain ⟨h1, h2, h3, h4⟩ := h
  have hk : ∀ x ∈ kids, x.gd ∧ (d + 1) + x.hgt ≤ 17 := fun x hx => ih x hx (d + 1) (Pl.goodL_mem h4 x hx)
  rw [Pl.gd, Pl.hgt]
  refine ⟨⟨h2, h3, Pl.gdL_of fun x hx => (hk x hx).1⟩, ?_⟩
  have : Pl.hgtL kids ≤ 16 - d := by
    clear ih h4 h2 h3
    induction kids with
    | nil => simp [Pl.hgtL]
    | cons x r ihr =>
      rw [Pl.hgtL]
      have hx := (hk x (by simp)).2
      have := ihr fun y hy => hk y (by simp [hy])
      omega
  omega
theorem exL_good : ∀ (ex : List E) (r : Bool × Bool), (∀ e ∈ ex, checkE e = 0) → exL ex r = r
  | [], r, _ => rfl
  | e :: ex, r, h => by
    have h0 := h e (by simp)
    rw [exL_cons, exL_good ex _ fun x hx => h x (by simp [hx])]
    simp [exF, h0]
def sv (c D L : Nat) (W G : Bool) : PSrv := ((c : Int), (D : Int), (L : Int), W, G)
theorem imax (d D : Nat) : (if (d : Int) > (D : Int) then (d : Int) else (D : Int)) = ((max D d : Nat) : Int) := by
  split <;> omega
def Exact (p : Pl) : Prop := ∀ (d lo c D L : Nat) (W G : Bool), p.gd → d + p.hgt ≤ 17 → c + p.size ≤ 2 ^ 40 → lo + p.hgt ≤ 64 →
  plook p d lo (sv c D L W G) = sv (c + p.size) (max D (d + p.hgt - 1)) (max L (lo + p.lp)) W G
theorem wrapn {n : Nat} (h : n ≤ 2 ^ 41) : IntKind.i64.wrap ((n : Int) + 1) = ((n + 1 : Nat) : Int) := by
  rw [wrap_succ (by simp only [Flat.lim]; omega)]
  simp
theorem plookL_exact {l : List Pl} (ih : ∀ x ∈ l, Exact x) (hg : Pl.gdL l) (k : Int) : ∀ (i d lo c D L : Nat) (W G : Bool), d ≤ D → lo ≤ L → d + 1 + Pl.hgtL l ≤ 17 → c + Pl.sizeL l ≤ 2 ^ 40 → lo + 1 + Pl.hgtL l ≤ 64 →
    plookL l k i d lo (sv c D L W G) = sv (c + Pl.sizeL l) (max D (d + Pl.hgtL l)) (max L (lo + Pl.lpL k i l)) W G := by
  induction l with
  | nil =>
    intro i d lo c D L W G h1 h2 _ _ _
    rw [plookL, Pl.sizeL, Pl.hgtL, Pl.lpL]
    have e1 : max D (d + 0) = D := by omega
    have e2 : max L (lo + 0) = L := by omega
    rw [e1, e2]
    rfl
  | cons x r ihr =>
    intro i d lo c D L W G h1 h2 h3 h4 h5
    rw [Pl.gdL] at hg
    rw [Pl.hgtL] at h3 h5
    rw [Pl.sizeL] at h4
    have hm : morN k i ≤ 1 := by unfold morN; split <;> omega
    have hw : IntKind.i64.wrap ((lo : Int) + morP k i) = ((lo + morN k i : Nat) : Int) := by
      rw [morP_N]
      have := Flat.wrap_small (n := lo + morN k i) (by simp only [Flat.lim]; omega)
      simpa using this
    have hi : ((i : Int) + 1) = ((i + 1 : Nat) : Int) := by simp
    have hh : 1 ≤ x.hgt := by cases x; rw [Pl.hgt]; omega
    rw [plookL, wrapn (by omega), hw, ih x (by simp) (d + 1) (lo + morN k i) c D L W G hg.1 (by omega) (by omega) (by omega), hi,
      ihr (fun y hy => ih y (by simp [hy])) hg.2 (i + 1) d lo (c + x.size) _ _ W G (by omega) (by omega) (by omega) (by omega) (by omega)]
    rw [Pl.sizeL, Pl.hgtL, Pl.lpL]
    have e1 : max (max D (d + 1 + x.hgt - 1)) (d + Pl.hgtL r) = max D (d + max x.hgt (Pl.hgtL r)) := by omega
    have e2 : max (max L (lo + morN k i + x.lp)) (lo + Pl.lpL k (i + 1) r) = max L (lo + max (morN k i + x.lp) (Pl.lpL k (i + 1) r)) := by omega
    rw [e1, e2, Nat.add_assoc]
theorem plook_exact : ∀ p : Pl, Exact p := by
  refine Pl.ind fun k m kids ex cols wth agg rds ih d lo c D L W G hg h1 h2 h3 => ?_
  rw [Pl.gd] at hg
  obtain ⟨hf, hex, hgl⟩ := hg
  rw [Pl.hgt] at h1 h3
  rw [Pl.size] at h2
  rw [plook, hf]
  show (if (!(exL ex (true, G)).1 || decide ((d : Int) > 16)) = true then _ else plookL kids k 0 d lo (IntKind.i64.wrap ((c : Int) + 1), (if (d : Int) > (D : Int) then (d : Int) else (D : Int)), (if (lo : Int) > (L : Int) then (lo : Int) else (L : Int)), W || !(exL ex (true, G)).1, (exL ex (true, G)).2)) = _
  rw [exL_good ex _ hex, imax, imax]
  simp only [sv, Bool.not_true, Bool.or_false, Bool.false_or]
  have hd : ¬ (decide ((d : Int) > 16) = true) := by simp; omega
  rw [if_neg hd, wrapn (by omega)]
  have := plookL_exact ih hgl k 0 d lo (c + 1) (max D d) (max L lo) W G (by omega) (by omega) (by omega) (by omega) (by omega)
  simp only [sv] at this
  have e0 : ((0 : Nat) : Int) = 0 := rfl
  rw [e0] at this
  rw [this, Pl.size, Pl.hgt, Pl.lp]
  have e1 : max (max D d) (d + Pl.hgtL kids) = max D (d + (1 + Pl.hgtL kids) - 1) := by omega
  have e2 : max (max L lo) (lo + Pl.lpL k 0 kids) = max L (lo + Pl.lpL k 0 kids) := by omega
  have e3 : c + 1 + Pl.sizeL kids = c + (1 + Pl.sizeL kids) := by omega
  rw [e1, e2, e3]
/-- What a check asks. -/
def Pl.fits (p : Pl) : Prop := p.gd ∧ p.size ≤ 64 ∧ p.hgt ≤ 16 ∧ p.lp ≤ 2
theorem surveyP_exact {p : Pl} (hg : p.gd) (h : p.hgt ≤ 16) (hs : p.size ≤ 2 ^ 40) : surveyP p = sv p.size p.hgt p.lp false false := by
  have := plook_exact p 1 0 0 0 0 false false hg (by omega) (by omega) (by omega)
  have hh : max 0 (1 + p.hgt - 1) = p.hgt := by omega
  have hl : max 0 (0 + p.lp) = p.lp := by omega
  rw [hh, hl, Nat.zero_add] at this
  exact this
theorem checkP_of {p : Pl} {c D L : Nat} {W G : Bool} (h : surveyP p = sv c D L W G) : checkP p = if W then 4 else if G then 2 else if 64 < c then 2 else if 16 < D then 2 else if 2 < L then 2 else 0 := by
  unfold checkP
  rw [h]
  show (if W = true then (4 : Int) else if G = true then 2 else if decide ((64 : Int) < (c : Int)) = true then 2 else if decide ((16 : Int) < (D : Int)) = true then 2 else if decide ((2 : Int) < (L : Int)) = true then 2 else 0) = _
  simp only [decide_eq_true_eq]
  have e1 : ((64 : Int) < (c : Int)) = (64 < c) := by rw [eq_iff_iff]; omega
  have e2 : ((16 : Int) < (D : Int)) = (16 < D) := by rw [eq_iff_iff]; omega
  have e3 : ((2 : Int) < (L : Int)) = (2 < L) := by rw [eq_iff_iff]; omega
  simp only [e1, e2, e3]
theorem checkP_iff {p : Pl} (hs : p.size ≤ 2 ^ 40) : checkP p = 0 ↔ p.fits := by
  constructor
  · intro h
    obtain ⟨hg, hh⟩ := Pl.good_gd p 1 (checkP_good h)
    have he := surveyP_exact hg (by omega) hs
    rw [checkP_of he] at h
    simp only [Bool.false_eq_true, if_false] at h
    split at h
    · simp at h
    · split at h
      · simp at h
      · split at h
        · simp at h
        · exact ⟨hg, by omega, by omega, by omega⟩
  · rintro ⟨hg, h1, h2, h3⟩
    have he := surveyP_exact hg h2 hs
    rw [checkP_of he]
    simp only [Bool.false_eq_true, if_false]
    rw [if_neg (by omega), if_neg (by omega), if_neg (by omega)]
end Go.Proofs
end
